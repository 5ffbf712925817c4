/- Part of a proof. -/
import Derived.Test.YthfmaclnccdcbaaGreatDoorZFO0
import Derived.Lib.ConvBytes
import Derived.Lib.Varint
import Derived.Lib.Zigzag
import Derived.Lib.EndianBits
import Derived.Laws.Bits64
import Derived.Test.YthfmaclnccdcbaaGreatDoorProg
import Derived.Deep.DeepCutAuto
import Derived.Test.YthfmaclnccdcbaaGreatDoorRows
import Derived.Laws.StructEq
import Derived.Maps.RangeWalk
namespace PA
section
open Go Go.RowKit
def Ld (a:Option Addr) (n c:Nat):Prop:=n≤c∧c≤maxLen∧(a=none→c=0)
structure Rep (α:Type) where
 rel:Mem→List Value→α→Prop
 mono:∀{I J cs x},Mem.le I J→rel I cs x→rel J cs x
def gU {α β:Type} (p:α→β→Prop):List α→List β→Prop
 | [],[]=>True
 | a::l,b::m=>p a b∧gU p l m
 | _,_=>False
theorem gU.wk {α β:Type} {p q:α→β→Prop} (h:∀a b,p a b→q a b):∀{l:List α} {m:List β},gU p l m→gU q l m
 | [],[],_=>trivial
 | _::_,_::_,hh=>⟨h _ _ hh.1,gU.wk h hh.2⟩
 | [],_::_,hh=>hh.elim
 | _::_,[],hh=>hh.elim
theorem gU.length {α β:Type} {p:α→β→Prop}:∀{l:List α} {m:List β},gU p l m→l.length=m.length
 | [],[],_=>rfl
 | _::l,_::m,hh=>by simp[gU.length hh.2]
 | [],_::_,hh=>hh.elim
 | _::_,[],hh=>hh.elim
theorem gU.append {α β:Type} {p:α→β→Prop}:∀{l l':List α} {m m':List β},gU p l m→gU p l' m'→gU p (l++l') (m++m')
 | [],_,[],_,_,h=>h
 | _::_,_,_::_,_,hh,h=>⟨hh.1,gU.append hh.2 h⟩
 | [],_,_::_,_,hh,_=>hh.elim
 | _::_,_,[],_,hh,_=>hh.elim
theorem gU.drop {α β:Type} {p:α→β→Prop}:∀{l:List α} {m:List β} (k:Nat),gU p l m→gU p (l.drop k) (m.drop k)
 | l,m,0,h=>by simpa using h
 | [],[],_+1,h=>h
 | _::_,_::_,k+1,h=>by simpa using gU.drop k h.2
 | [],_::_,_+1,hh=>hh.elim
 | _::_,[],_+1,hh=>hh.elim
theorem gU.take {α β:Type} {p:α→β→Prop}:∀{l:List α} {m:List β} (k:Nat),gU p l m→gU p (l.take k) (m.take k)
 | l,m,0,h=>by simp[gU]
 | [],[],_+1,h=>by simp[gU]
 | _::_,_::_,k+1,h=>by simp only[List.take_succ_cons];exact⟨h.1,gU.take k h.2⟩
 | [],_::_,_+1,hh=>hh.elim
 | _::_,[],_+1,hh=>hh.elim
theorem gU.get {α β:Type} {p:α→β→Prop}:∀{l:List α} {m:List β},gU p l m→∀(i:Nat) (hl:i<l.length) (hm:i<m.length),p l[i] m[i]
 | _::_,_::_,h,0,_,_=>h.1
 | _::_,_::_,h,i+1,hl,hm=>gU.get h.2 i (by simpa using hl) (by simpa using hm)
section
variable {α:Type}
def Rep.is (R:Rep α) (cs:List Value) (x:α):aB:=yY (fun I=>R.rel I cs x) fun _ _ hl h=>R.mono hl h
def Rep.rows (R:Rep α) (k:Nat):Rep (List α) where
 rel I cs xs:=∃css:List (List Value),cs=css.flatten∧gU (fun c x=>R.rel I c x∧c.length=k) css xs
 mono hl:=fun ⟨css,h1,h2⟩=>⟨css,h1,h2.wk fun _ _ h=>⟨R.mono hl h.1,h.2⟩⟩
def Rep.slice (R:Rep α) (k:Nat):Rep (List α) where
 rel I cs xs:=∃a c cells,cs=[.slice a xs.length c]∧Ld a xs.length c∧dF a cells I∧(R.rows k).rel I cells xs
 mono hl:=fun ⟨a,c,cells,h1,h2,h3,h4⟩=>⟨a,c,cells,h1,h2,(by
  rcases h3 with h|⟨b,o,cs,t,f,e1,e2,e3⟩
  ·exact .inl h
  ·exact .inr ⟨b,o,cs,t,f,e1,hl _ _ e2,e3⟩),(R.rows k).mono hl h4⟩
end
def aaO:Rep UInt8:=⟨fun _ cs b=>cs=[.int .u8 b.toNat],fun _ h=>h⟩
def sO:Rep Int:=⟨fun _ cs n=>cs=[.int .i64 n],fun _ h=>h⟩
def bZ:Rep (List UInt8):=aaO.slice 1
def bv (b:UInt8):Value:=.int .u8 b.toNat
def iv (n:Int):Value:=.int .i64 n
theorem D6:∀(l:List Value),(l.map fun v=>[v]).flatten=l
 | []=>rfl
 | v::l=>by simp[D6 l]
theorem sU (I:Mem):∀(cs:List Value) (bs:List UInt8),(aaO.rows 1).rel I cs bs↔cs=bs.map bv:=by
 intro cs bs;constructor
 ·rintro⟨css,rfl,h⟩
  induction bs generalizing css with
  | nil=>cases css with
   | nil=>rfl
   | cons _ _=>exact h.elim
  | cons b bs ih=>cases css with
   | nil=>exact h.elim
   | cons c css=>
    have h1:c=[.int .u8 b.toNat]:=h.1.1;simp only[List.flatten_cons,ih css h.2,h1,mM,bv];rfl
 ·rintro rfl
  refine⟨bs.map fun b=>[bv b],?_,?_⟩
  ·rw[←D6 (bs.map bv)];simp[Function.comp_def]
  ·induction bs with
   | nil=>trivial
   | cons b bs ih=>exact⟨⟨rfl,rfl⟩,ih⟩
theorem Ir (I:Mem):∀(cs:List Value) (bs:List Int),(sO.rows 1).rel I cs bs↔cs=bs.map iv:=by
 intro cs bs;constructor
 ·rintro⟨css,rfl,h⟩
  induction bs generalizing css with
  | nil=>cases css with
   | nil=>rfl
   | cons _ _=>exact h.elim
  | cons b bs ih=>cases css with
   | nil=>exact h.elim
   | cons c css=>
    have h1:c=[.int .i64 b]:=h.1.1;simp only[List.flatten_cons,ih css h.2,h1,mM,iv];rfl
 ·rintro rfl
  refine⟨bs.map fun b=>[iv b],?_,?_⟩
  ·rw[←D6 (bs.map iv)];simp[Function.comp_def]
  ·induction bs with
   | nil=>trivial
   | cons b bs ih=>exact⟨⟨rfl,rfl⟩,ih⟩
section
variable {W w:World} {A:aB}
theorem Sat.DU {v:Value} {bs:List UInt8} (h:Sat W w (sep (bZ.is [v] bs) A)):
 ∃a c,v=.slice a bs.length c∧Ld a bs.length c∧Sat W w (sep (U0 a (bs.map bv)) (sep (bZ.is [v] bs) A)):=by
 obtain⟨a,c,cells,h1,h2,_,h4⟩:=h.Ai;cases h1;refine⟨a,c,rfl,h2,?_⟩;refine h.dup.wk ?_;rintro I m ⟨x,y,h5,h6,⟨h7,a',c',cells',e1,e2,e3,e4⟩,h9⟩;cases e1;exact⟨x,y,h5,h6,⟨h7,by rw[(sU _ _ _).1 e4] at e3;exact e3⟩,h9⟩
theorem Sat.VW {a:Option Addr} {c:Nat} {bs:List UInt8} (h:Sat W w (sep (U0 a (bs.map bv)) A)) (hw:Ld a bs.length c):Sat W w (sep (bZ.is [.slice a bs.length c] bs) A):=by
 refine h.wk ?_;rintro I m ⟨x,y,h5,h6,⟨h7,h8⟩,h9⟩;exact⟨x,y,h5,h6,⟨h7,a,c,_,rfl,hw,h8,(sU _ _ _).2 rfl⟩,h9⟩
theorem Sat.fQ {E k:Nat} {a:Option Addr} {n c:Nat} {xs:List Value} (h:Sat W w (sep (aT E k a n c xs) A)):Ld a n c:=by
 rcases h.iD with ⟨rfl,rfl,rfl,rfl,_⟩|⟨g,cur,rfl,h1,h2,h3,_⟩
 ·exact⟨Nat.le_refl _,Nat.zero_le _,fun _=>rfl⟩
 ·exact⟨h2,h3,fun h=>(by cases h)⟩
theorem Sat.Ja {E:Nat} {a:Option Addr} {n c:Nat} {bs:List UInt8} (h:Sat W w (sep (aT E 1 a n c (bs.map bv)) A)):n=bs.length∧Sat W w (sep (bZ.is [.slice a n c] bs) A):=by
 have hn:n=bs.length:=by have:=h.vY.1;simp at this;exact this.symm
 subst hn;exact⟨rfl,h.eF.VW h.fQ⟩
end
theorem nZ {α:Type} {R:Rep α} {k:Nat} {I:Mem} {cs c:List Value} {xs:List α} {x:α} (h:(R.rows k).rel I cs xs) (hx:R.rel I c x) (hk:c.length=k):(R.rows k).rel I (cs++c) (xs++[x]):=by
 obtain⟨css,rfl,h2⟩:=h;exact⟨css++[c],by simp,h2.append ⟨⟨hx,hk⟩,trivial⟩⟩
theorem Sat.snoc {W w:World} {A:aB} {α:Type} {R:Rep α} {k:Nat} {cs c:List Value} {xs:List α} {x:α} (h:Sat W w (sep ((R.rows k).is cs xs) (sep (R.is c x) A))) (hk:c.length=k):Sat W w (sep ((R.rows k).is (cs++c) (xs++[x])) A):=by
 refine h.wk ?_;rintro I m ⟨x1,y1,d1,e1,⟨rfl,h1⟩,x2,y2,d2,rfl,⟨rfl,h2⟩,h3⟩;refine⟨Mem.no,y2,fun _=>.inl rfl,by rw[e1,Mem.qH],⟨rfl,nZ h1 h2 hk⟩,h3⟩
theorem gU.mem {α β:Type} {p:α→β→Prop}:∀{l:List α} {m:List β},gU p l m→∀a∈l,∃b,p a b
 | a::l,b::m,h,x,hx=>by
  rcases List.mem_cons.1 hx with rfl|hx
  ·exact⟨b,h.1⟩
  ·exact gU.mem h.2 x hx
 | [],_,_,_,hx=>by cases hx
def iR (k:Int) (e:MapEntry):Bool:=match e.key with|.int _ n=>n==k|_=>false
structure gG (es:List MapEntry) (f:Int→Option Value):Prop where
 keys:∀e∈es,∃k,e.key=.int .i64 k
 nodup:es.Pairwise fun x y=>x.key≠y.key
 get:∀k,(es.find? (iR k)).map (·.val)=f k
def kW (b:Nat) (f:Int→Option Value) (n:Nat):aB:=ex fun s:Array MapEntry×Nat=>sep (fact (gG s.1.toList f∧s.1.size=n)) (blk b (.map s.1 s.2))
def mY {α:Type} (f:Int→Option α) (k:Int) (v:Option α):Int→Option α:=fun x=>if x=k then v else f x
theorem D5 (k:Int):∀(es:List MapEntry),(∀e∈es,∃n,e.key=.int .i64 n)→∀i,∃r,Instr.findNow (.int .i64) (.int .i64 k) es i=some r ∧
 r.map (·.2)=(es.find? (iR k)).map (·.val)∧∀j v,r=some (j,v)→i≤j∧∃e,es[j-i]?=some e∧e.key=.int .i64 k∧e.val=v
 | [],_,i=>⟨none,rfl,rfl,fun _ _ h=>(by cases h)⟩
 | e::es,h,i=>by
  obtain⟨n,hn⟩:=h e (by simp);simp only[Instr.findNow,hn,Instr.sameNow,if_true];by_cases hk:k=n
  ·subst hk
   refine⟨some (i,e.val),by simp,by simp[iR,hn],?_⟩;rintro j v h;cases h;exact⟨Nat.le_refl _,e,by simp,hn,rfl⟩
  ·obtain⟨r,h1,h2,h3⟩:=D5 k es (fun x hx=>h x (by simp[hx])) (i+1)
   have:(k==n)=false:=by simp[hk]
   refine⟨r,by simp[this,h1],?_,?_⟩
   ·rw[h2]
    have:iR k e=false:=by simp[iR,hn];omega
    simp[this]
   ·intro j v hr
    obtain⟨h4,e',h5,h6⟩:=h3 j v hr;refine⟨by omega,e',?_,h6⟩;rw[show j-i=(j-(i+1))+1 by omega];simpa using h5
section
variable {P:Program} {W w:World} {A:aB}
theorem Sat.Ad {b:Nat} {f:Int→Option Value} {n:Nat} (h:Sat W w (sep (kW b f n) A)):∃es clock,gG es.toList f∧es.size=n∧Sat W w (sep (blk b (.map es clock)) A):=by
 rw[kW,fP,Sat.ex] at h;obtain⟨⟨es,clock⟩,h⟩:=h;rw[aj] at h;have h':=Sat.fact.1 h;exact⟨es,clock,h'.1.1,h'.1.2,h'.2⟩
theorem Sat.Jq {b:Nat} {f:Int→Option Value} {n:Nat} {es:Array MapEntry} {clock:Nat} (h:Sat W w (sep (blk b (.map es clock)) A)) (h1:gG es.toList f) (h2:es.size=n):Sat W w (sep (kW b f n) A):=by
 rw[kW,fP,Sat.ex];refine⟨(es,clock),?_⟩;rw[aj];exact Sat.fact.2 ⟨⟨h1,h2⟩,h⟩
theorem gG.nil:gG [] (fun _=>none):=⟨fun _ h=>(by cases h),.nil,fun _=>rfl⟩
theorem gG.push {es:List MapEntry} {f:Int→Option Value} (h:gG es f) (k:Int) (v:Value) (c:Nat) (hk:f k=none):gG (es++[{ key:=.int .i64 k,val:=v,born:=c }]) (mY f k (some v)):=by
 have hno:∀e∈es,e.key≠.int .i64 k:=fun e he hke=>by
  have h1:=h.get k;rw[hk] at h1;cases hf:es.find? (iR k) with
  | some x=>rw[hf] at h1;cases h1
  | none=>rw[List.find?_eq_none] at hf;exact hf e he (by simp[iR,hke])
 refine⟨fun e he=>?_,List.pairwise_append.2 ⟨h.nodup,by simp,fun x hx y hy=>?_⟩,fun x=>?_⟩
 ·rcases List.mem_append.1 he with he|he
  ·exact h.keys e he
  ·simp at he;subst he;exact⟨k,rfl⟩
 ·simp at hy;subst hy;exact hno x hx
 ·rw[List.find?_append]
  have h1:=h.get x;by_cases e:x=k
  ·subst e
   rw[hk] at h1;have hf:es.find? (iR x)=none:=by
    cases hf:es.find? (iR x) with
    | none=>rfl
    | some _=>rw[hf] at h1;cases h1
   simp[hf,iR,mY]
  ·have:(if k=x then some ({ key:=.int .i64 k,val:=v,born:=c }:MapEntry) else none)=none:=if_neg (fun h=>e h.symm)
   simp[iR,mY,e,←h1,beq_false_of_ne (fun h=>e h.symm:k≠x)]
theorem V5 {es:List MapEntry} (hnd:es.Pairwise fun x y=>x.key≠y.key) {j:Nat} {e:MapEntry} {k:Int} (hj:es[j]?=some e) (hek:e.key=.int .i64 k):
 ∀x∈es,x.key=.int .i64 k→∃j',es[j']?=some x∧j'=j:=by
 intro x hx hxk;obtain⟨i,hi,rfl⟩:=List.mem_iff_getElem.1 hx;refine⟨i,iM hi,?_⟩;obtain⟨hj1,rfl⟩:=qM hj;rcases Nat.lt_trichotomy i j with h|h|h
 ·exact absurd (hxk.trans hek.symm) (List.pairwise_iff_getElem.1 hnd i j hi hj1 h)
 ·exact h
 ·exact absurd (hek.trans hxk.symm) (List.pairwise_iff_getElem.1 hnd j i hj1 hi h)
theorem gG.erase {es:List MapEntry} {f:Int→Option Value} (h:gG es f) (k:Int) {j:Nat} {e:MapEntry} (hj:es[j]?=some e) (he:e.key=.int .i64 k):gG (es.eraseIdx j) (mY f k none):=by
 have hsub:=List.eraseIdx_sublist es j;obtain⟨hj1,hj2⟩:=qM hj;have hno:∀x∈es.eraseIdx j,x.key≠.int .i64 k:=fun x hx hxk=>by
  obtain⟨i,hne,hi⟩:=List.mem_eraseIdx_iff_getElem?.1 hx;obtain⟨j',h1,h2⟩:=V5 h.nodup hj he x (hsub.mem hx) hxk;obtain⟨hi1,hi2⟩:=qM hi;rcases Nat.lt_trichotomy i j with h3|h3|h3
  ·exact List.pairwise_iff_getElem.1 h.nodup i j hi1 hj1 h3 (by rw[hi2,hj2,hxk,he])
  ·exact hne h3
  ·exact List.pairwise_iff_getElem.1 h.nodup j i hj1 hi1 h3 (by rw[hi2,hj2,hxk,he])
 refine⟨fun x hx=>h.keys x (hsub.mem hx),h.nodup.sublist hsub,fun x=>?_⟩;by_cases e':x=k
 ·subst e'
  have:(es.eraseIdx j).find? (iR x)=none:=by
   rw[List.find?_eq_none];intro y hy hky;obtain⟨n,hn⟩:=h.keys y (hsub.mem hy);simp[iR,hn] at hky;subst hky;exact hno y hy hn
  simp[this,mY]
 ·rw[show mY f k none x=f x by simp[mY,e'],←h.get x]
  have hsplit:es=es.take j++e::es.drop (j+1):=by
   rw[←hj2,←List.drop_eq_getElem_cons hj1,List.take_append_drop]
  have hke:iR x e=false:=by simp[iR,he];exact fun h=>e' h.symm
  rw[List.eraseIdx_eq_take_drop_succ]
  conv=>rhs;rw[hsplit]
  simp[List.find?_append,hke]
theorem iU {K:TypeId} {k:Int} (hK:P.underlying K=some (.int .i64)) (b:Bool) (w:World):(Instr.checkKey b 10000 K (.int .i64 k)).run P w=.ok () w:=by
 have:∀n,(Instr.checkKey b (n+1) K (.int .i64 k)).run P w=.ok () w:=fun n=>by simp[Instr.checkKey,run_underlying hK]
 exact this 9999
theorem run_getObj_map {b:Nat} {es:Array MapEntry} {clock:Nat} (h:w.heap[b]?=some (.map es clock)):(getObj b).run P w=.ok (.map es clock) w:=by
 simp[getObj,Sem.run,h]
theorem ng {K:TypeId} {k:Int} {es:List MapEntry} {f:Int→Option Value} (hK:P.underlying K=some (.int .i64)) (hr:gG es f) (w:World):
 ∃r,(Instr.findKey K (.int .i64 k) es).run P w=.ok r w∧r.map (·.2)=f k∧∀j v,r=some (j,v)→∃e,es[j]?=some e∧e.key=.int .i64 k∧e.val=v:=by
 obtain⟨r,h1,h2,h3⟩:=D5 k es hr.keys 0;refine⟨r,?_,by rw[h2,hr.get],fun j v h=>by simpa using (h3 j v h).2⟩;simp[Instr.findKey,run_underlying hK,h1]
theorem nC {T K E:TypeId} {z:Value} (hT:P.underlying T=some (.map K E)) (hK:P.underlying K=some (.int .i64)) (hz:∀w,(zeroValue E).run P w=.ok z w)
 {b:Nat} {f:Int→Option Value} {n:Nat} (h:Sat W w (sep (kW b f n) A)) (k:Int) (ok:Bool):
 (Instr.lookup T (.map (some b)) (.int .i64 k) ok).run P w=.ok (if ok then .tuple #[(f k).getD z,.bool (f k).isSome] else (f k).getD z) w:=by
 obtain⟨es,clock,h1,h2,h3⟩:=h.Ad;obtain⟨r,e1,e2,e3⟩:=ng (P:=P) (k:=k) hK h1 w;have hg:=run_getObj_map (P:=P) h3.aO;rw[←e2];cases r with
 | none=>cases ok<;>simp[Instr.lookup,run_underlying hT,hg,iU hK,e1,hz]
 | some r=>obtain⟨i,v⟩:=r;cases ok<;>simp[Instr.lookup,run_underlying hT,hg,iU hK,e1]
theorem run_setObj_map {b:Nat} {es:Array MapEntry} {clock:Nat} (h:w.heap[b]?=some (.map es clock)) (o:Obj):(setObj b o).run P w=.ok () { w with heap:=w.heap.setIfInBounds b o }:=by
 simp[setObj,Sem.run,h]
theorem Sat.setObj {b:Nat} {o:Obj} (h:Sat W w (sep (blk b o) A)) (o':Obj):Sat W { w with heap:=w.heap.setIfInBounds b o' } (sep (blk b o') A):=
 h.change rfl rfl rfl (by simp[h.lt]) fun k hk _=>by simp[Ne.symm hk]
theorem Fg {T K E:TypeId} (hT:P.underlying T=some (.map K E)) (hK:P.underlying K=some (.int .i64)) {b:Nat} {f:Int→Option Value} {n:Nat} (h:Sat W w (sep (kW b f n) A)) (k:Int) (v:Value) (hk:f k=none):
 ∃w',(Instr.mapUpdate T (.map (some b)) (.int .i64 k) v).run P w=.ok () w'∧Sat W w' (sep (kW b (mY f k (some v)) (n+1)) A):=by
 obtain⟨es,clock,h1,h2,h3⟩:=h.Ad;obtain⟨r,e1,e2,e3⟩:=ng (P:=P) (k:=k) hK h1 w;have hg:=run_getObj_map (P:=P) h3.aO;rw[hk] at e2;obtain rfl:r=none:=by cases r with|none=>rfl|some _=>cases e2
 refine⟨_,by simp[Instr.mapUpdate,run_underlying hT,hg,iU hK,e1,run_setObj_map (P:=P) h3.aO];rfl,(h3.setObj _).Jq ?_ (by simp[h2])⟩;simpa using h1.push k v clock hk
theorem gG.modify {es:List MapEntry} {f:Int→Option Value} (h:gG es f) (k:Int) (v:Value) {j:Nat} {e:MapEntry} (hj:es[j]?=some e) (he:e.key=.int .i64 k):
 gG (es.modify j fun x=>{ x with key:=.int .i64 k,val:=v }) (mY f k (some v)):=by
 obtain⟨hj1,hj2⟩:=qM hj;have hsplit:es=es.take j++e::es.drop (j+1):=by
  rw[←hj2,←List.drop_eq_getElem_cons hj1,List.take_append_drop]
 have hmod:(es.modify j fun x=>{ x with key:=.int .i64 k,val:=v })=es.take j++{ e with key:=.int .i64 k,val:=v }::es.drop (j+1):=by
  rw[List.modify_eq_take_cons_drop hj1,hj2]
 have hnd:=h.nodup;rw[hsplit] at hnd;rw[hmod];have hp:=List.pairwise_append.1 hnd;have hc:=List.pairwise_cons.1 hp.2.1;refine⟨fun x hx=>?_,List.pairwise_append.2 ⟨hp.1,List.pairwise_cons.2 ⟨fun y hy=>?_,hc.2⟩,fun x hx y hy=>?_⟩,fun x=>?_⟩
 ·simp only[List.mem_append,List.mem_cons] at hx
  rcases hx with hx|rfl|hx
  ·exact h.keys x (List.mem_of_mem_take hx)
  ·exact⟨k,rfl⟩
  ·exact h.keys x (List.mem_of_mem_drop hx)
 ·have:=hc.1 y hy;rw[he] at this;exact this
 ·rcases List.mem_cons.1 hy with rfl|hy
  ·have:=hp.2.2 x hx e (by simp);rw[he] at this;exact this
  ·exact hp.2.2 x hx y (by simp[hy])
 ·by_cases e':x=k
  ·subst e'
   have hno:(es.take j).find? (iR x)=none:=by
    rw[List.find?_eq_none];intro y hy hky;obtain⟨n,hn⟩:=h.keys y (List.mem_of_mem_take hy);simp[iR,hn] at hky;subst hky;exact hp.2.2 y hy e (by simp) (hn.trans he.symm)
   simp[List.find?_append,hno,iR,mY]
  ·rw[show mY f k (some v) x=f x by simp[mY,e'],←h.get x]
   have h1:iR x e=false:=by simp[iR,he];exact fun h=>e' h.symm
   have h2:iR x { e with key:=.int .i64 k,val:=v }=false:=by simp[iR];exact fun h=>e' h.symm
   conv=>rhs;rw[hsplit]
   simp[List.find?_append,h1,h2]
theorem JW (n:Nat) (k:Int):Instr.sameBits n (.int .i64 k) (.int .i64 k)=true:=by cases n<;>simp[Instr.sameBits]
end
end
section
open Go Go.RowKit
def kn (I:Mem):aB:=yY (Mem.le I) fun _ _ hl h b o hb=>hl _ _ (h b o hb)
def Ext (I:Mem) (w:World):Prop:=∀b o,I b=some o→w.heap[b]?=some o
section
variable {W w w':World} {A:aB} {I J:Mem}
theorem Sat.ext (h:Sat W w (sep (kn I) A)):Ext I w:=h.Ai
theorem Sat.know (h:Sat W w A):∃I,Sat W w (sep (kn I) A):=by
 obtain⟨h1,h2,h3,I,m,h4,h5,h6,h7⟩:=h;exact⟨I,h1,h2,h3,I,m,h4,h5,h6,Mem.no,m,fun _=>.inl rfl,(Mem.qH _).symm,⟨rfl,bW I⟩,h7⟩
theorem Sat.learn {p:Mem→Prop} {hp:∀I J,Mem.le I J→p I→p J} (h:Sat W w (sep (yY p hp) (sep (kn I) A))):∃J,Mem.le I J∧p J∧Sat W w (sep (kn J) A):=by
 obtain⟨h1,h2,h3,J,m,h4,h5,h6,x,y,h7,rfl,⟨rfl,hp'⟩,x',y',h8,rfl,⟨rfl,hle⟩,h9⟩:=h;refine⟨J,hle,hp',h1,h2,h3,J,_,h4,h5,h6,Mem.no,y',fun _=>.inl rfl,?_,⟨rfl,bW J⟩,h9⟩;rw[Mem.qH]
theorem Sat.tell {p:Mem→Prop} {hp:∀I J,Mem.le I J→p I→p J} (h:Sat W w (sep (kn I) A)) (hI:p I):Sat W w (sep (yY p hp) (sep (kn I) A)):=by
 refine h.wk ?_;rintro K m ⟨x,y,h7,rfl,⟨rfl,hle⟩,h9⟩;exact⟨Mem.no,_,fun _=>.inl rfl,(Mem.qH _).symm,⟨rfl,hp _ _ hle hI⟩,Mem.no,y,fun _=>.inl rfl,rfl,⟨rfl,hle⟩,h9⟩
theorem Sat.RP (h:Sat W w (sep (kn J) A)) (hle:Mem.le I J):Sat W w (sep (kn I) A):=by
 refine h.wk ?_;rintro K m ⟨x,y,h7,rfl,⟨rfl,hle'⟩,h9⟩;exact⟨Mem.no,y,fun _=>.inl rfl,rfl,⟨rfl,fun b o hb=>hle' _ _ (hle _ _ hb)⟩,h9⟩
theorem eG {I J K:Mem} (h:Mem.le I J) (k:Mem.le J K):Mem.le I K:=fun _ _ hb=>k _ _ (h _ _ hb)
theorem lD {a:Option Addr} {xs:List Value} (h:dF a xs I) (hne:xs≠[]):∃b o,a=some ⟨b,o,none⟩∧∀w',Ext I w'→∀i u,xs[i]?=some u→w'.cell? ⟨b,o+i,none⟩=some u:=by
 rcases h with h|⟨b,o,cs,t,f,h1,h2,h3⟩
 ·exact absurd h hne
 ·exact⟨b,o,h1,fun w' he i u hu=>by rw[cell_of_row w' b (o+i) cs t f (he _ _ h2)];exact h3 i u hu⟩
theorem Jb {a:Option Addr} {xs:List Value} (hl:Mem.le I J) (h:dF a xs I):dF a xs J:=by
 rcases h with h|⟨b,o,cs,t,f,h1,h2,h3⟩
 ·exact .inl h
 ·exact .inr ⟨b,o,cs,t,f,h1,hl _ _ h2,h3⟩
theorem vG {v:Value} {bs:List UInt8}:bZ.rel I [v] bs↔∃a c,v=.slice a bs.length c∧Ld a bs.length c∧dF a (bs.map bv) I:=by
 constructor
 ·rintro⟨a,c,cells,h1,h2,h3,h4⟩
  cases h1;rw[(sU _ _ _).1 h4] at h3;exact⟨a,c,rfl,h2,h3⟩
 ·rintro⟨a,c,rfl,h2,h3⟩
  exact⟨a,c,_,rfl,h2,h3,(sU _ _ _).2 rfl⟩
end
theorem jm (w:World) (cs:List Value) (t:TypeId):∀j u,cs[j]?=some u→(w.alloc (.cells cs.toArray t)).cell? ((⟨w.heap.size,0,none⟩:Addr).add j)=some u:=by
 intro j u h;have:(⟨w.heap.size,0,none⟩:Addr).add j=⟨w.heap.size,j,none⟩:=by unfold Addr.add;split<;>simp_all
 rw[this,World.cell?_alloc_new];simpa using h
theorem RZ {w:World} {b:Addr} {xs:List Value} (h:∀j u,xs[j]?=some u→w.cell? (b.add j)=some u) (o:Obj):∀j u,xs[j]?=some u→(w.alloc o).cell? (b.add j)=some u:=by
 intro j u hu;have:=h j u hu;rw[World.cell?_alloc_lt w o _ (World.block_lt_of_cell? w _ this)];exact this
theorem Pj (bs:List UInt8):∀u∈bs.map bv,u.oneCell'=true:=by
 intro u hu;obtain⟨b,_,rfl⟩:=List.mem_map.1 hu;rfl
theorem CY {I:Mem} {w:World} {a:Option Addr} {xs:List Value} (h:dF a xs I) (he:Ext I w):∀b,a=some b→∀j u,xs[j]?=some u→w.cell? (b.add j)=some u:=by
 intro b hb j u hu;obtain⟨b',o,e,hc⟩:=lD h (fun e=>by rw[e] at hu;simp at hu);rw[hb] at e;cases e;have:=hc w he j u hu;unfold Addr.add;split
 ·rename_i e;subst e;simpa using this
 ·exact this
end
section
open Go
abbrev U64:={ x:Nat // x<18446744073709551616 }
end
section
open Go
structure Rt where
 n:Int
 d:Int
 deriving DecidableEq
def nY:Nat:=1099511627776
def nX:Nat:=1048576
def oK (neg:Bool) (n d:Nat):Rt×Int:=
 if nY<n / Nat.gcd n d∨nX<d / Nat.gcd n d then (⟨0,0⟩,5)
 else (⟨if neg=true then -((n / Nat.gcd n d:Nat):Int) else ((n / Nat.gcd n d:Nat):Int),((d / Nat.gcd n d:Nat):Int)⟩,0)
def newR (num den:Int):Rt×Int:=
 if den=0 then (⟨0,0⟩,1) else oK (decide (num<0) !=decide (den<0)) num.natAbs den.natAbs
def okR (r:Rt):Bool:=decide (1≤r.d)&&decide (newR r.n r.d=(r,0))
theorem G6 {neg:Bool} {n d:Nat} {r:Rt} (h:oK neg n d=(r,0)):r.n.natAbs=n / Nat.gcd n d∧r.d=((d / Nat.gcd n d:Nat):Int)∧n / Nat.gcd n d≤nY∧d / Nat.gcd n d≤nX:=by
 unfold oK at h;split at h
 ·cases h
 ·rename_i h'
  have h1:n / Nat.gcd n d≤nY:=by
   rcases Nat.lt_or_ge nY (n / Nat.gcd n d) with h2|h2
   ·exact absurd (.inl h2) h'
   ·exact h2
  have h2:d / Nat.gcd n d≤nX:=by
   rcases Nat.lt_or_ge nX (d / Nat.gcd n d) with h2|h2
   ·exact absurd (.inr h2) h'
   ·exact h2
  obtain⟨rfl⟩:=(Prod.mk.inj h).1;refine⟨?_,rfl,h1,h2⟩;show Int.natAbs (if neg=true then -((n / Nat.gcd n d:Nat):Int) else ((n / Nat.gcd n d:Nat):Int))=_;by_cases e:neg=true
  ·rw[if_pos e,Int.natAbs_neg,Int.natAbs_natCast]
  ·rw[if_neg e,Int.natAbs_natCast]
structure Rok (r:Rt):Prop where
 d1:1≤r.d
 d2:r.d≤1048576
 n1:-1099511627776≤r.n
 n2:r.n≤1099511627776
theorem Zy {n d:Int} {r:Rt} (h:newR n d=(r,0)) (hd:0<d):Rok r∧(r.n=0↔n=0)∧(0<r.n↔0<n):=by
 unfold newR at h;rw[if_neg (by omega)] at h;have h0:=h;obtain⟨h1,h2,h3,h4⟩:=G6 h;unfold nY at h3;unfold nX at h4;have hg:0<Nat.gcd n.natAbs d.natAbs:=Nat.gcd_pos_of_pos_right _ (by omega);have hdv:0<d.natAbs / Nat.gcd n.natAbs d.natAbs:=Nat.div_pos (Nat.le_of_dvd (by omega) (Nat.gcd_dvd_right _ _)) hg;have hz:n.natAbs / Nat.gcd n.natAbs d.natAbs=0↔n.natAbs=0:=by
  constructor
  ·intro e
   rcases (Nat.div_eq_zero_iff).1 e with e|e
   ·omega
   ·rcases Nat.eq_zero_or_pos n.natAbs with h|h
    ·exact h
    ·have:=Nat.le_of_dvd h (Nat.gcd_dvd_left n.natAbs d.natAbs);omega
  ·intro e;rw[e];simp
 refine⟨⟨by omega,by omega,by omega,by omega⟩,by omega,?_⟩;unfold oK at h0;split at h0
 ·cases h0
 ·have e:=(Prod.mk.inj h0).1
  have hd':decide (d<0)=false:=decide_eq_false (by omega);rw[hd'] at e;subst e;by_cases hn:n<0
  ·simp only[hn,decide_true]
   simp;omega
  ·simp only[hn,decide_false]
   simp;constructor
   ·intro h
    have:n.natAbs≠0:=fun e=>by rw[e] at h;simp at h
    omega
   ·intro h
    have:=hz;omega
theorem oV {r:Rt} (h:okR r=true):Rok r∧newR r.n r.d=(r,0):=by
 simp only[okR,Bool.and_eq_true,decide_eq_true_eq] at h;exact⟨(Zy h.2 (by omega)).1,h.2⟩
theorem Xb (n d:Int) (hd:0<d) (hdn:okR ⟨n,d⟩=true):Nat.gcd n.natAbs d.natAbs=1:=by
 have h:=(oV hdn).2;unfold newR at h;rw[if_neg (by show ¬d=0;omega)] at h;obtain⟨-,h2,-,-⟩:=G6 h;have h2':d=((d.natAbs / Nat.gcd n.natAbs d.natAbs:Nat):Int):=h2;rcases Nat.lt_or_ge 1 (Nat.gcd n.natAbs d.natAbs) with h3|h3
 ·have:=Nat.div_lt_self (n:=d.natAbs) (by omega) h3
  omega
 ·have:0<Nat.gcd n.natAbs d.natAbs:=Nat.gcd_pos_of_pos_right _ (by omega)
  omega
theorem uS (n d:Int) (h1:1≤d) (h2:d≤1048576) (h3:n.natAbs≤1099511627776) (h4:Nat.gcd n.natAbs d.natAbs=1):okR ⟨n,d⟩=true:=by
 simp only[okR,Bool.and_eq_true,decide_eq_true_eq];refine⟨h1,?_⟩;unfold newR oK;rw[if_neg (by omega),h4,Nat.div_one,Nat.div_one,if_neg]
 ·have hdd:decide (d<0)=false:=decide_eq_false (by omega)
  rw[hdd];refine congrArg (·,(0:Int)) ?_;by_cases hn:n<0
  ·simp only[hn,decide_true]
   simp;exact⟨by omega,by omega⟩
  ·simp only[hn,decide_false]
   simp;exact⟨by omega,by omega⟩
 ·unfold nY nX
  omega
end
end PA
namespace Go.Proofs.YthfmaclnccdcbaaGreatDoor
open Go.RowKit PA
set_option maxHeartbeats 1000000 in
theorem Wj {W w:World} {A:aB} (a b:Nat) (ha:a<18446744073709551616) (hb:b<18446744073709551616) (h:Sat W w A):
 Calls Tryz.prog 235 #[.int .u64 a,.int .u64 b] w fun e w'=>e=.returned (.int .u64 (Nat.gcd a b:Nat))∧Sat W w' A:=by
 obtain⟨g,hg⟩:=aC (Nat.gcd a b);rw[←hg];have HG:=ah hg;clear hg;go_enter Tryz.func235,Tryz.ntmps235;go_wp2;go_loopw [0,1] (fun av bv wr=>∃x y:Nat,av=.int .u64 x∧bv=.int .u64 y∧x<18446744073709551616∧y<18446744073709551616∧Nat.gcd x y=g∧Sat W wr A) (fun _ bv _=>(intOf bv).toNat)
 case atStart=>exact⟨a,b,rfl,rfl,ha,hb,HG.out.symm,h⟩
 case round=>
  obtain⟨x,y,rfl,rfl,hx,hy,hxy,hS⟩:=hrel;have UR:=ah hxy;clear hxy;by_cases h0:0<y
  ·have h0I:(0:Int)<y:=by omega
   have hy0:¬y=0:=by omega
   obtain⟨z,hz⟩:=aC (x % y);have hm:(x:Int).tmod (y:Int)=(z:Int):=by rw[hz,Int.tmod_eq_emod_of_nonneg (by omega)];omega
   have hm2:z<y:=by rw[hz];exact Nat.mod_lt _ h0
   have HZ:=ah hz;clear hz;go_wp2;refine aG rfl (fun _=>True) [(0,.p),(1,.p),(2,.p),(3,.p),(4,.p),(5,.p)] (by kernel_rfl) ?_;have hS0:True:=trivial;refine bG ?_;refine dJ ?_;go_wp2;go_roundw;case rel=>exact⟨y,z,rfl,rfl,hy,by omega,by rw[HZ.out,←UR.out,Nat.gcd_comm y,←Nat.gcd_rec,Nat.gcd_comm],hS.drew⟩
   case measure=>simp[intOf];omega
  ·obtain rfl:y=0:=by omega
   go_wp2;go_ret;exact⟨by rw[←UR.out];simp,hS⟩
theorem Iw (n:Int) (h1:-9223372036854775808≤n) (h2:n≤9223372036854775807) (w:World):
 Calls Tryz.prog 225 #[.int .i64 n] w fun e w'=>e=.returned (.int .u64 (n.natAbs:Nat))∧w=w':=by
 by_cases hn:n<0
 ·have e1:IntKind.u64.wrap n=n+18446744073709551616:=by rw[IntKind.wrap_u64];omega
  have e2:IntKind.u64.wrap (-(n+18446744073709551616))=(n.natAbs:Int):=by rw[IntKind.wrap_u64];omega
  go_enter Tryz.func225,Tryz.ntmps225;go_wp2;go_ret;exact⟨rfl,rfl⟩
 ·have e1:IntKind.u64.wrap n=(n.natAbs:Int):=by rw[IntKind.wrap_u64];omega
  go_enter Tryz.func225,Tryz.ntmps225;go_wp2;go_ret;exact⟨rfl,rfl⟩
theorem kX {W w:World} {A:aB} {q:Nat} {u v:Value} {t:TypeId} (h:Sat W w (sep (blk q (.cells #[u,v] t (0,0))) A)):
 w.cell? ⟨q,0,none⟩=some u∧w.cell? ⟨q,1,none⟩=some v∧w.frozen? ⟨q,0,none⟩=false∧w.frozen? ⟨q,1,none⟩=false:=⟨h.cell 0,h.cell 1,h.aI 0,h.aI 1⟩
theorem wu {W w:World} {A:aB} {q:Nat} {u v:Value} {t:TypeId} (h:Sat W w (sep (blk q (.cells #[u,v] t (0,0))) A)) (x y:Value):
 Sat W ((w.setCell ⟨q,0,none⟩ x).setCell ⟨q,1,none⟩ y) (sep (blk q (.cells #[x,y] t (0,0))) A):=(h.setCell 0 x).setCell 1 y
set_option maxHeartbeats 1000000 in
theorem Ph {W w:World} {A:aB} (neg:Bool) (n d:Nat) (hn:n<18446744073709551616) (hd:d<18446744073709551616) (h0:0<d) (h:Sat W w A):
 Calls Tryz.prog 224 #[.bool neg,.int .u64 n,.int .u64 d] w fun e w'=>e=.returned (.tuple #[.agg #[.int .i64 (oK neg n d).1.n,.int .i64 (oK neg n d).1.d],.int .i64 (oK neg n d).2])∧Sat W w' A:=by
 obtain⟨g,hg⟩:=aC (Nat.gcd n d);have hg0:0<g:=by rw[hg];exact Nat.gcd_pos_of_pos_right _ h0
 have hg1:¬g=0:=by omega
 have hgl:g<18446744073709551616:=by rw[hg];exact Nat.lt_of_le_of_lt (Nat.gcd_le_right _ h0) hd
 obtain⟨x,hx⟩:=aC (n / g);obtain⟨y,hy⟩:=aC (d / g);have hxl:x≤n:=by rw[hx];exact Nat.div_le_self _ _
 have hyl:y≤d:=by rw[hy];exact Nat.div_le_self _ _
 have hdx:(n:Int).tdiv (g:Int)=(x:Int):=by rw[hx,Int.tdiv_eq_ediv_of_nonneg (by omega)];omega
 have hdy:(d:Int).tdiv (g:Int)=(y:Int):=by rw[hy,Int.tdiv_eq_ediv_of_nonneg (by omega)];omega
 have hgc:=fun w0 (A0:aB) (h0:Sat W w0 A0)=>Wj n d hn hd h0
 rw[←hg] at hgc;have hux:IntKind.u64.wrap (x:Int)=x:=IntWalk.u64_in _ (by omega);have huy:IntKind.u64.wrap (y:Int)=y:=IntWalk.u64_in _ (by omega);have eB:oK neg n d=if 1099511627776<x∨1048576<y then (⟨0,0⟩,5) else (⟨if neg=true then -(x:Int) else (x:Int),(y:Int)⟩,0):=by
  rw[hx,hy,hg];rfl
 have HGC:=ah hgc;have EB:=ah eB;have h1:=h.alloc (.cells #[.int .i64 0,.int .i64 0] 26);obtain⟨B,hB⟩:=aC (w.heap.size);rw[←hB] at h1;clear hgc eB hg hx hy h;go_enter Tryz.func224,Tryz.ntmps224;go_wp2_with fail;rw[←hB];refine (HGC.out _ _ h1).mono ?_;rintro e w2 ⟨rfl,h2⟩;clear h1 HGC hB;go_wp2;refine aG rfl (fun _=>True) [(0,.p),(1,.p),(2,.p),(3,.p),(4,.p),(5,.p),(6,.p),(7,.p)] (by kernel_rfl) ?_;have hS0:True:=trivial;refine bG ?_;refine dJ ?_;clear hdx hdy hux huy;have h3:=h2.drew;obtain⟨w3,hw3⟩:=aC (w2.drew);rw[←hw3] at h3 ⊢;clear hw3 h2;have bad:(1099511627776<x∨1048576<y)→oK neg n d=(⟨0,0⟩,5):=fun hh=>by rw[EB.out,if_pos hh]
 have BAD:=ah bad;clear bad;by_cases c1:1099511627776<x
 ·have c1I:(1099511627776:Int)<x:=by omega
  obtain⟨k0,k1,k2,k3⟩:=kX h3;have h4:=wu h3 (.int .i64 0) (.int .i64 0);obtain⟨w4,hw4⟩:=aC ((w3.setCell ⟨B,0,none⟩ (.int .i64 0)).setCell ⟨B,1,none⟩ (.int .i64 0));rw[←hw4] at h4;obtain⟨d0,d1,-,-⟩:=kX h4;have KW:=ah hw4;clear hw4;go_wp2;rw[←KW.out];exact bodyPost_ret (v:=.tuple #[.agg #[.int .i64 0,.int .i64 0],.int .i64 5]) (by simp[results,Tryz.results224,go_sem,d0,d1]) rfl ⟨by rw[BAD.out (.inl c1)],h4.forget⟩
 ·have c1I:¬(1099511627776:Int)<x:=by omega
  by_cases c2:1048576<y
  ·have c2I:(1048576:Int)<y:=by omega
   obtain⟨k0,k1,k2,k3⟩:=kX h3;have h4:=wu h3 (.int .i64 0) (.int .i64 0);obtain⟨w4,hw4⟩:=aC ((w3.setCell ⟨B,0,none⟩ (.int .i64 0)).setCell ⟨B,1,none⟩ (.int .i64 0));rw[←hw4] at h4;obtain⟨d0,d1,-,-⟩:=kX h4;have KW:=ah hw4;clear hw4;go_wp2;rw[←KW.out];exact bodyPost_ret (v:=.tuple #[.agg #[.int .i64 0,.int .i64 0],.int .i64 5]) (by simp[results,Tryz.results224,go_sem,d0,d1]) rfl ⟨by rw[BAD.out (.inr c2)],h4.forget⟩
  ·have c2I:¬(1048576:Int)<y:=by omega
   have e1:IntKind.i64.wrap (x:Int)=x:=IntWalk.i64_in _ (by omega);have e2:IntKind.i64.wrap (y:Int)=y:=IntWalk.i64_in _ (by omega);have eB2:=EB.out;rw[if_neg (by omega)] at eB2;have EB2:=ah eB2;have g1:=h3.alloc (.cells #[.int .i64 x,.int .i64 y] 26);obtain⟨C,hC⟩:=aC (w3.heap.size);obtain⟨w4,hw4⟩:=aC (w3.alloc (.cells #[.int .i64 x,.int .i64 y] 26));rw[←hC,←hw4] at g1;have HC:=ah hC;have KW:=ah hw4;clear EB eB2 BAD hC hw4 h3;go_upto_region 6 with fail;rw[←HC.out,←KW.out];cases neg with
   | true=>
    have e3:IntKind.i64.wrap (-(x:Int))=-x:=IntWalk.i64_in _ (by omega);obtain⟨k0,k1,k2,k3⟩:=kX g1;have g2:=(g1.setCell 0 (.int .i64 (-(x:Int)))).p1;obtain⟨w5,hw5⟩:=aC (w4.setCell ⟨C,0,none⟩ (.int .i64 (-(x:Int))));rw[←hw5] at g2;have KX:=ah hw5;clear hw5 g1;go_upto_region 8 with fail;clear k0 k1 k2 k3;rw[←KX.out];obtain⟨k0,k1,-,-⟩:=kX g2.p1;obtain⟨b0,b1,b2,b3⟩:=kX g2;have g3:=wu g2 (.int .i64 (-(x:Int))) (.int .i64 y);obtain⟨w6,hw6⟩:=aC ((w5.setCell ⟨B,0,none⟩ (.int .i64 (-(x:Int)))).setCell ⟨B,1,none⟩ (.int .i64 y));rw[←hw6] at g3;obtain⟨d0,d1,-,-⟩:=kX g3;have OZ:=ah hw6;clear hw6;go_wp2;rw[←OZ.out];exact bodyPost_ret (v:=.tuple #[.agg #[.int .i64 (-(x:Int)),.int .i64 y],.int .i64 0]) (by simp[results,Tryz.results224,go_sem,d0,d1]) rfl ⟨by rw[EB2.out];rfl,g3.forget.forget⟩
   | false=>
    obtain⟨k0,k1,-,-⟩:=kX g1;obtain⟨b0,b1,b2,b3⟩:=kX g1.p1;have g3:=wu g1.p1 (.int .i64 x) (.int .i64 y);obtain⟨w6,hw6⟩:=aC ((w4.setCell ⟨B,0,none⟩ (.int .i64 x)).setCell ⟨B,1,none⟩ (.int .i64 y));rw[←hw6] at g3;obtain⟨d0,d1,-,-⟩:=kX g3;have OZ:=ah hw6;clear hw6;go_wp2;rw[←OZ.out];exact bodyPost_ret (v:=.tuple #[.agg #[.int .i64 x,.int .i64 y],.int .i64 0]) (by simp[results,Tryz.results224,go_sem,d0,d1]) rfl ⟨by rw[EB2.out];rfl,g3.forget.forget⟩
section
set_option maxHeartbeats 1000000
def rtRes (r:Rt×Int):Value:=.tuple #[.agg #[.int .i64 r.1.n,.int .i64 r.1.d],.int .i64 r.2]
theorem Xc {W w:World} {A:aB} (n d:Int) (hn1:-9223372036854775808≤n) (hn2:n≤9223372036854775807) (hd1:-9223372036854775808≤d) (hd2:d≤9223372036854775807) (h:Sat W w A):
 Calls Tryz.prog 212 #[.int .i64 n,.int .i64 d] w fun e w'=>e=.returned (rtRes (newR n d))∧Sat W w' A:=by
 obtain⟨r,hr⟩:=aC (newR n d);rw[←hr];have HR:=ah hr;have h1:=h.alloc (.cells #[.int .i64 0,.int .i64 0] 26);obtain⟨B,hB⟩:=aC (w.heap.size);obtain⟨w1,hw1⟩:=aC (w.alloc (.cells #[.int .i64 0,.int .i64 0] 26));rw[←hB,←hw1] at h1;have HB:=ah hB;have HW1:=ah hw1;clear hB hw1 h hr;go_enter Tryz.func212,Tryz.ntmps212;go_upto_region 1 with fail;rw[←HB.out,←HW1.out];by_cases h0:d=0
 ·subst h0
  obtain⟨k0,k1,k2,k3⟩:=kX h1;have h4:=wu h1 (.int .i64 0) (.int .i64 0);obtain⟨w4,hw4⟩:=aC ((w1.setCell ⟨B,0,none⟩ (.int .i64 0)).setCell ⟨B,1,none⟩ (.int .i64 0));rw[←hw4] at h4;obtain⟨d0,d1,-,-⟩:=kX h4;have KW:=ah hw4;clear hw4;go_wp2;rw[←KW.out];exact bodyPost_ret (v:=.tuple #[.agg #[.int .i64 0,.int .i64 0],.int .i64 1]) (by simp[results,Tryz.results212,go_sem,d0,d1]) rfl ⟨by rw[HR.out];rfl,h4.forget⟩
 ·obtain⟨neg,hneg⟩:∃neg,(!(decide (n<0)==decide (d<0)))=neg:=⟨_,rfl⟩
  have eN:oK neg n.natAbs d.natAbs=r:=by rw[HR.out];unfold newR;rw[if_neg h0,←hneg];rfl
  have hs1:=fun w0=>Iw n hn1 hn2 w0
  have hs2:=fun w0=>Iw d hd1 hd2 w0
  have hb:=fun w0 (A0:aB) (hh:Sat W w0 A0)=>Ph neg n.natAbs d.natAbs (by omega) (by omega) (by omega) hh
  rw[eN] at hb;obtain⟨a1,ha1⟩:=aC (n.natAbs);obtain⟨a2,ha2⟩:=aC (d.natAbs);rw[←ha1] at hs1 hb;rw[←ha2] at hs2 hb;have Ci:=ah hs1;have HS2:=ah hs2;have vk:=ah hb;clear hs1 hs2 hb ha1 ha2 eN HR;go_wp2_with fail;refine (Ci.out _).mono ?_;rintro e w2 ⟨rfl,rfl⟩;go_wp2_with fail;refine (HS2.out _).mono ?_;rintro e w2 ⟨rfl,rfl⟩;clear Ci HS2;go_wp2_with fail;refine (vk.out _ _ h1).mono ?_;rintro e w2 ⟨rfl,h2⟩;obtain⟨⟨rn,rd⟩,re⟩:=r;clear vk h1 hneg;obtain⟨k0,k1,k2,k3⟩:=kX h2;have h4:=wu h2 (.int .i64 rn) (.int .i64 rd);obtain⟨w4,hw4⟩:=aC ((w2.setCell ⟨B,0,none⟩ (.int .i64 rn)).setCell ⟨B,1,none⟩ (.int .i64 rd));rw[←hw4] at h4;obtain⟨d0,d1,-,-⟩:=kX h4;have KW:=ah hw4;clear hw4;go_wp2;rw[←KW.out];exact bodyPost_ret (v:=.tuple #[.agg #[.int .i64 rn,.int .i64 rd],.int .i64 re]) (by simp[results,Tryz.results212,go_sem,d0,d1]) rfl ⟨rfl,h4.forget⟩
theorem JQ (w:World) (a b c d:Int):(binOp .neq 26 (.agg #[.int .i64 a,.int .i64 b]) (.agg #[.int .i64 c,.int .i64 d])).run Tryz.prog w=.ok (.bool (!(a==c&&b==d))) w:=by
 have h1:Tryz.prog.underlying 26=some (.struct (Tryz.prog.fieldsOf 26)):=by kernel_rfl
 have h2:Tryz.prog.stoodInHeld 26=false:=by kernel_rfl
 have e:=run_equalIn_struct (P:=Tryz.prog) w 9999 26 #[.int .i64 a,.int .i64 b] #[.int .i64 c,.int .i64 d] h1 h2;rw[run_neq_struct,e];clear e;have q0:∀a b:Int,(part 3 #[.int .i64 a,.int .i64 b] 0).run Tryz.prog w=.ok (.int .i64 a) w:=fun a b=>by kernel_rfl
 have q1:∀a b:Int,(part 3 #[.int .i64 a,.int .i64 b] 1).run Tryz.prog w=.ok (.int .i64 b) w:=fun a b=>by kernel_rfl
 have r0:∀a b:Int,(Op.equalIn 9999 3 (.int .i64 a) (.int .i64 b)).run Tryz.prog w=.ok (a==b) w:=fun a b=>run_equalIn_int (P:=Tryz.prog) w 9998 3 .i64 .i64 a b Tryz.underlying3
 by_cases e1:a=c
 ·by_cases e2:b=d
  ·simp[Program.fieldsOf,Tryz.underlying26,Op.eqFields,q0,q1,r0,e1,e2]
  ·simp[Program.fieldsOf,Tryz.underlying26,Op.eqFields,q0,q1,r0,e1,e2]
 ·simp[Program.fieldsOf,Tryz.underlying26,Op.eqFields,q0,r0,e1]
theorem uZ {W w:World} {A:aB} (r:Rt) (hn1:-9223372036854775808≤r.n) (hn2:r.n≤9223372036854775807) (hd1:-9223372036854775808≤r.d) (hd2:r.d≤9223372036854775807) (h:Sat W w A):
 Calls Tryz.prog 197 #[.agg #[.int .i64 r.n,.int .i64 r.d]] w fun e w'=>e=.returned (.int .i64 (if okR r=true then 0 else 1))∧Sat W w' A:=by
 obtain⟨n,d⟩:=r;simp only at hn1 hn2 hd1 hd2 ⊢;obtain⟨ok,hok⟩:=aC (okR ⟨n,d⟩);rw[←hok];obtain⟨rv,dQ⟩:∃rv:Int,rv=if ok=true then 0 else 1:=⟨_,rfl⟩
 rw[←dQ];have mQ:=ah hok;have bU:=ah dQ;have h1:=h.alloc (.cells #[.int .i64 n,.int .i64 d] 26);obtain⟨k0,k1,-,-⟩:=kX h1;clear hok dQ h;by_cases c1:d<1
 ·obtain rfl:ok=false:=by rw[mQ.out];unfold okR;rw[decide_eq_false (by show ¬1≤d;omega)];rfl
  go_enter Tryz.func197,Tryz.ntmps197;go_wp2;go_ret;exact⟨by rw[bU.out];rfl,h1.forget⟩
 ·have hnew:=Xc n d hn1 hn2 hd1 hd2 h1
  obtain⟨⟨⟨rn,rd⟩,re⟩,hr⟩:∃r,r=newR n d:=⟨_,rfl⟩
  rw[←hr] at hnew;have hnew2:Calls Tryz.prog 212 #[.int .i64 n,.int .i64 d] (w.alloc (.cells #[.int .i64 n,.int .i64 d] 26)) fun e w'=>e=.returned (.tuple #[.agg #[.int .i64 rn,.int .i64 rd],.int .i64 re])∧Sat W w' (sep (blk w.heap.size (.cells #[.int .i64 n,.int .i64 d] 26)) A):=hnew
  have acJ:=ah hnew2;have HR:=ah hr;clear hr hnew hnew2;go_enter Tryz.func197,Tryz.ntmps197;go_wp2_with fail;refine acJ.out.mono ?_;rintro e w2 ⟨rfl,h2⟩;clear k0 k1 h1 acJ;have h3:=h2.alloc (.cells #[.int .i64 rn,.int .i64 rd] 26);obtain⟨k0,k1,-,-⟩:=kX h3;obtain⟨j0,j1,-,-⟩:=kX h3.p1;obtain⟨C,hC⟩:=aC (w2.heap.size);obtain⟨B,hB⟩:=aC (w.heap.size);obtain⟨w3,hw3⟩:=aC (w2.alloc (.cells #[.int .i64 rn,.int .i64 rd] 26));rw[←hC,←hB,←hw3] at h3;rw[←hC,←hw3] at k0 k1;rw[←hB,←hw3] at j0 j1;have HC:=ah hC;have HB:=ah hB;have HW3:=ah hw3;have h4:=h3.forget.forget;clear hC hB hw3 h2 h3;go_upto_region 4 with fail;rw[←HC.out,←HB.out,←HW3.out];have hg:=fun w0=>JQ w0 rn rd n d
  by_cases c2:re=0
  ·subst c2
   obtain⟨eq,heq⟩:=aC (!(rn==n&&rd==d));rw[←heq] at hg;have hko:ok=!eq:=by
    rw[mQ.out];unfold okR;rw[←HR.out,decide_eq_true (show 1≤d by omega),heq];by_cases e1:rn=n
    ·by_cases e2:rd=d
     ·simp[e1,e2]
     ·simp[e1,e2]
    ·simp[e1]
   have HKO:=ah hko;clear heq hko;cases eq with
   | true=>
    go_wp2;go_ret;exact⟨by rw[bU.out,HKO.out];rfl,h4⟩
   | false=>
    go_wp2;go_ret;exact⟨by rw[bU.out,HKO.out];rfl,h4⟩
  ·obtain rfl:ok=false:=by
    rw[mQ.out];unfold okR;rw[←HR.out];have:¬(((⟨rn,rd⟩:Rt),re)=(⟨n,d⟩,0)):=fun e=>c2 (Prod.mk.inj e).2
    rw[decide_eq_false this,Bool.and_false]
   have hz:(re !=0)=true:=by simp[c2]
   go_wp2;go_ret;exact⟨by rw[bU.out];rfl,h4⟩
structure VB (r:Rt):Prop where
 n1:-9223372036854775808≤r.n
 n2:r.n≤9223372036854775807
 d1:-9223372036854775808≤r.d
 d2:r.d≤9223372036854775807
theorem VB.of {r:Rt} (h:Rok r):VB r:=⟨by have:=h.n1;omega,by have:=h.n2;omega,by have:=h.d1;omega,by have:=h.d2;omega⟩
theorem OB {W w:World} {A:aB} (a b:Rt) (ha:VB a) (hb:VB b) (C:Nat) (h:Sat W w (sep (blk C (.cells #[.int .i64 a.n,.int .i64 a.d,.int .i64 b.n,.int .i64 b.d] 26 (0,0))) A)):
 Calls Tryz.prog 159 #[.slice (some ⟨C,0,none⟩) 2 2] w fun e w'=>e=.returned (.int .i64 (if okR a=true∧okR b=true then 0 else 1))∧Sat W w' A:=by
 obtain⟨rv,dQ⟩:∃rv:Int,rv=if okR a=true∧okR b=true then 0 else 1:=⟨_,rfl⟩
 rw[←dQ];have bU:=ah dQ;have HA:=fun w0 (A0:aB) (h0:Sat W w0 A0)=>uZ a ha.n1 ha.n2 ha.d1 ha.d2 h0
 have HB:=fun w0 (A0:aB) (h0:Sat W w0 A0)=>uZ b hb.n1 hb.n2 hb.d1 hb.d2 h0
 obtain⟨oa,hoa⟩:=aC (okR a);obtain⟨ob,hob⟩:=aC (okR b);rw[←hoa] at HA;rw[←hob] at HB;have HOA:=ah hoa;have Ce:=ah hob;have HHA:=ah HA;have HHB:=ah HB;obtain⟨an,ad⟩:=a;obtain⟨bn,bd⟩:=b;clear dQ hoa hob HA HB ha hb;go_enter Tryz.func159,Tryz.ntmps159;go_wp2;go_loopw [8] (fun kv wr=>∃k:Nat,kv=.int .i64 k∧k≤2∧(1≤k→oa=true)∧(2≤k→ob=true)∧Sat W wr (sep (blk C (.cells #[.int .i64 an,.int .i64 ad,.int .i64 bn,.int .i64 bd] 26 (0,0))) A)) (fun kv _=>2-(intOf kv).toNat)
 case atStart=>exact⟨0,rfl,by omega,by omega,by omega,h⟩
 case round=>
  obtain⟨k,rfl,hk,q1,q2,hS⟩:=hrel;have Q1:=ah q1;have Q2:=ah q2;clear q1 q2;obtain rfl|rfl|rfl:k=0∨k=1∨k=2:=by omega
  ·have c0:wr.cell? ⟨C,0,none⟩=some (.int .i64 an):=hS.cell 0
   have c1:wr.cell? ⟨C,1,none⟩=some (.int .i64 ad):=hS.cell 1;have h2:=hS.iy (.cells #[.int .i64 an,.int .i64 ad] 26);clear hS;go_wp2_with fail;refine (HHA.out _ _ h2).mono ?_;rintro e w3 ⟨rfl,h3⟩;clear c0 c1 h2;cases oa with
   | true=>
    go_wp2_with fail;go_roundw;case rel=>exact⟨1,rfl,by omega,fun _=>(by first|rfl|trivial),by omega,h3⟩
    case measure=>simp[intOf]
   | false=>
    go_wp2_with fail;go_ret;exact⟨by rw[bU.out,if_neg (by rw[←HOA.out];simp)];rfl,h3.forget⟩
  ·have c0:wr.cell? ⟨C,2,none⟩=some (.int .i64 bn):=hS.cell 2
   have c1:wr.cell? ⟨C,3,none⟩=some (.int .i64 bd):=hS.cell 3;have h2:=hS.iy (.cells #[.int .i64 bn,.int .i64 bd] 26);clear hS;go_wp2_with fail;refine (HHB.out _ _ h2).mono ?_;rintro e w3 ⟨rfl,h3⟩;clear c0 c1 h2;cases ob with
   | true=>
    go_wp2_with fail;go_roundw;case rel=>exact⟨2,rfl,by omega,fun _=>Q1.out (by omega),fun _=>(by first|rfl|trivial),h3⟩
    case measure=>simp[intOf]
   | false=>
    go_wp2_with fail;go_ret;exact⟨by rw[bU.out,if_neg (by rw[←Ce.out];simp)];rfl,h3.forget⟩
  ·go_wp2_with fail
   go_ret;exact⟨by rw[bU.out,if_pos ⟨by rw[←HOA.out];exact Q1.out (by omega),by rw[←Ce.out];exact Q2.out (by omega)⟩];rfl,hS.forget⟩
end
theorem Jy {a b:Int} (h1:-1099511627776≤a) (h2:a≤1099511627776) (h3:0≤b) (h4:b≤1048576):-1152921504606846976≤a*b∧a*b≤1152921504606846976:=by
 have e1:a*b≤1099511627776*b:=Int.mul_le_mul_of_nonneg_right h2 h3;have e2:-1099511627776*b≤a*b:=Int.mul_le_mul_of_nonneg_right h1 h3;omega
end Go.Proofs.YthfmaclnccdcbaaGreatDoor
namespace PA
section
open Go Go.RowKit
structure Sv where
 a:Option Addr
 n:Nat
 c:Nat
def Sv.v (s:Sv):Value:=.slice s.a s.n s.c
def ak:Sv:=⟨.none,0,0⟩
structure Ac where
 k:Int
 d:Int
 n:Int
 f:Int
 o:Int
 p:Int
 q:Int
 u:Int
 m:Int
 sn:Int
 sd:Int
 td:Sv
 tc:Sv
 cl:Sv
 ea:Sv
 fo:Int
 fn:Int
 fi:Sv
 fk:Sv
def Ac.cells (x:Ac):List Value:=[.int .i64 x.k,.int .i64 x.d,.int .i64 x.n,.int .i64 x.f,.int .i64 x.o,.int .i64 x.p,.int .i64 x.q,.int .i64 x.u,.int .i64 x.m,.int .i64 x.sn,.int .i64 x.sd,
 .slice x.td.a x.td.n x.td.c,.slice x.tc.a x.tc.n x.tc.c,.slice x.cl.a x.cl.n x.cl.c,.slice x.ea.a x.ea.n x.ea.c,.int .i64 x.fo,.int .i64 x.fn,.slice x.fi.a x.fi.n x.fi.c,.slice x.fk.a x.fk.n x.fk.c]
theorem Ac.len (x:Ac):x.cells.length=19:=rfl
theorem Ac.one (x:Ac):∀u∈x.cells,u.oneCell'=true:=by
 intro u hu;simp only[Ac.cells,List.mem_cons,List.not_mem_nil,or_false] at hu;rcases hu with rfl|rfl|rfl|rfl|rfl|rfl|rfl|rfl|rfl|rfl|rfl|rfl|rfl|rfl|rfl|rfl|rfl|rfl|rfl<;>rfl
def Ac.sh (x:Ac):Rt:=⟨x.sn,x.sd⟩
def Ac.zero:Ac:=⟨0,0,0,0,0,0,0,0,0,0,0,ak,ak,ak,ak,0,0,ak,ak⟩
def bY (xs:List Ac):List Value:=xs.flatMap Ac.cells
theorem kS (xs:List Ac):(bY xs).length=xs.length*19:=by
 induction xs with
 | nil=>rfl
 | cons x xs ih=>rw[bY,List.flatMap_cons,dM,←bY,ih,Ac.len,oP];omega
theorem iZ (xs ys:List Ac):bY (xs++ys)=bY xs++bY ys:=by simp[bY]
theorem YM (xs:List Ac):∀u∈bY xs,u.oneCell'=true:=by
 intro u hu;obtain⟨x,_,hx⟩:=List.mem_flatMap.1 hu;exact x.one u hx
theorem zG (xs:List Ac) (i:Nat) (hi:i<xs.length) (j:Nat) (hj:j<19):(bY xs)[i*19+j]?=xs[i].cells[j]?:=by
 have e:xs=xs.take i++xs[i]::xs.drop (i+1):=by rw[←List.drop_eq_getElem_cons hi,List.take_append_drop]
 have hl:(bY (xs.take i)).length=i*19:=by rw[kS,List.length_take,Nat.min_eq_left (by omega)]
 conv=>lhs;rw[e]
 rw[iZ,List.getElem?_append_right (by omega),hl,Nat.add_sub_cancel_left];show (List.flatMap Ac.cells (xs[i]::xs.drop (i+1)))[j]?=_;rw[List.flatMap_cons,List.getElem?_append_left (by rw[Ac.len];exact hj)]
def Vw (x y:Ac):Prop:=x.d≠y.d∨x.n≠y.n
theorem Vw.symm {x y:Ac} (h:Vw x y):Vw y x:=h.imp Ne.symm Ne.symm
def Asc (c:Ac→Ac→Int) (l:List Ac):Prop:=l.Pairwise fun x y=>c x y≤0
end
section
open Go
abbrev Shs:=Int→Option Rt
def QC (S:Shs) (p:Int):Rt:=(S p).getD ⟨0,1⟩
def aaQ (S:Shs) (p:Int) (r:Rt):Shs:=fun x=>if x=p then some r else S x
def V6 (p:Int):Shs:=aaQ (fun _=>none) p ⟨1,1⟩
def YJ (S:Shs):Prop:=∀p r,S p=some r→okR r=true∧0≤r.n
theorem ZC:okR ⟨1,1⟩=true:=by decide
theorem Xi:okR ⟨0,1⟩=true:=by decide
theorem YJ.first (p:Int):YJ (V6 p):=by
 intro q r h;unfold V6 aaQ at h;split at h
 ·cases h;exact⟨ZC,by decide⟩
 ·cases h
theorem YJ.share {S:Shs} (h:YJ S) (p:Int):okR (QC S p)=true∧0≤(QC S p).n:=by
 unfold QC;cases e:S p with
 | none=>exact⟨Xi,by decide⟩
 | some r=>exact h p r e
end
section
open Go Go.RowKit
structure Born (es:List MapEntry) (clock:Nat):Prop where
 lt:∀e∈es,e.born<clock
 nodup:(es.map (·.born)).Nodup
theorem Born.nil (c:Nat):Born [] c:=⟨fun _ h=>(by cases h),.nil⟩
theorem Rk:∀{l:List MapEntry},(l.map (·.born)).Nodup→∀{x y:MapEntry},x∈l→y∈l→x.born=y.born→x=y
 | [],_,_,_,hx,_,_=>by cases hx
 | a::l,hn,x,y,hx,hy,h=>by
  rw[mM,List.nodup_cons] at hn;rcases List.mem_cons.1 hx with rfl|hx'
  ·rcases List.mem_cons.1 hy with rfl|hy'
   ·rfl
   ·exact absurd (List.mem_map.2 ⟨y,hy',h.symm⟩) hn.1
  ·rcases List.mem_cons.1 hy with rfl|hy'
   ·exact absurd (List.mem_map.2 ⟨x,hx',h⟩) hn.1
   ·exact Rk hn.2 hx' hy' h
theorem Born.push {es:List MapEntry} {c:Nat} (h:Born es c) (k v:Value):Born (es++[{ key:=k,val:=v,born:=c }]) (c+1):=by
 refine⟨fun e he=>?_,?_⟩
 ·rcases List.mem_append.1 he with he|he
  ·have:=h.lt e he;omega
  ·rw[vW he];exact Nat.lt_succ_self c
 ·rw[qy,mM,List.map_nil]
  refine List.nodup_append.2 ⟨h.nodup,by simp,fun x hx y hy=>?_⟩;obtain⟨e,he,rfl⟩:=List.mem_map.1 hx;rw[vW hy];have h1:=h.lt e he;show e.born≠c;omega
theorem Bg (es:List MapEntry) (j:Nat) (k v:Value):(es.modify j fun x=>{ x with key:=k,val:=v }).map (·.born)=es.map (·.born):=by
 apply List.ext_getElem
 ·simp
 ·intro i h1 h2
  simp only[List.getElem_map,List.getElem_modify];split<;>rfl
theorem Born.modify {es:List MapEntry} {c:Nat} (h:Born es c) (j:Nat) (k v:Value):Born (es.modify j fun x=>{ x with key:=k,val:=v }) c:=by
 refine⟨fun e he=>?_,by rw[Bg];exact h.nodup⟩;have:e.born∈(es.modify j fun x=>{ x with key:=k,val:=v }).map (·.born):=List.mem_map.2 ⟨e,he,rfl⟩;rw[Bg] at this;obtain⟨e',he',e2⟩:=List.mem_map.1 this;rw[←e2];exact h.lt e' he'
theorem Born.erase {es:List MapEntry} {c:Nat} (h:Born es c) (j:Nat):Born (es.eraseIdx j) c:=
 ⟨fun e he=>h.lt e ((List.eraseIdx_sublist es j).mem he),h.nodup.sublist ((List.eraseIdx_sublist es j).map _)⟩
def xB (b:Nat) (f:Int→Option Value) (n:Nat):aB:=ex fun s:Array MapEntry×Nat=>sep (fact (gG s.1.toList f∧s.1.size=n∧Born s.1.toList s.2)) (blk b (.map s.1 s.2))
section
variable {P:Program} {W w:World} {A:aB}
theorem Sat.nO {b:Nat} {f:Int→Option Value} {n:Nat} (h:Sat W w (sep (xB b f n) A)):∃es clock,gG es.toList f∧es.size=n∧Born es.toList clock∧Sat W w (sep (blk b (.map es clock)) A):=by
 rw[xB,fP,Sat.ex] at h;obtain⟨⟨es,clock⟩,h⟩:=h;rw[aj] at h;have h':=Sat.fact.1 h;exact⟨es,clock,h'.1.1,h'.1.2.1,h'.1.2.2,h'.2⟩
theorem Sat.CJ {b:Nat} {f:Int→Option Value} {n:Nat} {es:Array MapEntry} {clock:Nat} (h:Sat W w (sep (blk b (.map es clock)) A)) (h1:gG es.toList f) (h2:es.size=n) (h3:Born es.toList clock):Sat W w (sep (xB b f n) A):=by
 rw[xB,fP,Sat.ex];refine⟨(es,clock),?_⟩;rw[aj];exact Sat.fact.2 ⟨⟨h1,h2,h3⟩,h⟩
theorem Sat.TB {b:Nat} {f:Int→Option Value} {n:Nat} (h:Sat W w (sep (xB b f n) A)):Sat W w (sep (kW b f n) A):=by
 obtain⟨es,clock,h1,h2,-,h4⟩:=h.nO;exact h4.Jq h1 h2
theorem Sat.Lu (h:Sat W w A):Sat W (w.alloc (.map #[] 0)) (sep (xB w.heap.size (fun _=>none) 0) A):=
 (h.alloc (.map #[] 0)).CJ gG.nil rfl (Born.nil 0)
theorem BR {T K E:TypeId} {z:Value} (hT:P.underlying T=some (.map K E)) (hK:P.underlying K=some (.int .i64)) (hz:∀w,(zeroValue E).run P w=.ok z w)
 {b:Nat} {f:Int→Option Value} {n:Nat} (h:Sat W w (sep (xB b f n) A)) (k:Int) (ok:Bool):
 (Instr.lookup T (.map (some b)) (.int .i64 k) ok).run P w=.ok (if ok then .tuple #[(f k).getD z,.bool (f k).isSome] else (f k).getD z) w:=nC hT hK hz h.TB k ok
theorem nD {T K E:TypeId} (hT:P.underlying T=some (.map K E)) (hK:P.underlying K=some (.int .i64)) {b:Nat} {f:Int→Option Value} {n:Nat} (h:Sat W w (sep (xB b f n) A)) (k:Int) (v:Value):
 ∃w' n',(Instr.mapUpdate T (.map (some b)) (.int .i64 k) v).run P w=.ok () w'∧n'=(if (f k).isSome then n else n+1)∧Sat W w' (sep (xB b (mY f k (some v)) n') A):=by
 obtain⟨es,clock,h1,h2,hb,h3⟩:=h.nO;obtain⟨r,e1,e2,e3⟩:=ng (P:=P) (k:=k) hK h1 w;have hg:=run_getObj_map (P:=P) h3.aO;cases r with
 | none=>
  have hk:f k=none:=by rw[←e2];rfl
  refine⟨_,n+1,by simp[Instr.mapUpdate,run_underlying hT,hg,iU hK,e1,run_setObj_map (P:=P) h3.aO];rfl,by simp[hk],(h3.setObj _).CJ ?_ (by simp[h2]) ?_⟩
  ·simpa using h1.push k v clock hk
  ·simpa using hb.push (.int .i64 k) v
 | some r=>
  obtain⟨j,u⟩:=r;obtain⟨e,h4,h5,h6⟩:=e3 j u rfl;have hk:(f k).isSome=true:=by rw[←e2];rfl
  have hkey:((es[j]?.map (·.key)).getD (.int .i64 k))=.int .i64 k:=by
   have:es[j]?=some e:=by simpa using h4
   simp[this,h5]
  refine⟨_,n,by simp[Instr.mapUpdate,run_underlying hT,hg,iU hK,e1,Instr.keyThatStays,hkey,JW,run_setObj_map (P:=P) h3.aO];rfl,by simp[hk],(h3.setObj _).CJ ?_ (by simp[h2]) ?_⟩
  ·simpa using h1.modify k v h4 h5
  ·simpa using hb.modify j (.int .i64 k) v
structure Vz (es:List MapEntry) (f:Int→Option Value) (clock since c0:Nat) (seen:Array Nat) (left:Int→Bool):Prop where
 rep:gG es f
 born:Born es clock
 old:∀e∈es,e.born<since
 sc:since≤c0
 scl:since≤clock
 lf:∀e∈es,∀k,e.key=.int .i64 k→left k=!seen.contains e.born
 lk:∀k,left k=true→(f k).isSome=true
def rng (b r:Nat) (f:Int→Option Value) (n:Nat) (left:Int→Bool) (cnt:Nat):aB:=ex fun s:Array MapEntry×Nat×Nat×Array Nat×Nat=>
 sep (fact (Vz s.1.toList f s.2.1 s.2.2.1 s.2.2.2.2 s.2.2.2.1 left∧s.1.size=n∧(leftOf s.1 s.2.2.2.1).size=cnt)) (sep (blk b (.map s.1 s.2.1)) (blk r (.mapIter (some b) s.2.2.1 s.2.2.2.1 s.2.2.2.2)))
theorem Sat.E8 {b r:Nat} {f:Int→Option Value} {n:Nat} {left:Int→Bool} {cnt:Nat} (h:Sat W w (sep (rng b r f n left cnt) A)):
 ∃es clock since seen c0,Vz es.toList f clock since c0 seen left∧es.size=n∧(leftOf es seen).size=cnt∧Sat W w (sep (blk b (.map es clock)) (sep (blk r (.mapIter (some b) since seen c0)) A)):=by
 rw[rng,fP,Sat.ex] at h;obtain⟨⟨es,clock,since,seen,c0⟩,h⟩:=h;rw[aj,aj] at h;have h':=Sat.fact.1 h;exact⟨es,clock,since,seen,c0,h'.1.1,h'.1.2.1,h'.1.2.2,h'.2⟩
theorem Sat.Xv {b r:Nat} {f:Int→Option Value} {n:Nat} {left:Int→Bool} {cnt:Nat} {es:Array MapEntry} {clock since c0:Nat} {seen:Array Nat}
 (h:Sat W w (sep (blk b (.map es clock)) (sep (blk r (.mapIter (some b) since seen c0)) A))) (h1:Vz es.toList f clock since c0 seen left) (h2:es.size=n) (h3:(leftOf es seen).size=cnt):Sat W w (sep (rng b r f n left cnt) A):=by
 rw[rng,fP,Sat.ex];refine⟨(es,clock,since,seen,c0),?_⟩;rw[aj,aj];exact Sat.fact.2 ⟨⟨h1,h2,h3⟩,h⟩
theorem Sat.NY {b r:Nat} {f:Int→Option Value} {n:Nat} {left:Int→Bool} {cnt:Nat} (h:Sat W w (sep (rng b r f n left cnt) A)):w.rangeLeft b r=cnt:=by
 obtain⟨es,clock,since,seen,c0,-,-,h3,h4⟩:=h.E8;simp only[World.rangeLeft,h4.aO,h4.p1.aO];exact h3
theorem Sat.ZL {b r:Nat} {f:Int→Option Value} {n:Nat} {left:Int→Bool} {cnt:Nat} (h:Sat W w (sep (rng b r f n left cnt) A)):Sat W w (sep (xB b f n) A):=by
 obtain⟨es,clock,since,seen,c0,h1,h2,-,h4⟩:=h.E8;exact h4.p1.drop.CJ h1.rep h2 h1.born
theorem gG.BD {es:List MapEntry} {f:Int→Option Value} (h:gG es f) {e:MapEntry} (he:e∈es) {k:Int} (hk:e.key=.int .i64 k):f k=some e.val:=by
 rw[←h.get k];cases hf:es.find? (iR k) with
 | none=>rw[List.find?_eq_none] at hf;exact absurd (by simp[iR,hk]) (hf e he)
 | some x=>
  have hx:=List.mem_of_find?_eq_some hf;obtain⟨n,hn⟩:=h.keys x hx;have hp:=List.find?_some hf;simp[iR,hn] at hp;subst hp;have:=entry_eq_of_key h.nodup hx he (hn.trans hk.symm);rw[this];rfl
theorem gG.Nr {es:List MapEntry} {f:Int→Option Value} (h:gG es f) {k:Int} (hk:(f k).isSome=true):∃e∈es,e.key=.int .i64 k:=by
 rw[←h.get k] at hk;cases hf:es.find? (iR k) with
 | none=>rw[hf] at hk;cases hk
 | some x=>
  have hx:=List.mem_of_find?_eq_some hf;obtain⟨n,hn⟩:=h.keys x hx;have hp:=List.find?_some hf;simp[iR,hn] at hp;subst hp;exact⟨x,hx,hn⟩
theorem pz {T K E:TypeId} (hT:P.underlying T=some (.map K E)) {b:Nat} {f:Int→Option Value} {n:Nat} (h:Sat W w (sep (xB b f n) A)):
 ∃w',(Instr.range T (.map (some b))).run P w=.ok (.pointer (some ⟨w.heap.size,0,none⟩)) w'∧Sat W w' (sep (rng b w.heap.size f n (fun k=>(f k).isSome) n) A):=by
 obtain⟨es,clock,h1,h2,hb,h3⟩:=h.nO;have hg:=run_getObj_map (P:=P) h3.aO;refine⟨w.alloc (.mapIter (some b) clock #[] clock),by simp[Instr.range,run_underlying hT,hg],?_⟩;refine ((h3.alloc (.mapIter (some b) clock #[] clock)).p1).Xv ⟨h1,hb,hb.lt,Nat.le_refl _,Nat.le_refl _,fun e he k hk=>?_,fun k hk=>hk⟩ h2 ?_
 ·rw[h1.BD he hk];simp
 ·rw[←h2];simp[leftOf]
theorem Nq (es:Array MapEntry) (seen:Array Nat) (e:MapEntry) (he:e∈(leftOf es seen).toList):(leftOf es (seen.push e.born)).size<(leftOf es seen).size:=by
 have hsub:(leftOf es (seen.push e.born)).toList=(leftOf es seen).toList.filter fun x=>x.born !=e.born:=by
  unfold leftOf;simp only[Array.toList_filter,List.filter_filter];congr 1;funext x;by_cases h:x.born=e.born
  ·simp[h]
  ·simp[h,bne]
 have hlt:(leftOf es (seen.push e.born)).toList.length<(leftOf es seen).toList.length:=by
  rw[hsub];exact List.length_filter_lt_length_iff_exists.2 ⟨e,he,by simp⟩
 simpa using hlt
theorem JU {b r:Nat} {f:Int→Option Value} {n:Nat} {left:Int→Bool} {cnt:Nat} (ty:TypeId) (h:Sat W w (sep (rng b r f n left cnt) A)):
 ((∀k,left k=false)∧(Instr.next (.pointer (some ⟨r,0,none⟩)) false ty).run P w=.ok (.tuple #[.bool false]) w) ∨
 ∃k v w' cnt',left k=true∧f k=some v∧cnt'<cnt∧(Instr.next (.pointer (some ⟨r,0,none⟩)) false ty).run P w=.ok (.tuple #[.bool true,.int .i64 k,v]) w' ∧
  (Instr.entry (.pointer (some ⟨r,0,none⟩))).run P w'=.ok (.tuple #[.int .i64 k,v]) w'∧Sat W w' (sep (rng b r f n (fun z=>left z&&z !=k) cnt') A):=by
 obtain⟨es,clock,since,seen,c0,h1,h2,h3,h4⟩:=h.E8;rcases run_next_at (P:=P) w ty r b since c0 seen es clock h4.p1.aO h4.aO h1.old h1.sc with ⟨h0,hrun⟩|⟨e,he,w1,hw1,hrun⟩
 ·refine .inl ⟨fun k=>?_,hrun⟩
  cases hk:left k with
  | false=>rfl
  | true=>
   obtain⟨e,he,hek⟩:=h1.rep.Nr (h1.lk k hk);have:=h1.lf e he k hek;rw[hk] at this;have hm:e∈(leftOf es seen).toList:=by unfold leftOf;simp;exact⟨by simpa using he,by simpa using this.symm⟩
   have h00:(leftOf es seen).toList.length=0:=by simpa using h0
   rw[Ju h00] at hm;cases hm
 ·have hmem:e∈es.toList∧seen.contains e.born=false:=by
   unfold leftOf at he;simp at he;exact⟨by simpa using he.1,by simpa using he.2⟩
  obtain⟨k,hk⟩:=h1.rep.keys e hmem.1;have hlk:=h1.lf e hmem.1 k hk;rw[hmem.2] at hlk;have af9:Sat W w1 (sep (blk r (.mapIter (some b) since seen c0)) (sep (blk b (.map es clock)) A)):=by
   rcases hw1 with rfl|rfl
   ·exact h4.p1
   ·exact h4.p1.drew
  have hset:Sat W (Go.ChangeMaps.setBlock w1 r (.mapIter (some b) since (seen.push e.born) clock)) (sep (blk r (.mapIter (some b) since (seen.push e.born) clock)) (sep (blk b (.map es clock)) A)):=af9.setObj _;refine .inr ⟨k,e.val,_,_,by simpa using hlk,h1.rep.BD hmem.1 hk,?_,by rw[hk] at hrun;exact hrun,?_,hset.p1.Xv ⟨h1.rep,h1.born,h1.old,h1.scl,h1.scl,?_,?_⟩ h2 rfl⟩
  ·rw[←h3];exact Nq es seen e he
  ·have:=run_entry_at (P:=P) _ r b since seen es clock e hset.aO hset.p1.aO hmem.1 h1.born.nodup
   rw[hk] at this;exact this
  ·intro e2 he2 k2 hk2
   rw[h1.lf e2 he2 k2 hk2,Array.contains_push];by_cases hkk:k2=k
   ·subst hkk
    have:e2=e:=entry_eq_of_key h1.rep.nodup he2 hmem.1 (hk2.trans hk.symm);subst this;simp
   ·have hb:¬e2.born=e.born:=fun hbe=>hkk (by
     have:e2=e:=Rk h1.born.nodup he2 hmem.1 hbe;subst this;rw[hk2] at hk;cases hk;rfl)
    have e1:(k2 !=k)=true:=by simp[hkk]
    have e2:(e2.born==e.born)=false:=by simp[hb]
    rw[e1,e2];simp
  ·intro z hz
   simp at hz;exact h1.lk z hz.1
end
end
section
open Go Go.RowKit
section
variable {P:Program} {W w:World} {A:aB}
end
end
end PA
namespace Go.Proofs.YthfmaclnccdcbaaGreatDoor
open Go.RowKit PA
section
variable {W w:World} {A:aB} {p:Nat} {app:Int} {S:Shs}
end
end Go.Proofs.YthfmaclnccdcbaaGreatDoor
namespace PA
open Go Go.RowKit
inductive It where
 | one (i:Nat) (k:Kd)
 | grp (b:Bool) (E:List Nat)
def It.fl:It→List (Nat×Kd)
 | .one i k=>[(i,k)]
 | .grp b E=>E.map fun i=>(i,.inl b)
def fls (l:List It):List (Nat×Kd):=l.flatMap It.fl
section
variable {P:Program} {ops:Array Oper} {Q:Exit→Act→World→Prop} {S:World→Prop}
structure InvI (ops:Array Oper) (bf:Array Nat) (listed:Array Bool) (l:List It):Prop where
 size:listed.size=ops.size
 mem:∀i,i∈(fls l).map (·.1)↔i<ops.size∧listed.getD i true=false
 nodup:((fls l).map (·.1)).Nodup
 pair:l.Pairwise fun x y=>∀u∈x.fl,∀v∈y.fl,gq ops bf u v=true
 dep:(fls l).Pairwise fun x y=>mW ops x.1 y.1=false
 self:∀x∈fls l,mW ops x.1 x.1=false
 closed:∀d r,r<ops.size→listed.getD d false=true→(bf.getD d 0).testBit r=true→listed.getD r false=true
def VX (ops:Array Oper):List (Nat×Kd)→Bool
 | []=>true
 | x::l=>!mW ops x.1 x.1&&l.all (fun y=>!mW ops x.1 y.1)&&VX ops l
theorem Je:∀(l:List (Nat×Kd)),VX ops l=true→(l.Pairwise fun x y=>mW ops x.1 y.1=false)∧∀x∈l,mW ops x.1 x.1=false
 | [],_=>⟨.nil,fun _ h=>(by cases h)⟩
 | x::l,h=>by
  simp only[VX,Bool.and_eq_true,List.all_eq_true,Bool.not_eq_true'] at h;have ih:=Je l h.2;refine⟨List.pairwise_cons.2 ⟨fun y hy=>h.1.2 y hy,ih.1⟩,fun y hy=>?_⟩;rcases List.mem_cons.1 hy with rfl|hy
  ·exact h.1.1
  ·exact ih.2 y hy
variable {i:Nat} {l:List It} {a:Act} {w:World} {o:Oper} {v:Value} {K:Act→World→Prop}
end
end PA
