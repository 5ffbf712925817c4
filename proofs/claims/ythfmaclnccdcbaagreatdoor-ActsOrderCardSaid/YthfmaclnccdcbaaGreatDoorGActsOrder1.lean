/- Part of a proof. -/
import Derived.Test.YthfmaclnccdcbaaGreatDoorGActsOrder0
import Derived.Lib.ConvBytes
import Derived.Test.YthfmaclnccdcbaaGreatDoorRows
import Derived.BigQuiet
import Derived.Deep.QuietTactic
import Derived.LoopTactic
import Derived.OpenShut
import Derived.Laws.BytesString
import Derived.Great.BuildSlice
import Derived.Test.YthfmaclnccdcbaaGreatDoorProg
import Derived.Deep.DeepCutAuto
import Derived.Laws.StructEq
namespace PA
open Go Go.RowKit
def VQ (a:Option Addr) (n c:Nat):Prop:=n≤c∧c≤maxLen∧(a=none→c=0)
structure Rep (α:Type) where
 rel:Mem→List Value→α→Prop
 mono:∀{I J cs x},Mem.le I J→rel I cs x→rel J cs x
def gI {α β:Type} (p:α→β→Prop):List α→List β→Prop
 | [],[]=>True
 | a::l,b::m=>p a b∧gI p l m
 | _,_=>False
theorem gI.wk {α β:Type} {p q:α→β→Prop} (h:∀a b,p a b→q a b):∀{l:List α} {m:List β},gI p l m→gI q l m
 | [],[],_=>trivial
 | _::_,_::_,hh=>⟨h _ _ hh.1,gI.wk h hh.2⟩
 | [],_::_,hh=>hh.elim
 | _::_,[],hh=>hh.elim
theorem gI.length {α β:Type} {p:α→β→Prop}:∀{l:List α} {m:List β},gI p l m→l.length=m.length
 | [],[],_=>rfl
 | _::l,_::m,hh=>by simp[gI.length hh.2]
 | [],_::_,hh=>hh.elim
 | _::_,[],hh=>hh.elim
theorem gI.append {α β:Type} {p:α→β→Prop}:∀{l l':List α} {m m':List β},gI p l m→gI p l' m'→gI p (l++l') (m++m')
 | [],_,[],_,_,h=>h
 | _::_,_,_::_,_,hh,h=>⟨hh.1,gI.append hh.2 h⟩
 | [],_,_::_,_,hh,_=>hh.elim
 | _::_,_,[],_,hh,_=>hh.elim
theorem gI.drop {α β:Type} {p:α→β→Prop}:∀{l:List α} {m:List β} (k:Nat),gI p l m→gI p (l.drop k) (m.drop k)
 | l,m,0,h=>by simpa using h
 | [],[],_+1,h=>h
 | _::_,_::_,k+1,h=>by simpa using gI.drop k h.2
 | [],_::_,_+1,hh=>hh.elim
 | _::_,[],_+1,hh=>hh.elim
theorem gI.take {α β:Type} {p:α→β→Prop}:∀{l:List α} {m:List β} (k:Nat),gI p l m→gI p (l.take k) (m.take k)
 | l,m,0,h=>by simp[gI]
 | [],[],_+1,h=>by simp[gI]
 | _::_,_::_,k+1,h=>by simp only[List.take_succ_cons];exact⟨h.1,gI.take k h.2⟩
 | [],_::_,_+1,hh=>hh.elim
 | _::_,[],_+1,hh=>hh.elim
theorem gI.get {α β:Type} {p:α→β→Prop}:∀{l:List α} {m:List β},gI p l m→∀(i:Nat) (hl:i<l.length) (hm:i<m.length),p l[i] m[i]
 | _::_,_::_,h,0,_,_=>h.1
 | _::_,_::_,h,i+1,hl,hm=>gI.get h.2 i (by simpa using hl) (by simpa using hm)
section
variable {α:Type}
def Rep.is (R:Rep α) (cs:List Value) (x:α):aC:=xX (fun I=>R.rel I cs x) fun _ _ hl h=>R.mono hl h
def Rep.rows (R:Rep α) (k:Nat):Rep (List α) where
 rel I cs xs:=∃css:List (List Value),cs=css.flatten∧gI (fun c x=>R.rel I c x∧c.length=k) css xs
 mono hl:=fun ⟨css,h1,h2⟩=>⟨css,h1,h2.wk fun _ _ h=>⟨R.mono hl h.1,h.2⟩⟩
def Rep.slice (R:Rep α) (k:Nat):Rep (List α) where
 rel I cs xs:=∃a c cells,cs=[.slice a xs.length c]∧VQ a xs.length c∧gY a cells I∧(R.rows k).rel I cells xs
 mono hl:=fun ⟨a,c,cells,h1,h2,h3,h4⟩=>⟨a,c,cells,h1,h2,(by
  rcases h3 with h|⟨b,o,cs,t,f,e1,e2,e3⟩
  ·exact .inl h
  ·exact .inr ⟨b,o,cs,t,f,e1,hl _ _ e2,e3⟩),(R.rows k).mono hl h4⟩
end
def YN:Rep UInt8:=⟨fun _ cs b=>cs=[.int .u8 b.toNat],fun _ h=>h⟩
def qX:Rep Int:=⟨fun _ cs n=>cs=[.int .i64 n],fun _ h=>h⟩
def bT:Rep (List UInt8):=YN.slice 1
def bv (b:UInt8):Value:=.int .u8 b.toNat
def iv (n:Int):Value:=.int .i64 n
theorem CG:∀(l:List Value),(l.map fun v=>[v]).flatten=l
 | []=>rfl
 | v::l=>by simp[CG l]
theorem ru (I:Mem):∀(cs:List Value) (bs:List UInt8),(YN.rows 1).rel I cs bs↔cs=bs.map bv:=by
 intro cs bs;constructor
 ·rintro⟨css,rfl,h⟩
  induction bs generalizing css with
  | nil=>cases css with
   | nil=>rfl
   | cons _ _=>exact h.elim
  | cons b bs ih=>cases css with
   | nil=>exact h.elim
   | cons c css=>
    have h1:c=[.int .u8 b.toNat]:=h.1.1;simp only[List.flatten_cons,ih css h.2,h1,List.map_cons,bv];rfl
 ·rintro rfl
  refine⟨bs.map fun b=>[bv b],?_,?_⟩
  ·rw[←CG (bs.map bv)];simp[Function.comp_def]
  ·induction bs with
   | nil=>trivial
   | cons b bs ih=>exact⟨⟨rfl,rfl⟩,ih⟩
theorem Gq (I:Mem):∀(cs:List Value) (bs:List Int),(qX.rows 1).rel I cs bs↔cs=bs.map iv:=by
 intro cs bs;constructor
 ·rintro⟨css,rfl,h⟩
  induction bs generalizing css with
  | nil=>cases css with
   | nil=>rfl
   | cons _ _=>exact h.elim
  | cons b bs ih=>cases css with
   | nil=>exact h.elim
   | cons c css=>
    have h1:c=[.int .i64 b]:=h.1.1;simp only[List.flatten_cons,ih css h.2,h1,List.map_cons,iv];rfl
 ·rintro rfl
  refine⟨bs.map fun b=>[iv b],?_,?_⟩
  ·rw[←CG (bs.map iv)];simp[Function.comp_def]
  ·induction bs with
   | nil=>trivial
   | cons b bs ih=>exact⟨⟨rfl,rfl⟩,ih⟩
section
variable {W w:World} {A:aC}
theorem Sat.BO {v:Value} {bs:List UInt8} (h:Sat W w (sep (bT.is [v] bs) A)):
 ∃a c,v=.slice a bs.length c∧VQ a bs.length c∧Sat W w (sep (RU a (bs.map bv)) (sep (bT.is [v] bs) A)):=by
 obtain⟨a,c,cells,h1,h2,_,h4⟩:=h.y8;cases h1;refine⟨a,c,rfl,h2,?_⟩;refine h.dup.wk ?_;rintro I m ⟨x,y,h5,h6,⟨h7,a',c',cells',e1,e2,e3,e4⟩,h9⟩;cases e1;exact⟨x,y,h5,h6,⟨h7,by rw[(ru _ _ _).1 e4] at e3;exact e3⟩,h9⟩
theorem Sat.Tz {a:Option Addr} {c:Nat} {bs:List UInt8} (h:Sat W w (sep (RU a (bs.map bv)) A)) (hw:VQ a bs.length c):Sat W w (sep (bT.is [.slice a bs.length c] bs) A):=by
 refine h.wk ?_;rintro I m ⟨x,y,h5,h6,⟨h7,h8⟩,h9⟩;exact⟨x,y,h5,h6,⟨h7,a,c,_,rfl,hw,h8,(ru _ _ _).2 rfl⟩,h9⟩
theorem Sat.eX {E k:Nat} {a:Option Addr} {n c:Nat} {xs:List Value} (h:Sat W w (sep (aT E k a n c xs) A)):VQ a n c:=by
 rcases h.gJ with ⟨rfl,rfl,rfl,rfl,_⟩|⟨g,cur,rfl,h1,h2,h3,_⟩
 ·exact⟨Nat.le_refl _,Nat.zero_le _,fun _=>rfl⟩
 ·exact⟨h2,h3,fun h=>(by cases h)⟩
theorem Sat.Hf {E:Nat} {a:Option Addr} {n c:Nat} {bs:List UInt8} (h:Sat W w (sep (aT E 1 a n c (bs.map bv)) A)):n=bs.length∧Sat W w (sep (bT.is [.slice a n c] bs) A):=by
 have hn:n=bs.length:=by have:=h.uZ.1;simp at this;exact this.symm
 subst hn;exact⟨rfl,h.fQ.Tz h.eX⟩
end
theorem mW {α:Type} {R:Rep α} {k:Nat} {I:Mem} {cs c:List Value} {xs:List α} {x:α} (h:(R.rows k).rel I cs xs) (hx:R.rel I c x) (hk:c.length=k):(R.rows k).rel I (cs++c) (xs++[x]):=by
 obtain⟨css,rfl,h2⟩:=h;exact⟨css++[c],by simp,h2.append ⟨⟨hx,hk⟩,trivial⟩⟩
theorem Sat.snoc {W w:World} {A:aC} {α:Type} {R:Rep α} {k:Nat} {cs c:List Value} {xs:List α} {x:α} (h:Sat W w (sep ((R.rows k).is cs xs) (sep (R.is c x) A))) (hk:c.length=k):Sat W w (sep ((R.rows k).is (cs++c) (xs++[x])) A):=by
 refine h.wk ?_;rintro I m ⟨x1,y1,d1,e1,⟨rfl,h1⟩,x2,y2,d2,rfl,⟨rfl,h2⟩,h3⟩;refine⟨Mem.no,y2,fun _=>.inl rfl,by rw[e1,Mem.oW],⟨rfl,mW h1 h2 hk⟩,h3⟩
theorem gI.mem {α β:Type} {p:α→β→Prop}:∀{l:List α} {m:List β},gI p l m→∀a∈l,∃b,p a b
 | a::l,b::m,h,x,hx=>by
  rcases List.mem_cons.1 hx with rfl|hx
  ·exact⟨b,h.1⟩
  ·exact gI.mem h.2 x hx
 | [],_,_,_,hx=>by cases hx
def iG (k:Int) (e:MapEntry):Bool:=match e.key with|.int _ n=>n==k|_=>false
structure fP (es:List MapEntry) (f:Int→Option Value):Prop where
 keys:∀e∈es,∃k,e.key=.int .i64 k
 nodup:es.Pairwise fun x y=>x.key≠y.key
 get:∀k,(es.find? (iG k)).map (·.val)=f k
def kE (b:Nat) (f:Int→Option Value) (n:Nat):aC:=ex fun s:Array MapEntry×Nat=>sep (fact (fP s.1.toList f∧s.1.size=n)) (blk b (.map s.1 s.2))
def lM {α:Type} (f:Int→Option α) (k:Int) (v:Option α):Int→Option α:=fun x=>if x=k then v else f x
theorem Ci (k:Int):∀(es:List MapEntry),(∀e∈es,∃n,e.key=.int .i64 n)→∀i,∃r,Instr.findNow (.int .i64) (.int .i64 k) es i=some r ∧
 r.map (·.2)=(es.find? (iG k)).map (·.val)∧∀j v,r=some (j,v)→i≤j∧∃e,es[j-i]?=some e∧e.key=.int .i64 k∧e.val=v
 | [],_,i=>⟨none,rfl,rfl,fun _ _ h=>(by cases h)⟩
 | e::es,h,i=>by
  obtain⟨n,hn⟩:=h e (by simp);simp only[Instr.findNow,hn,Instr.sameNow,if_true]
  by_cases hk:k=n
  ·subst hk
   refine⟨some (i,e.val),by simp,by simp[iG,hn],?_⟩;rintro j v h;cases h;exact⟨Nat.le_refl _,e,by simp,hn,rfl⟩
  ·obtain⟨r,h1,h2,h3⟩:=Ci k es (fun x hx=>h x (by simp[hx])) (i+1)
   have:(k==n)=false:=by simp[hk]
   refine⟨r,by simp[this,h1],?_,?_⟩
   ·rw[h2]
    have:iG k e=false:=by simp[iG,hn];omega
    simp[this]
   ·intro j v hr
    obtain⟨h4,e',h5,h6⟩:=h3 j v hr;refine⟨by omega,e',?_,h6⟩;rw[show j-i=(j-(i+1))+1 by omega];simpa using h5
section
variable {P:Program} {W w:World} {A:aC}
theorem Sat.yX {b:Nat} {f:Int→Option Value} {n:Nat} (h:Sat W w (sep (kE b f n) A)):∃es clock,fP es.toList f∧es.size=n∧Sat W w (sep (blk b (.map es clock)) A):=by
 rw[kE,fK,Sat.ex] at h;obtain⟨⟨es,clock⟩,h⟩:=h;rw[aj] at h;have h':=Sat.fact.1 h;exact⟨es,clock,h'.1.1,h'.1.2,h'.2⟩
theorem Sat.Ig {b:Nat} {f:Int→Option Value} {n:Nat} {es:Array MapEntry} {clock:Nat} (h:Sat W w (sep (blk b (.map es clock)) A)) (h1:fP es.toList f) (h2:es.size=n):Sat W w (sep (kE b f n) A):=by
 rw[kE,fK,Sat.ex];refine⟨(es,clock),?_⟩;rw[aj];exact Sat.fact.2 ⟨⟨h1,h2⟩,h⟩
theorem fP.nil:fP [] (fun _=>none):=⟨fun _ h=>(by cases h),.nil,fun _=>rfl⟩
theorem fP.push {es:List MapEntry} {f:Int→Option Value} (h:fP es f) (k:Int) (v:Value) (c:Nat) (hk:f k=none):fP (es++[{ key:=.int .i64 k,val:=v,born:=c }]) (lM f k (some v)):=by
 have hno:∀e∈es,e.key≠.int .i64 k:=fun e he hke=>by
  have h1:=h.get k;rw[hk] at h1;cases hf:es.find? (iG k) with
  | some x=>rw[hf] at h1;cases h1
  | none=>rw[List.find?_eq_none] at hf;exact hf e he (by simp[iG,hke])
 refine⟨fun e he=>?_,List.pairwise_append.2 ⟨h.nodup,by simp,fun x hx y hy=>?_⟩,fun x=>?_⟩
 ·rcases List.mem_append.1 he with he|he
  ·exact h.keys e he
  ·simp at he;subst he;exact⟨k,rfl⟩
 ·simp at hy;subst hy;exact hno x hx
 ·rw[List.find?_append]
  have h1:=h.get x
  by_cases e:x=k
  ·subst e
   rw[hk] at h1;have hf:es.find? (iG x)=none:=by
    cases hf:es.find? (iG x) with
    | none=>rfl
    | some _=>rw[hf] at h1;cases h1
   simp[hf,iG,lM]
  ·have:(if k=x then some ({ key:=.int .i64 k,val:=v,born:=c }:MapEntry) else none)=none:=if_neg (fun h=>e h.symm)
   simp[iG,lM,e,←h1,beq_false_of_ne (fun h=>e h.symm:k≠x)]
theorem TJ {es:List MapEntry} (hnd:es.Pairwise fun x y=>x.key≠y.key) {j:Nat} {e:MapEntry} {k:Int} (hj:es[j]?=some e) (hek:e.key=.int .i64 k):
 ∀x∈es,x.key=.int .i64 k→∃j',es[j']?=some x∧j'=j:=by
 intro x hx hxk;obtain⟨i,hi,rfl⟩:=List.mem_iff_getElem.1 hx;refine⟨i,List.getElem?_eq_getElem hi,?_⟩;obtain⟨hj1,rfl⟩:=List.getElem?_eq_some_iff.1 hj;rcases Nat.lt_trichotomy i j with h|h|h
 ·exact absurd (hxk.trans hek.symm) (List.pairwise_iff_getElem.1 hnd i j hi hj1 h)
 ·exact h
 ·exact absurd (hek.trans hxk.symm) (List.pairwise_iff_getElem.1 hnd j i hj1 hi h)
theorem fP.erase {es:List MapEntry} {f:Int→Option Value} (h:fP es f) (k:Int) {j:Nat} {e:MapEntry} (hj:es[j]?=some e) (he:e.key=.int .i64 k):fP (es.eraseIdx j) (lM f k none):=by
 have hsub:=List.eraseIdx_sublist es j;obtain⟨hj1,hj2⟩:=List.getElem?_eq_some_iff.1 hj;have hno:∀x∈es.eraseIdx j,x.key≠.int .i64 k:=fun x hx hxk=>by
  obtain⟨i,hne,hi⟩:=List.mem_eraseIdx_iff_getElem?.1 hx;obtain⟨j',h1,h2⟩:=TJ h.nodup hj he x (hsub.mem hx) hxk;obtain⟨hi1,hi2⟩:=List.getElem?_eq_some_iff.1 hi;rcases Nat.lt_trichotomy i j with h3|h3|h3
  ·exact List.pairwise_iff_getElem.1 h.nodup i j hi1 hj1 h3 (by rw[hi2,hj2,hxk,he])
  ·exact hne h3
  ·exact List.pairwise_iff_getElem.1 h.nodup j i hj1 hi1 h3 (by rw[hi2,hj2,hxk,he])
 refine⟨fun x hx=>h.keys x (hsub.mem hx),h.nodup.sublist hsub,fun x=>?_⟩
 by_cases e':x=k
 ·subst e'
  have:(es.eraseIdx j).find? (iG x)=none:=by
   rw[List.find?_eq_none];intro y hy hky;obtain⟨n,hn⟩:=h.keys y (hsub.mem hy);simp[iG,hn] at hky;subst hky;exact hno y hy hn
  simp[this,lM]
 ·rw[show lM f k none x=f x by simp[lM,e'],←h.get x]
  have hsplit:es=es.take j++e::es.drop (j+1):=by
   rw[←hj2,←List.drop_eq_getElem_cons hj1,List.take_append_drop]
  have hke:iG x e=false:=by simp[iG,he];exact fun h=>e' h.symm
  rw[List.eraseIdx_eq_take_drop_succ]
  conv=>rhs;rw[hsplit]
  simp[List.find?_append,hke]
theorem iI {K:TypeId} {k:Int} (hK:P.underlying K=some (.int .i64)) (b:Bool) (w:World):(Instr.checkKey b 10000 K (.int .i64 k)).run P w=.ok () w:=by
 have:∀n,(Instr.checkKey b (n+1) K (.int .i64 k)).run P w=.ok () w:=fun n=>by simp[Instr.checkKey,run_underlying hK]
 exact this 9999
theorem run_getObj_map {b:Nat} {es:Array MapEntry} {clock:Nat} (h:w.heap[b]?=some (.map es clock)):(getObj b).run P w=.ok (.map es clock) w:=by
 simp[getObj,Sem.run,h]
theorem lQ {K:TypeId} {k:Int} {es:List MapEntry} {f:Int→Option Value} (hK:P.underlying K=some (.int .i64)) (hr:fP es f) (w:World):
 ∃r,(Instr.findKey K (.int .i64 k) es).run P w=.ok r w∧r.map (·.2)=f k∧∀j v,r=some (j,v)→∃e,es[j]?=some e∧e.key=.int .i64 k∧e.val=v:=by
 obtain⟨r,h1,h2,h3⟩:=Ci k es hr.keys 0;refine⟨r,?_,by rw[h2,hr.get],fun j v h=>by simpa using (h3 j v h).2⟩;simp[Instr.findKey,run_underlying hK,h1]
theorem lS {T K E:TypeId} {z:Value} (hT:P.underlying T=some (.map K E)) (hK:P.underlying K=some (.int .i64)) (hz:∀w,(zeroValue E).run P w=.ok z w)
 {b:Nat} {f:Int→Option Value} {n:Nat} (h:Sat W w (sep (kE b f n) A)) (k:Int) (ok:Bool):
 (Instr.lookup T (.map (some b)) (.int .i64 k) ok).run P w=.ok (if ok then .tuple #[(f k).getD z,.bool (f k).isSome] else (f k).getD z) w:=by
 obtain⟨es,clock,h1,h2,h3⟩:=h.yX;obtain⟨r,e1,e2,e3⟩:=lQ (P:=P) (k:=k) hK h1 w;have hg:=run_getObj_map (P:=P) h3.aO;rw[←e2];cases r with
 | none=>cases ok<;>simp[Instr.lookup,run_underlying hT,hg,iI hK,e1,hz]
 | some r=>obtain⟨i,v⟩:=r;cases ok<;>simp[Instr.lookup,run_underlying hT,hg,iI hK,e1]
theorem run_setObj_map {b:Nat} {es:Array MapEntry} {clock:Nat} (h:w.heap[b]?=some (.map es clock)) (o:Obj):(setObj b o).run P w=.ok () { w with heap:=w.heap.setIfInBounds b o }:=by
 simp[setObj,Sem.run,h]
theorem Sat.setObj {b:Nat} {o:Obj} (h:Sat W w (sep (blk b o) A)) (o':Obj):Sat W { w with heap:=w.heap.setIfInBounds b o' } (sep (blk b o') A):=
 h.change rfl rfl rfl (by simp[h.lt]) fun k hk _=>by simp[Ne.symm hk]
theorem Ed {T K E:TypeId} (hT:P.underlying T=some (.map K E)) (hK:P.underlying K=some (.int .i64)) {b:Nat} {f:Int→Option Value} {n:Nat} (h:Sat W w (sep (kE b f n) A)) (k:Int) (v:Value) (hk:f k=none):
 ∃w',(Instr.mapUpdate T (.map (some b)) (.int .i64 k) v).run P w=.ok () w'∧Sat W w' (sep (kE b (lM f k (some v)) (n+1)) A):=by
 obtain⟨es,clock,h1,h2,h3⟩:=h.yX;obtain⟨r,e1,e2,e3⟩:=lQ (P:=P) (k:=k) hK h1 w;have hg:=run_getObj_map (P:=P) h3.aO;rw[hk] at e2;obtain rfl:r=none:=by cases r with|none=>rfl|some _=>cases e2
 refine⟨_,by simp[Instr.mapUpdate,run_underlying hT,hg,iI hK,e1,run_setObj_map (P:=P) h3.aO];rfl,(h3.setObj _).Ig ?_ (by simp[h2])⟩;simpa using h1.push k v clock hk
theorem fP.modify {es:List MapEntry} {f:Int→Option Value} (h:fP es f) (k:Int) (v:Value) {j:Nat} {e:MapEntry} (hj:es[j]?=some e) (he:e.key=.int .i64 k):
 fP (es.modify j fun x=>{ x with key:=.int .i64 k,val:=v }) (lM f k (some v)):=by
 obtain⟨hj1,hj2⟩:=List.getElem?_eq_some_iff.1 hj;have hsplit:es=es.take j++e::es.drop (j+1):=by
  rw[←hj2,←List.drop_eq_getElem_cons hj1,List.take_append_drop]
 have hmod:(es.modify j fun x=>{ x with key:=.int .i64 k,val:=v })=es.take j++{ e with key:=.int .i64 k,val:=v }::es.drop (j+1):=by
  rw[List.modify_eq_take_cons_drop hj1,hj2]
 have hnd:=h.nodup;rw[hsplit] at hnd;rw[hmod];have hp:=List.pairwise_append.1 hnd;have hc:=List.pairwise_cons.1 hp.2.1;refine⟨fun x hx=>?_,List.pairwise_append.2 ⟨hp.1,List.pairwise_cons.2 ⟨fun y hy=>?_,hc.2⟩,fun x hx y hy=>?_⟩,fun x=>?_⟩
 ·simp only[List.mem_append,List.mem_cons] at hx
  rcases hx with hx|rfl|hx
  ·exact h.keys x (List.mem_of_mem_take hx)
  ·exact⟨k,rfl⟩
  ·exact h.keys x (List.mem_of_mem_drop hx)
 ·have:=hc.1 y hy;rw[he] at this;exact this
 ·rcases List.mem_cons.1 hy with rfl|hy
  ·have:=hp.2.2 x hx e (by simp);rw[he] at this;exact this
  ·exact hp.2.2 x hx y (by simp[hy])
 ·by_cases e':x=k
  ·subst e'
   have hno:(es.take j).find? (iG x)=none:=by
    rw[List.find?_eq_none];intro y hy hky;obtain⟨n,hn⟩:=h.keys y (List.mem_of_mem_take hy);simp[iG,hn] at hky;subst hky;exact hp.2.2 y hy e (by simp) (hn.trans he.symm)
   simp[List.find?_append,hno,iG,lM]
  ·rw[show lM f k (some v) x=f x by simp[lM,e'],←h.get x]
   have h1:iG x e=false:=by simp[iG,he];exact fun h=>e' h.symm
   have h2:iG x { e with key:=.int .i64 k,val:=v }=false:=by simp[iG];exact fun h=>e' h.symm
   conv=>rhs;rw[hsplit]
   simp[List.find?_append,h1,h2]
theorem IW (n:Nat) (k:Int):Instr.sameBits n (.int .i64 k) (.int .i64 k)=true:=by cases n<;>simp[Instr.sameBits]
end
end PA
namespace PA
open Go Go.RowKit
def kn (I:Mem):aC:=xX (Mem.le I) fun _ _ hl h b o hb=>hl _ _ (h b o hb)
def Ext (I:Mem) (w:World):Prop:=∀b o,I b=some o→w.heap[b]?=some o
section
variable {W w w':World} {A:aC} {I J:Mem}
theorem Sat.ext (h:Sat W w (sep (kn I) A)):Ext I w:=h.y8
theorem Sat.know (h:Sat W w A):∃I,Sat W w (sep (kn I) A):=by
 obtain⟨h1,h2,h3,I,m,h4,h5,h6,h7⟩:=h;exact⟨I,h1,h2,h3,I,m,h4,h5,h6,Mem.no,m,fun _=>.inl rfl,(Mem.oW _).symm,⟨rfl,Mem.le_refl I⟩,h7⟩
theorem Sat.learn {p:Mem→Prop} {hp:∀I J,Mem.le I J→p I→p J} (h:Sat W w (sep (xX p hp) (sep (kn I) A))):∃J,Mem.le I J∧p J∧Sat W w (sep (kn J) A):=by
 obtain⟨h1,h2,h3,J,m,h4,h5,h6,x,y,h7,rfl,⟨rfl,hp'⟩,x',y',h8,rfl,⟨rfl,hle⟩,h9⟩:=h;refine⟨J,hle,hp',h1,h2,h3,J,_,h4,h5,h6,Mem.no,y',fun _=>.inl rfl,?_,⟨rfl,Mem.le_refl J⟩,h9⟩;rw[Mem.oW]
theorem Sat.tell {p:Mem→Prop} {hp:∀I J,Mem.le I J→p I→p J} (h:Sat W w (sep (kn I) A)) (hI:p I):Sat W w (sep (xX p hp) (sep (kn I) A)):=by
 refine h.wk ?_;rintro K m ⟨x,y,h7,rfl,⟨rfl,hle⟩,h9⟩;exact⟨Mem.no,_,fun _=>.inl rfl,(Mem.oW _).symm,⟨rfl,hp _ _ hle hI⟩,Mem.no,y,fun _=>.inl rfl,rfl,⟨rfl,hle⟩,h9⟩
theorem Sat.W9 (h:Sat W w (sep (kn J) A)) (hle:Mem.le I J):Sat W w (sep (kn I) A):=by
 refine h.wk ?_;rintro K m ⟨x,y,h7,rfl,⟨rfl,hle'⟩,h9⟩;exact⟨Mem.no,y,fun _=>.inl rfl,rfl,⟨rfl,fun b o hb=>hle' _ _ (hle _ _ hb)⟩,h9⟩
theorem eG {I J K:Mem} (h:Mem.le I J) (k:Mem.le J K):Mem.le I K:=fun _ _ hb=>k _ _ (h _ _ hb)
theorem pO {a:Option Addr} {xs:List Value} (h:gY a xs I) (hne:xs≠[]):∃b o,a=some ⟨b,o,none⟩∧∀w',Ext I w'→∀i u,xs[i]?=some u→w'.cell? ⟨b,o+i,none⟩=some u:=by
 rcases h with h|⟨b,o,cs,t,f,h1,h2,h3⟩
 ·exact absurd h hne
 ·exact⟨b,o,h1,fun w' he i u hu=>by rw[cell_of_row w' b (o+i) cs t f (he _ _ h2)];exact h3 i u hu⟩
theorem qK {a:Option Addr} {xs:List Value} (hl:Mem.le I J) (h:gY a xs I):gY a xs J:=by
 rcases h with h|⟨b,o,cs,t,f,h1,h2,h3⟩
 ·exact .inl h
 ·exact .inr ⟨b,o,cs,t,f,h1,hl _ _ h2,h3⟩
theorem uH {v:Value} {bs:List UInt8}:bT.rel I [v] bs↔∃a c,v=.slice a bs.length c∧VQ a bs.length c∧gY a (bs.map bv) I:=by
 constructor
 ·rintro⟨a,c,cells,h1,h2,h3,h4⟩
  cases h1;rw[(ru _ _ _).1 h4] at h3;exact⟨a,c,rfl,h2,h3⟩
 ·rintro⟨a,c,rfl,h2,h3⟩
  exact⟨a,c,_,rfl,h2,h3,(ru _ _ _).2 rfl⟩
end
theorem iP (w:World) (cs:List Value) (t:TypeId):∀j u,cs[j]?=some u→(w.alloc (.cells cs.toArray t)).cell? ((⟨w.heap.size,0,none⟩:Addr).add j)=some u:=by
 intro j u h;have:(⟨w.heap.size,0,none⟩:Addr).add j=⟨w.heap.size,j,none⟩:=by unfold Addr.add;split<;>simp_all
 rw[this,World.cell?_alloc_new];simpa using h
theorem PW {w:World} {b:Addr} {xs:List Value} (h:∀j u,xs[j]?=some u→w.cell? (b.add j)=some u) (o:Obj):∀j u,xs[j]?=some u→(w.alloc o).cell? (b.add j)=some u:=by
 intro j u hu;have:=h j u hu;rw[World.cell?_alloc_lt w o _ (World.block_lt_of_cell? w _ this)];exact this
theorem Nl (bs:List UInt8):∀u∈bs.map bv,u.oneCell'=true:=by
 intro u hu;obtain⟨b,_,rfl⟩:=List.mem_map.1 hu;rfl
theorem AZ {I:Mem} {w:World} {a:Option Addr} {xs:List Value} (h:gY a xs I) (he:Ext I w):∀b,a=some b→∀j u,xs[j]?=some u→w.cell? (b.add j)=some u:=by
 intro b hb j u hu;obtain⟨b',o,e,hc⟩:=pO h (fun e=>by rw[e] at hu;simp at hu);rw[hb] at e;cases e;have:=hc w he j u hu;unfold Addr.add;split
 ·rename_i e;subst e;simpa using this
 ·exact this
end PA
namespace PA
open Go Go.RowKit
def VB:Rep Iv:=⟨fun _ cs x=>cs=[.int .i64 x.ln,.int .i64 x.ld,.int .i64 x.hn,.int .i64 x.hd,.bool x.lo,.bool x.ho,.bool x.li,.bool x.hi],fun _ h=>h⟩
mutual
def Xk (I:Mem):Fm→List Value→Prop
 | .mk o n i k,cs=>∃(a:Option Addr) (c:Nat) (b:Option Addr) (d:Nat),cs=[.int .i64 o,.int .i64 n,.slice a i.length c,.slice b k.length d]∧(VB.slice 8).rel I [.slice a i.length c] i∧VQ b k.length d∧∃css,gY b css.flatten I∧Lm I k css
def Lm (I:Mem):List Fm→List (List Value)→Prop
 | [],css=>css=[]
 | f::l,css=>∃c t,css=c::t∧(Xk I f c∧c.length=4)∧Lm I l t
end
mutual
theorem Gn {I J:Mem} (hl:Mem.le I J):∀(f:Fm) (cs:List Value),Xk I f cs→Xk J f cs
 | .mk _ _ _ k,_,⟨a,c,b,d,e,hi,hw,css,hc,hk⟩=>⟨a,c,b,d,e,(VB.slice 8).mono hl hi,hw,css,qK hl hc,D8 hl k css hk⟩
theorem D8 {I J:Mem} (hl:Mem.le I J):∀(l:List Fm) (css:List (List Value)),Lm I l css→Lm J l css
 | [],_,h=>h
 | f::l,_,⟨c,t,e,h1,h2⟩=>⟨c,t,e,⟨Gn hl f c h1.1,h1.2⟩,D8 hl l t h2⟩
end
def rF:Rep Fm:=⟨fun I cs f=>Xk I f cs,fun hl h=>Gn hl _ _ h⟩
theorem vg {I:Mem}:∀{l:List Fm} {css:List (List Value)},Lm I l css↔gI (fun c x=>rF.rel I c x∧c.length=4) css l
 | [],[]=>⟨fun _=>trivial,fun _=>rfl⟩
 | [],_::_=>⟨fun h=>(by cases h),fun h=>False.elim h⟩
 | f::l,[]=>⟨fun ⟨_,_,h,_⟩=>(by cases h),fun h=>False.elim h⟩
 | f::l,c::t=>by
  constructor
  ·rintro⟨c',t',e,h1,h2⟩
   cases e;exact⟨h1,vg.1 h2⟩
  ·rintro⟨h1,h2⟩
   exact⟨c,t,rfl,h1,vg.2 h2⟩
theorem dR {I:Mem} {cs:List Value} {o n:Int} {i:List Iv} {k:List Fm}:rF.rel I cs (.mk o n i k)↔∃(a:Option Addr) (c:Nat) (b:Option Addr) (d:Nat),cs=[.int .i64 o,.int .i64 n,.slice a i.length c,.slice b k.length d]∧(VB.slice 8).rel I [.slice a i.length c] i∧(rF.slice 4).rel I [.slice b k.length d] k:=by
 constructor
 ·rintro⟨a,c,b,d,e,hi,hw,css,hc,hk⟩
  exact⟨a,c,b,d,e,hi,b,d,css.flatten,rfl,hw,hc,css,rfl,vg.1 hk⟩
 ·rintro⟨a,c,b,d,e,hi,b',d',cells,e2,hw,hc,css,rfl,hk⟩
  cases e2;exact⟨a,c,b,d,e,hi,hw,css,hc,vg.2 hk⟩
end PA
namespace PA
open Go Go.RowKit
structure Cl where
 refs:List Int
 body:Fm
structure Ea where
 file:Int
 day:Int
structure Pa where
 k:Int
 d:Int
 n:Int
 f:Int
 o:Int
 p:Int
 q:Int
 u:Int
 m:Int
 sn:Int
 sd:Int
 td:List Fm
 tc:List Cl
 cl:List Cl
 ea:List Ea
 fx:Fm
def Fm.zero:Fm:=.mk 0 0 [] []
def Pa.zero:Pa:=⟨0,0,0,0,0,0,0,0,0,0,0,[],[],[],[],Fm.zero⟩
def MJ:Rep Ea:=⟨fun _ cs x=>cs=[.int .i64 x.file,.int .i64 x.day],fun _ h=>h⟩
def kM:Rep Cl:=⟨fun I cs x=>∃(a:Option Addr) (c:Nat) (b:List Value),cs=.slice a x.refs.length c::b∧(qX.slice 1).rel I [.slice a x.refs.length c] x.refs∧rF.rel I b x.body,
 fun hl ⟨a,c,b,e,h1,h2⟩=>⟨a,c,b,e,(qX.slice 1).mono hl h1,rF.mono hl h2⟩⟩
structure kX (I:Mem) (z:Ac) (x:Pa):Prop where
 k:z.k=x.k
 d:z.d=x.d
 n:z.n=x.n
 f:z.f=x.f
 o:z.o=x.o
 p:z.p=x.p
 q:z.q=x.q
 u:z.u=x.u
 m:z.m=x.m
 sn:z.sn=x.sn
 sd:z.sd=x.sd
 td:(rF.slice 4).rel I [z.td.v] x.td
 tc:(kM.slice 5).rel I [z.tc.v] x.tc
 cl:(kM.slice 5).rel I [z.cl.v] x.cl
 ea:(MJ.slice 2).rel I [z.ea.v] x.ea
 fx:rF.rel I [.int .i64 z.fo,.int .i64 z.fn,z.fi.v,z.fk.v] x.fx
theorem kX.mono {I J:Mem} {z:Ac} {x:Pa} (hl:Mem.le I J) (h:kX I z x):kX J z x:=
 ⟨h.k,h.d,h.n,h.f,h.o,h.p,h.q,h.u,h.m,h.sn,h.sd,(rF.slice 4).mono hl h.td,(kM.slice 5).mono hl h.tc,(kM.slice 5).mono hl h.cl,(MJ.slice 2).mono hl h.ea,rF.mono hl h.fx⟩
theorem aF {α:Type} (R:Rep α) (k:Nat) (I:Mem):(R.slice k).rel I [.slice none 0 0] []:=
 ⟨none,0,[],rfl,⟨Nat.le_refl _,Nat.zero_le _,fun _=>rfl⟩,.inl rfl,[],rfl,trivial⟩
theorem dS (I:Mem):rF.rel I [.int .i64 0,.int .i64 0,.slice none 0 0,.slice none 0 0] Fm.zero:=
 dR.2 ⟨none,0,none,0,rfl,aF _ _ _,aF _ _ _⟩
theorem kX.zero (I:Mem):kX I Ac.zero Pa.zero:=
 ⟨rfl,rfl,rfl,rfl,rfl,rfl,rfl,rfl,rfl,rfl,rfl,aF _ _ _,aF _ _ _,aF _ _ _,aF _ _ _,dS I⟩
def Bf (x:Iv):Prop:=0≤x.ln∧x.ln≤4∧x.ld=1∧x.li=false∧((x.hi=true∧x.hn=0∧x.hd=0∧x.ho=false)∨(x.hi=false∧x.hd=1∧x.ln<x.hn∧x.hn≤8))
def oG (f:Fm):Prop:=∃n:Int,0≤n∧n<6∧f=.mk 1 n [] []
def zx (f:Fm):Prop:=∃(n:Int) (x:Iv),0≤n∧n<2∧Bf x∧f=.mk 2 n [x] []
inductive cO:Fm→Prop
 | c {f}:oG f→cO f
 | v {f}:zx f→cO f
 | FB {f g}:oG f→zx g→cO (.mk 4 0 [] [f,g])
 | Rj {f g}:oG f→zx g→cO (.mk 5 0 [] [f,g])
 | UE {f g}:oG f→oG g→cO (.mk 5 0 [] [f,g])
 | Tc {f g}:oG f→oG g→cO (.mk 4 0 [] [f,.mk 6 0 [] [g]])
 | part {f}:oG f→cO (.mk 3 0 [] [f])
 | Td {f g}:oG f→zx g→cO (.mk 4 0 [] [f,.mk 3 0 [] [g]])
def lg (i:Nat) (r:List Int):Prop:=r=[]∨(∃j:Nat,j<i∧r=[(j:Int)])∨(i=2∧r=[0,1])
def jW (l:List Cl):Prop:=1≤l.length∧l.length≤3∧∀(i:Nat) (h:i<l.length),cO l[i].body∧lg i l[i].refs
def zq (td:List Fm) (tc:List Cl):Prop:=1≤td.length∧td.length≤2∧(∀f∈td,cO f)∧jW tc
def fC (N:Nat) (z:Int):Prop:=∃j:Nat,j<N∧z=5*(j:Int)
def GH (N:Nat) (l:List Ea):Prop:=l.length≤2∧(∀e∈l,fC N e.file∧35600≤e.day∧e.day≤38001)∧l.Pairwise fun a b=>a.file≠b.file
def Bc (N:Nat) (y:Pa):Prop:=
 ∃(o p q:Int) (td:List Fm) (tc:List Cl) (ea:List Ea),y={ Pa.zero with f:=5*(N:Int),o:=o,p:=p,q:=q,td:=td,tc:=tc,ea:=ea } ∧
  (o=0∨o=1)∧(p=1∨p=2)∧(q=-1∨fC N q)∧zq td tc∧GH N ea
def MK (n d:Int):Prop:=(n=1∧d=1)∨(n=1∧d=2)∨(n=1∧d=3)∨(n=2∧d=3)
inductive Other (N:Nat):Pa→Prop
 | plain {k f:Int}:(k=1∨k=2∨k=10∨k=11)→fC N f→Other N { Pa.zero with k:=k,f:=f }
 | list {k f:Int} {cl:List Cl}:(k=3∨k=15)→fC N f→jW cl→Other N { Pa.zero with k:=k,f:=f,cl:=cl }
 | pay {f p q u m:Int}:fC N f→(p=1∨p=2)→(q=0∨q=1)→((0≤u∧u≤5)∨(9≤u∧u≤11))→1≤m→m≤1000→Other N { Pa.zero with k:=4,f:=f,p:=p,q:=q,u:=u,m:=m }
 | small {p u:Int}:(p=1∨p=2)→(u=0∨u=1)→Other N { Pa.zero with k:=5,p:=p,u:=u }
 | order {k f u:Int}:(k=6∨k=7∨k=18∨k=9)→fC N f→0≤u→u<60→(k≠9→u≤2)→Other N { Pa.zero with k:=k,f:=f,u:=u }
 | extend {f u m:Int}:fC N f→0≤u→u≤2→1≤m→m≤4→Other N { Pa.zero with k:=8,f:=f,u:=u,m:=m }
 | Ir {k f p:Int}:(k=12∨k=14)→fC N f→1≤p→p≤4→Other N { Pa.zero with k:=k,f:=f,p:=p }
 | decide {f q u:Int} {cl:List Cl}:fC N f→(q=0∨q=1)→((u=0∨u=1)∧cl=[]∨u=2∧jW cl)→Other N { Pa.zero with k:=13,f:=f,q:=q,u:=u,cl:=cl }
 | transfer {f p q sn sd:Int}:fC N f→1≤p→p≤3→p<q→q≤p+2→MK sn sd→Other N { Pa.zero with k:=16,f:=f,p:=p,q:=q,sn:=sn,sd:=sd }
 | Ii {f p q u:Int}:fC N f→1≤p→p≤3→p<q→q≤p+2→0≤u→u<2000→Other N { Pa.zero with k:=17,f:=f,p:=p,q:=q,u:=u }
 | art {g:Fm}:cO g→Other N { Pa.zero with k:=19,fx:=g }
 | closure {o u:Int}:(o=0∨o=1)→0≤u→u<20→Other N { Pa.zero with k:=20,o:=o,u:=u }
 | rule {o u m:Int}:(o=0∨o=1)→0≤u→u≤18→1≤m→m≤50→Other N { Pa.zero with k:=21,o:=o,u:=u,m:=m }
def bC (y:Pa) (d n:Int):Pa:={ y with d:=d,n:=n,u:=if y.k=9∨y.k=17∨y.k=20 then d+y.u else y.u }
def Jl (N:Nat) (x:Pa):Prop:=∃y d n,(Bc N y∨Other N y)∧35600≤d∧d≤38000∧x=bC y d n
def Af (l:List Pa):Nat:=(l.filter fun x=>x.k==0).length
def Made (l:List Pa):Prop:=∀(i:Nat) (h:i<l.length),Jl (Af (l.take i)) l[i]∧l[i].n=4*(i:Int)∧(i=0→l[i].k=0)
end PA
namespace PA
open Go Go.RowKit
def iK (r:Int):Prop:=-9223372036854775808≤r∧r≤9223372036854775807
def vW (x:Pa) (h:Int) (b:Int):Pa:=
 if h=0 then {x with k:=b} else if h=1 then {x with d:=b} else if h=2 then {x with n:=b} else if h=3 then {x with f:=b} else if h=4 then {x with o:=b}
 else if h=5 then {x with p:=b} else if h=6 then {x with q:=b} else if h=7 then {x with u:=b} else if h=8 then {x with m:=b} else if h=9 then {x with sn:=b,sd:=2}
 else if h=10 then {x with td:=[.mk b 0 [] []],tc:=[]} else if h=11 then {x with cl:=[⟨[b],Fm.zero⟩]} else if h=12 then {x with ea:=x.ea++[⟨b,5⟩,⟨4095,b⟩]}
 else {x with fx:=.mk b 1 [] []}
end PA
namespace PA
open Go Go.RowKit
section
variable {W w:World} {A:aC}
end
end PA
namespace Go.Proofs.YthfmaclnccdcbaaGreatDoor
open Go.RowKit PA
theorem qg {a:Int} (h:(Lit.int .i64 a).wf=true):-9223372036854775808≤a∧a≤9223372036854775807:=bounds_i64 h
def fV (n m:Int):Int:=(if n<0 then -(n+1) else n) % m
theorem iY (n m:Int) (h:0<m):0≤fV n m∧fV n m<m:=by
 unfold fV;exact⟨Int.emod_nonneg _ (by omega),Int.emod_lt_of_pos _ h⟩
theorem P9 {a b:Int} (h:a=b):Ending.returned (.int .i64 a)=.returned (.int .i64 b):=by rw[h]
theorem UM {a b:Bool} (h:a=b):Ending.returned (.bool a)=.returned (.bool b):=by rw[h]
set_option maxHeartbeats 400000 in
theorem jJ (n m:Int) (w:World) (hn:-9223372036854775808≤n) (hn2:n≤9223372036854775807) (hm:1≤m) (hm2:m≤9223372036854775807):
 Calls Tryz.prog 16 #[.int .i64 n,.int .i64 m] w fun e w'=>e=.returned (.int .i64 (fV n m))∧w=w':=by
 by_cases h:n<0
 ·go_enter Tryz.func16,Tryz.ntmps16
  go_wp2
  go_ret
  exact⟨P9 (by unfold fV;rw[if_pos h,←Int.neg_tmod,Int.tmod_eq_emod_of_nonneg (by omega)]),rfl⟩
 ·go_enter Tryz.func16,Tryz.ntmps16
  go_wp2
  go_ret
  exact⟨P9 (by unfold fV;rw[if_neg (by omega)]),rfl⟩
theorem Ph {bs:List UInt8} {i:Nat} (h:i<bs.length):(bs.map bv)[i]?=some (.int .u8 (bs[i].toNat:Int)):=by
 rw[List.getElem?_map,List.getElem?_eq_getElem h];rfl
set_option maxHeartbeats 1000000 in
theorem Ee {W w:World} {A:aC} (v u:Value) (x y:List UInt8) (h:Sat W w (sep (bT.is [v] x) (sep (bT.is [u] y) A))):
 Calls Tryz.prog 71 #[v,u] w fun e w'=>e=.returned (.bool (decide (x=y)))∧Sat W w' (sep (bT.is [v] x) (sep (bT.is [u] y) A)):=by
 obtain⟨a,c,rfl,hw1,hx⟩:=h.BO;obtain⟨b',d,rfl,hw2,hy⟩:=h.p1.BO;have hl1:(x.length:Int)≤9223372036854775807:=by have:=hw1.1;have:=hw1.2.1;unfold maxLen at this;omega
 have hl2:(y.length:Int)≤9223372036854775807:=by have:=hw2.1;have:=hw2.2.1;unfold maxLen at this;omega
 obtain⟨nx,hnx⟩:=aB (x.length);obtain⟨ny,hny⟩:=aB (y.length);rw[←hnx] at hl1 hw1;rw[←hny] at hl2 hw2;have HX:=ah hx;have HY:=ah hy;have pI:=ah hnx;have HNY:=ah hny;rw[←hnx,←hny] at h;have H:=ah h;rw[←hnx,←hny];clear h hx hy hw1 hw2
 by_cases hne:nx=ny
 ·subst hne
  clear hnx hny
  go_enter Tryz.func71,Tryz.ntmps71
  go_wp2
  go_loopw [5] (fun i wr=>∃k:Nat,k≤nx∧i=.int .i64 k∧x.take k=y.take k∧∃n,wr=w.drewN n) (fun i _=>nx-(intOf i).toNat)
  case atStart=>exact⟨0,Nat.zero_le _,rfl,rfl,0,rfl⟩
  case round=>
   obtain⟨k,hk,rfl,htk,nd,rfl⟩:=hrel;have HT:=ah htk;clear htk
   by_cases hlt:k<nx
   ·have k1:k<x.length:=by have:=pI.out;omega
    have k2:k<y.length:=by have:=HNY.out;omega
    obtain⟨b1,o1,rfl,hc1⟩:=HX.out.OD (by intro e;have:=congrArg List.length e;rw[List.length_map,List.length_nil] at this;omega);obtain⟨b2,o2,rfl,hc2⟩:=HY.out.OD (by intro e;have:=congrArg List.length e;rw[List.length_map,List.length_nil] at this;omega);have g1:=hc1 k _ (Ph k1);have g2:=hc2 k _ (Ph k2);clear hc1 hc2
    by_cases hxy:x[k]=y[k]
    ·have b1:((x[k].toNat:Int) !=(y[k].toNat:Int))=false:=by rw[hxy];simp
     have VL:=ah hxy;clear hxy
     go_wp2_with fail
     refine aG rfl (fun _=>True) [(0,.p),(1,.p),(2,.p),(3,.t),(4,.p),(5,.p),(6,.p),(7,.t),(8,.p)] (by kernel_rfl) ?_;have hS0:True:=trivial;refine bF ?_;refine dN ?_
     go_wp2
     go_roundw
     case rel=>exact⟨k+1,by omega,by go_num,by rw[List.take_succ_eq_append_getElem k1,List.take_succ_eq_append_getElem k2,HT.out,VL.out],nd+1,rfl⟩
     case measure=>simp[intOf];omega
    ·have b1:((x[k].toNat:Int) !=(y[k].toNat:Int))=true:=by simp;intro e;exact hxy (UInt8.toNat_inj.1 (by exact_mod_cast e))
     have VL:=ah hxy;clear hxy
     go_wp2_with fail
     refine aG rfl (fun _=>True) [(0,.p),(1,.p),(2,.p),(3,.t),(4,.p),(5,.p),(6,.p),(7,.t),(8,.p)] (by kernel_rfl) ?_;have hS0:True:=trivial;refine bF ?_;refine dN ?_
     go_wp2
     go_ret
     refine⟨UM (Eq.symm (decide_eq_false (fun e=>VL.out (by subst e;rfl)))),H.out.alike rfl rfl rfl rfl⟩
   ·go_wp2
    go_ret
    have hkn:k=nx:=by omega
    refine⟨UM (Eq.symm (decide_eq_true ?_)),H.out.alike rfl rfl rfl rfl⟩;have:=HT.out;rw[hkn] at this;rw[List.take_of_length_le (by have:=pI.out;omega),List.take_of_length_le (by have:=HNY.out;omega)] at this;exact this
 ·have b1:((nx:Int) !=(ny:Int))=true:=by simp;omega
  go_enter Tryz.func71,Tryz.ntmps71
  go_wp2
  go_ret
  refine⟨UM (Eq.symm (decide_eq_false (fun e=>hne ?_))),H.out⟩;rw[pI.out,HNY.out,e]
end Go.Proofs.YthfmaclnccdcbaaGreatDoor
namespace PA
open Go Go.RowKit
def wm (w:World):Mem:=fun b=>w.heap[b]?
theorem Sat.Xq (W:World):Sat W W (sep (kn (wm W)) emp):=
 ⟨rfl,rfl,rfl,wm W,Mem.no,fun _ _ h=>h,fun _ _ h=>h,fun _ _ h=>(by simp[Mem.no] at h),Mem.no,Mem.no,fun _=>.inl rfl,(Mem.oW _).symm,⟨rfl,Mem.le_refl _⟩,rfl⟩
theorem qo {I:Mem} {v:Value} {ns:List Int}:(qX.slice 1).rel I [v] ns↔∃a c,v=.slice a ns.length c∧VQ a ns.length c∧gY a (ns.map iv) I:=by
 constructor
 ·rintro⟨a,c,cells,h1,h2,h3,h4⟩
  cases h1;rw[(Gq _ _ _).1 h4] at h3;exact⟨a,c,rfl,h2,h3⟩
 ·rintro⟨a,c,rfl,h2,h3⟩
  exact⟨a,c,_,rfl,h2,h3,(Gq _ _ _).2 rfl⟩
theorem Np {w:World} {x:Addr} {us:List Value} (h:∀j u,us[j]?=some u→w.cell? (x.add j)=some u):gY (some x) us (wm w):=by
 cases us with
 | nil=>exact .inl rfl
 | cons u us=>
  right;have h0:=h 0 u rfl;have e0:x.add 0=x:=rfl;rw[e0] at h0;obtain⟨b,o,sp⟩:=x;unfold World.cell? at h0;dsimp only at h0;cases hb:w.heap[b]? with
  | none=>rw[hb] at h0;cases h0
  | some ob=>
   rw[hb] at h0;cases ob with
   | cells c t f=>
    dsimp only at h0;cases sp with
    | some q=>simp at h0
    | none=>
     refine⟨b,o,c,t,f,rfl,hb,fun i v hv=>?_⟩;have hi:=h i v hv;have e:(⟨b,o,none⟩:Addr).add i=⟨b,o+i,none⟩:=by unfold Addr.add;split<;>simp_all
     rw[e] at hi;unfold World.cell? at hi;dsimp only at hi;rw[hb] at hi;simpa using hi
   | _=>cases h0
end PA
namespace Go.Proofs.YthfmaclnccdcbaaGreatDoor
open Go.RowKit PA
def Qo (n:Int):Prop:=-9223372036854775808≤n∧n≤9223372036854775807
def XP (w:World) (a:Option Addr) (len cap:Nat) (zs:List Int):Prop:=
 (a=none∧len=0∧cap=0∧zs=[]) ∨
 ∃x,a=some x∧len≤cap∧cap≤maxLen∧zs.length=cap∧(∀i,i<zs.length→w.cell? (x.add i)=some (.int .i64 (zs.getD i 0)))∧∀n∈zs,(Lit.int .i64 n).wf=true
theorem argI {w:World} {a:Option Addr} {len cap:Nat} {zs:List Int} (h:XP w a len cap zs):
 ∃l:List Int,len=l.length∧(qX.slice 1).rel (wm w) [.slice a len cap] l∧∀n∈l,Qo n:=by
 rcases h with ⟨rfl,rfl,rfl,rfl⟩|⟨x,rfl,h1,h2,h3,h4,h5⟩
 ·exact⟨[],rfl,qo.2 ⟨none,0,rfl,⟨Nat.le_refl _,Nat.zero_le _,fun _=>rfl⟩,.inl rfl⟩,fun n hn=>by cases hn⟩
 ·have hl:len=(zs.take len).length:=by simp;omega
  refine⟨zs.take len,hl,qo.2 ⟨some x,cap,by rw[←hl],⟨by rw[←hl];exact h1,h2,fun e=>by cases e⟩,Np fun j u hu=>?_⟩,fun n hn=>?_⟩
  ·rw[List.getElem?_map,List.getElem?_take] at hu
   split at hu
   ·rename_i hj
    have hjz:j<zs.length:=by omega
    rw[List.getElem?_eq_getElem hjz] at hu;rw[h4 j hjz,←hu,List.getD_eq_getElem?_getD,List.getElem?_eq_getElem hjz];rfl
   ·cases hu
  ·exact qg (h5 n (List.mem_of_mem_take hn))
end Go.Proofs.YthfmaclnccdcbaaGreatDoor
namespace Go.Proofs.YthfmaclnccdcbaaGreatDoor
open Go.RowKit PA
theorem Xa {W w:World} {A:aC} {I:Mem} (h:Sat W w (sep (kn I) A)) (ns:List Int) (t:TypeId) (hb:ns.length≤maxLen):
 ∃J,Mem.le I J∧(qX.slice 1).rel J [.slice (some ⟨w.heap.size,0,none⟩) ns.length ns.length] ns∧Sat W (w.alloc (.cells (ns.map iv).toArray t)) (sep (kn J) A):=by
 have h1:=(h.alloc (.cells (ns.map iv).toArray t)).settle;obtain⟨J,hle,hp,h2⟩:=(show Sat W _ (sep (imm w.heap.size (.cells (ns.map iv).toArray t)) (sep (kn I) A)) from h1).learn;refine⟨J,hle,qo.2 ⟨_,_,rfl,⟨Nat.le_refl _,hb,fun h=>by cases h⟩,.inr ⟨w.heap.size,0,_,t,(0,0),rfl,hp,fun i u hu=>by simpa using hu⟩⟩,h2⟩
theorem nilI (I:Mem):(qX.slice 1).rel I [.slice none 0 0] []:=qo.2 ⟨none,0,rfl,⟨Nat.le_refl _,Nat.zero_le _,fun _=>rfl⟩,.inl rfl⟩
end Go.Proofs.YthfmaclnccdcbaaGreatDoor
namespace Go.Proofs.YthfmaclnccdcbaaGreatDoor
open Go.RowKit PA
theorem rY {α:Type} {R:Rep α} {k:Nat} {W w:World} {A:aC} {I:Mem} (h:Sat W w (sep (kn I) A)) (cs:List Value) (xs:List α) (t:TypeId) (hr:(R.rows k).rel I cs xs) (hb:xs.length≤maxLen):
 ∃J,Mem.le I J∧(R.slice k).rel J [.slice (some ⟨w.heap.size,0,none⟩) xs.length xs.length] xs∧Sat W (w.alloc (.cells cs.toArray t)) (sep (kn J) A):=by
 have h1:=(h.alloc (.cells cs.toArray t)).settle;obtain⟨J,hle,hp,h2⟩:=(show Sat W _ (sep (imm w.heap.size (.cells cs.toArray t)) (sep (kn I) A)) from h1).learn;refine⟨J,hle,⟨_,_,cs,rfl,⟨Nat.le_refl _,hb,fun h=>by cases h⟩,.inr ⟨w.heap.size,0,_,t,(0,0),rfl,hp,fun i u hu=>by simpa using hu⟩,(R.rows k).mono hle hr⟩,h2⟩
theorem ig {α:Type} {R:Rep α} {k:Nat} {I:Mem} {c:List Value} {x:α} (h:R.rel I c x) (hk:c.length=k):(R.rows k).rel I c [x]:=⟨[c],by simp,⟨h,hk⟩,trivial⟩
theorem nZ {α:Type} {R:Rep α} {k:Nat} {I:Mem} {c d:List Value} {x y:α} (h:R.rel I c x) (hk:c.length=k) (h':R.rel I d y) (hk':d.length=k):(R.rows k).rel I (c++d) [x,y]:=⟨[c,d],by simp,⟨h,hk⟩,⟨h',hk'⟩,trivial⟩
theorem AY (I:Mem) (o n:Int):rF.rel I [.int .i64 o,.int .i64 n,.slice none 0 0,.slice none 0 0] (.mk o n [] []):=
 dR.2 ⟨none,0,none,0,rfl,aF _ _ _,aF _ _ _⟩
theorem jm {I:Mem} {o n:Int} {b:Option Addr} {d:Nat} {ks:List Fm} (h:(rF.slice 4).rel I [.slice b ks.length d] ks):rF.rel I [.int .i64 o,.int .i64 n,.slice none 0 0,.slice b ks.length d] (.mk o n [] ks):=
 dR.2 ⟨none,0,b,d,rfl,aF _ _ _,h⟩
theorem rF_ivs {I:Mem} {o n:Int} {b:Option Addr} {d:Nat} {is:List Iv} (h:(VB.slice 8).rel I [.slice b is.length d] is):rF.rel I [.int .i64 o,.int .i64 n,.slice b is.length d,.slice none 0 0] (.mk o n is []):=
 dR.2 ⟨b,d,none,0,rfl,h,aF _ _ _⟩
theorem iF:(Tryz.prog.info? 34).map (fun i=>(i.zero,i.size,i.bytes))=some (some (.agg #[.int .i64 0,.int .i64 0,.slice none 0 0,.slice none 0 0]),4,64):=by kernel_rfl
def Wi (n:Nat) (p:Array (Nat×Value)):Sem Value:=Instr.buildSlice 27 n p
theorem iq (n:Nat) (p:Array (Nat×Value)):Instr.buildSlice 27 n p=Wi n p:=rfl
theorem BL (w:World) (c0 c1 c2 c3:Value):(Wi 1 #[(0,.agg #[c0,c1,c2,c3])]).run Tryz.prog w=.ok (.slice (some ⟨w.heap.size,0,none⟩) 1 1) (w.alloc (.cells #[c0,c1,c2,c3] 34)):=by
 obtain⟨i,h1,h2,h3,h4⟩:=info_parts iF;exact run_buildSlice w 27 34 1 _ _ i _ Tryz.underlying27 h1 h2 (by rw[h3];omega) (by rw[h3];omega) (by rw[h3];kernel_rfl)
theorem bsFm2 (w:World) (c0 c1 c2 c3 d0 d1 d2 d3:Value):(Wi 2 #[(0,.agg #[c0,c1,c2,c3]),(1,.agg #[d0,d1,d2,d3])]).run Tryz.prog w=.ok (.slice (some ⟨w.heap.size,0,none⟩) 2 2) (w.alloc (.cells #[c0,c1,c2,c3,d0,d1,d2,d3] 34)):=by
 obtain⟨i,h1,h2,h3,h4⟩:=info_parts iF;exact run_buildSlice w 27 34 2 _ _ i _ Tryz.underlying27 h1 h2 (by rw[h3];omega) (by rw[h3];omega) (by rw[h3];kernel_rfl)
end Go.Proofs.YthfmaclnccdcbaaGreatDoor
namespace Go.Proofs.YthfmaclnccdcbaaGreatDoor
open Go.RowKit PA
set_option maxHeartbeats 1000000 in
theorem TR {W w:World} {A:aC} (a b:Nat) (ha:a<18446744073709551616) (hb:b<18446744073709551616) (h:Sat W w A):
 Calls Tryz.prog 235 #[.int .u64 a,.int .u64 b] w fun e w'=>e=.returned (.int .u64 (Nat.gcd a b:Nat))∧Sat W w' A:=by
 obtain⟨g,hg⟩:=aB (Nat.gcd a b);rw[←hg];have HG:=ah hg;clear hg
 go_enter Tryz.func235,Tryz.ntmps235
 go_wp2
 go_loopw [0,1] (fun av bv wr=>∃x y:Nat,av=.int .u64 x∧bv=.int .u64 y∧x<18446744073709551616∧y<18446744073709551616∧Nat.gcd x y=g∧Sat W wr A) (fun _ bv _=>(intOf bv).toNat)
 case atStart=>exact⟨a,b,rfl,rfl,ha,hb,HG.out.symm,h⟩
 case round=>
  obtain⟨x,y,rfl,rfl,hx,hy,hxy,hS⟩:=hrel;have VL:=ah hxy;clear hxy
  by_cases h0:0<y
  ·have h0I:(0:Int)<y:=by omega
   have hy0:¬y=0:=by omega
   obtain⟨z,hz⟩:=aB (x % y);have hm:(x:Int).tmod (y:Int)=(z:Int):=by rw[hz,Int.tmod_eq_emod_of_nonneg (by omega)];omega
   have hm2:z<y:=by rw[hz];exact Nat.mod_lt _ h0
   have HZ:=ah hz;clear hz
   go_wp2
   refine aG rfl (fun _=>True) [(0,.p),(1,.p),(2,.p),(3,.p),(4,.p),(5,.p)] (by kernel_rfl) ?_;have hS0:True:=trivial;refine bF ?_;refine dN ?_
   go_wp2
   go_roundw
   case rel=>exact⟨y,z,rfl,rfl,hy,by omega,by rw[HZ.out,←VL.out,Nat.gcd_comm y,←Nat.gcd_rec,Nat.gcd_comm],hS.drew⟩
   case measure=>simp[intOf];omega
  ·obtain rfl:y=0:=by omega
   go_wp2
   go_ret
   exact⟨by rw[←VL.out];simp,hS⟩
theorem Gt (n:Int) (h1:-9223372036854775808≤n) (h2:n≤9223372036854775807) (w:World):
 Calls Tryz.prog 225 #[.int .i64 n] w fun e w'=>e=.returned (.int .u64 (n.natAbs:Nat))∧w=w':=by
 by_cases hn:n<0
 ·have e1:IntKind.u64.wrap n=n+18446744073709551616:=by rw[IntKind.wrap_u64];omega
  have e2:IntKind.u64.wrap (-(n+18446744073709551616))=(n.natAbs:Int):=by rw[IntKind.wrap_u64];omega
  go_enter Tryz.func225,Tryz.ntmps225
  go_wp2
  go_ret
  exact⟨rfl,rfl⟩
 ·have e1:IntKind.u64.wrap n=(n.natAbs:Int):=by rw[IntKind.wrap_u64];omega
  go_enter Tryz.func225,Tryz.ntmps225
  go_wp2
  go_ret
  exact⟨rfl,rfl⟩
theorem kG {W w:World} {A:aC} {q:Nat} {u v:Value} {t:TypeId} (h:Sat W w (sep (blk q (.cells #[u,v] t (0,0))) A)):
 w.cell? ⟨q,0,none⟩=some u∧w.cell? ⟨q,1,none⟩=some v∧w.frozen? ⟨q,0,none⟩=false∧w.frozen? ⟨q,1,none⟩=false:=⟨h.cell 0,h.cell 1,h.aH 0,h.aH 1⟩
theorem vk {W w:World} {A:aC} {q:Nat} {u v:Value} {t:TypeId} (h:Sat W w (sep (blk q (.cells #[u,v] t (0,0))) A)) (x y:Value):
 Sat W ((w.setCell ⟨q,0,none⟩ x).setCell ⟨q,1,none⟩ y) (sep (blk q (.cells #[x,y] t (0,0))) A):=(h.setCell 0 x).setCell 1 y
set_option maxHeartbeats 1000000 in
theorem Nk {W w:World} {A:aC} (neg:Bool) (n d:Nat) (hn:n<18446744073709551616) (hd:d<18446744073709551616) (h0:0<d) (h:Sat W w A):
 Calls Tryz.prog 224 #[.bool neg,.int .u64 n,.int .u64 d] w fun e w'=>e=.returned (.tuple #[.agg #[.int .i64 (nJ neg n d).1.n,.int .i64 (nJ neg n d).1.d],.int .i64 (nJ neg n d).2])∧Sat W w' A:=by
 obtain⟨g,hg⟩:=aB (Nat.gcd n d);have hg0:0<g:=by rw[hg];exact Nat.gcd_pos_of_pos_right _ h0
 have hg1:¬g=0:=by omega
 have hgl:g<18446744073709551616:=by rw[hg];exact Nat.lt_of_le_of_lt (Nat.gcd_le_right _ h0) hd
 obtain⟨x,hx⟩:=aB (n / g);obtain⟨y,hy⟩:=aB (d / g);have hxl:x≤n:=by rw[hx];exact Nat.div_le_self _ _
 have hyl:y≤d:=by rw[hy];exact Nat.div_le_self _ _
 have hdx:(n:Int).tdiv (g:Int)=(x:Int):=by rw[hx,Int.tdiv_eq_ediv_of_nonneg (by omega)];omega
 have hdy:(d:Int).tdiv (g:Int)=(y:Int):=by rw[hy,Int.tdiv_eq_ediv_of_nonneg (by omega)];omega
 have hgc:=fun w0 (A0:aC) (h0:Sat W w0 A0)=>TR n d hn hd h0
 rw[←hg] at hgc;have hux:IntKind.u64.wrap (x:Int)=x:=IntWalk.u64_in _ (by omega);have huy:IntKind.u64.wrap (y:Int)=y:=IntWalk.u64_in _ (by omega);have eB:nJ neg n d=if 1099511627776<x∨1048576<y then (⟨0,0⟩,5) else (⟨if neg=true then -(x:Int) else (x:Int),(y:Int)⟩,0):=by
  rw[hx,hy,hg];rfl
 have HGC:=ah hgc;have EB:=ah eB;have h1:=h.alloc (.cells #[.int .i64 0,.int .i64 0] 26);obtain⟨B,hB⟩:=aB (w.heap.size);rw[←hB] at h1;clear hgc eB hg hx hy h
 go_enter Tryz.func224,Tryz.ntmps224
 go_wp2_with fail
 rw[←hB];refine (HGC.out _ _ h1).mono ?_;rintro e w2 ⟨rfl,h2⟩;clear h1 HGC hB
 go_wp2
 refine aG rfl (fun _=>True) [(0,.p),(1,.p),(2,.p),(3,.p),(4,.p),(5,.p),(6,.p),(7,.p)] (by kernel_rfl) ?_;have hS0:True:=trivial;refine bF ?_;refine dN ?_;clear hdx hdy hux huy;have h3:=h2.drew;obtain⟨w3,hw3⟩:=aB (w2.drew);rw[←hw3] at h3 ⊢;clear hw3 h2;have bad:(1099511627776<x∨1048576<y)→nJ neg n d=(⟨0,0⟩,5):=fun hh=>by rw[EB.out,if_pos hh]
 have BAD:=ah bad;clear bad
 by_cases c1:1099511627776<x
 ·have c1I:(1099511627776:Int)<x:=by omega
  obtain⟨k0,k1,k2,k3⟩:=kG h3;have h4:=vk h3 (.int .i64 0) (.int .i64 0);obtain⟨w4,hw4⟩:=aB ((w3.setCell ⟨B,0,none⟩ (.int .i64 0)).setCell ⟨B,1,none⟩ (.int .i64 0));rw[←hw4] at h4;obtain⟨d0,d1,-,-⟩:=kG h4;have Jm:=ah hw4;clear hw4
  go_wp2
  rw[←Jm.out];exact bodyPost_ret (v:=.tuple #[.agg #[.int .i64 0,.int .i64 0],.int .i64 5]) (by simp[results,Tryz.results224,go_sem,d0,d1]) rfl ⟨by rw[BAD.out (.inl c1)],h4.forget⟩
 ·have c1I:¬(1099511627776:Int)<x:=by omega
  by_cases c2:1048576<y
  ·have c2I:(1048576:Int)<y:=by omega
   obtain⟨k0,k1,k2,k3⟩:=kG h3;have h4:=vk h3 (.int .i64 0) (.int .i64 0);obtain⟨w4,hw4⟩:=aB ((w3.setCell ⟨B,0,none⟩ (.int .i64 0)).setCell ⟨B,1,none⟩ (.int .i64 0));rw[←hw4] at h4;obtain⟨d0,d1,-,-⟩:=kG h4;have Jm:=ah hw4;clear hw4
   go_wp2
   rw[←Jm.out];exact bodyPost_ret (v:=.tuple #[.agg #[.int .i64 0,.int .i64 0],.int .i64 5]) (by simp[results,Tryz.results224,go_sem,d0,d1]) rfl ⟨by rw[BAD.out (.inr c2)],h4.forget⟩
  ·have c2I:¬(1048576:Int)<y:=by omega
   have e1:IntKind.i64.wrap (x:Int)=x:=IntWalk.i64_in _ (by omega);have e2:IntKind.i64.wrap (y:Int)=y:=IntWalk.i64_in _ (by omega);have eB2:=EB.out;rw[if_neg (by omega)] at eB2;have EB2:=ah eB2;have g1:=h3.alloc (.cells #[.int .i64 x,.int .i64 y] 26);obtain⟨C,hC⟩:=aB (w3.heap.size);obtain⟨w4,hw4⟩:=aB (w3.alloc (.cells #[.int .i64 x,.int .i64 y] 26));rw[←hC,←hw4] at g1;have HC:=ah hC;have Jm:=ah hw4;clear EB eB2 BAD hC hw4 h3
   go_upto_region 6 with (fail)
   rw[←HC.out,←Jm.out];cases neg with
   | true=>
    have e3:IntKind.i64.wrap (-(x:Int))=-x:=IntWalk.i64_in _ (by omega);obtain⟨k0,k1,k2,k3⟩:=kG g1;have g2:=(g1.setCell 0 (.int .i64 (-(x:Int)))).p1;obtain⟨w5,hw5⟩:=aB (w4.setCell ⟨C,0,none⟩ (.int .i64 (-(x:Int))));rw[←hw5] at g2;have EJ:=ah hw5;clear hw5 g1
    go_upto_region 8 with (fail)
    clear k0 k1 k2 k3;rw[←EJ.out];obtain⟨k0,k1,-,-⟩:=kG g2.p1;obtain⟨b0,b1,b2,b3⟩:=kG g2;have g3:=vk g2 (.int .i64 (-(x:Int))) (.int .i64 y);obtain⟨w6,hw6⟩:=aB ((w5.setCell ⟨B,0,none⟩ (.int .i64 (-(x:Int)))).setCell ⟨B,1,none⟩ (.int .i64 y));rw[←hw6] at g3;obtain⟨d0,d1,-,-⟩:=kG g3;have MQ:=ah hw6;clear hw6
    go_wp2
    rw[←MQ.out];exact bodyPost_ret (v:=.tuple #[.agg #[.int .i64 (-(x:Int)),.int .i64 y],.int .i64 0]) (by simp[results,Tryz.results224,go_sem,d0,d1]) rfl ⟨by rw[EB2.out];rfl,g3.forget.forget⟩
   | false=>
    obtain⟨k0,k1,-,-⟩:=kG g1;obtain⟨b0,b1,b2,b3⟩:=kG g1.p1;have g3:=vk g1.p1 (.int .i64 x) (.int .i64 y);obtain⟨w6,hw6⟩:=aB ((w4.setCell ⟨B,0,none⟩ (.int .i64 x)).setCell ⟨B,1,none⟩ (.int .i64 y));rw[←hw6] at g3;obtain⟨d0,d1,-,-⟩:=kG g3;have MQ:=ah hw6;clear hw6
    go_wp2
    rw[←MQ.out];exact bodyPost_ret (v:=.tuple #[.agg #[.int .i64 x,.int .i64 y],.int .i64 0]) (by simp[results,Tryz.results224,go_sem,d0,d1]) rfl ⟨by rw[EB2.out];rfl,g3.forget.forget⟩
end Go.Proofs.YthfmaclnccdcbaaGreatDoor
namespace Go.Proofs.YthfmaclnccdcbaaGreatDoor
open Go.RowKit PA
def rtRes (r:Rt×Int):Value:=.tuple #[.agg #[.int .i64 r.1.n,.int .i64 r.1.d],.int .i64 r.2]
set_option maxHeartbeats 1000000 in
theorem Uy {W w:World} {A:aC} (n d:Int) (hn1:-9223372036854775808≤n) (hn2:n≤9223372036854775807) (hd1:-9223372036854775808≤d) (hd2:d≤9223372036854775807) (h:Sat W w A):
 Calls Tryz.prog 212 #[.int .i64 n,.int .i64 d] w fun e w'=>e=.returned (rtRes (newR n d))∧Sat W w' A:=by
 obtain⟨r,hr⟩:=aB (newR n d);rw[←hr];have HR:=ah hr;have h1:=h.alloc (.cells #[.int .i64 0,.int .i64 0] 26);obtain⟨B,hB⟩:=aB (w.heap.size);obtain⟨w1,hw1⟩:=aB (w.alloc (.cells #[.int .i64 0,.int .i64 0] 26));rw[←hB,←hw1] at h1;have HB:=ah hB;have HW1:=ah hw1;clear hB hw1 h hr
 go_enter Tryz.func212,Tryz.ntmps212
 go_upto_region 1 with (fail)
 rw[←HB.out,←HW1.out]
 by_cases h0:d=0
 ·subst h0
  obtain⟨k0,k1,k2,k3⟩:=kG h1;have h4:=vk h1 (.int .i64 0) (.int .i64 0);obtain⟨w4,hw4⟩:=aB ((w1.setCell ⟨B,0,none⟩ (.int .i64 0)).setCell ⟨B,1,none⟩ (.int .i64 0));rw[←hw4] at h4;obtain⟨d0,d1,-,-⟩:=kG h4;have Jm:=ah hw4;clear hw4
  go_wp2
  rw[←Jm.out];exact bodyPost_ret (v:=.tuple #[.agg #[.int .i64 0,.int .i64 0],.int .i64 1]) (by simp[results,Tryz.results212,go_sem,d0,d1]) rfl ⟨by rw[HR.out];rfl,h4.forget⟩
 ·obtain⟨neg,hneg⟩:∃neg,(!(decide (n<0)==decide (d<0)))=neg:=⟨_,rfl⟩
  have eN:nJ neg n.natAbs d.natAbs=r:=by rw[HR.out];unfold newR;rw[if_neg h0,←hneg];rfl
  have hs1:=fun w0=>Gt n hn1 hn2 w0
  have hs2:=fun w0=>Gt d hd1 hd2 w0
  have hb:=fun w0 (A0:aC) (hh:Sat W w0 A0)=>Nk neg n.natAbs d.natAbs (by omega) (by omega) (by omega) hh
  rw[eN] at hb;obtain⟨a1,ha1⟩:=aB (n.natAbs);obtain⟨a2,ha2⟩:=aB (d.natAbs);rw[←ha1] at hs1 hb;rw[←ha2] at hs2 hb;have Jc:=ah hs1;have HS2:=ah hs2;have xq:=ah hb;clear hs1 hs2 hb ha1 ha2 eN HR
  go_wp2_with fail
  refine (Jc.out _).mono ?_;rintro e w2 ⟨rfl,rfl⟩
  go_wp2_with fail
  refine (HS2.out _).mono ?_;rintro e w2 ⟨rfl,rfl⟩;clear Jc HS2
  go_wp2_with fail
  refine (xq.out _ _ h1).mono ?_;rintro e w2 ⟨rfl,h2⟩;obtain⟨⟨rn,rd⟩,re⟩:=r;clear xq h1 hneg;obtain⟨k0,k1,k2,k3⟩:=kG h2;have h4:=vk h2 (.int .i64 rn) (.int .i64 rd);obtain⟨w4,hw4⟩:=aB ((w2.setCell ⟨B,0,none⟩ (.int .i64 rn)).setCell ⟨B,1,none⟩ (.int .i64 rd));rw[←hw4] at h4;obtain⟨d0,d1,-,-⟩:=kG h4;have Jm:=ah hw4;clear hw4
  go_wp2
  rw[←Jm.out];exact bodyPost_ret (v:=.tuple #[.agg #[.int .i64 rn,.int .i64 rd],.int .i64 re]) (by simp[results,Tryz.results212,go_sem,d0,d1]) rfl ⟨rfl,h4.forget⟩
theorem IQ (w:World) (a b c d:Int):(binOp .neq 26 (.agg #[.int .i64 a,.int .i64 b]) (.agg #[.int .i64 c,.int .i64 d])).run Tryz.prog w=.ok (.bool (!(a==c&&b==d))) w:=by
 have h1:Tryz.prog.underlying 26=some (.struct (Tryz.prog.fieldsOf 26)):=by kernel_rfl
 have h2:Tryz.prog.stoodInHeld 26=false:=by kernel_rfl
 have e:=run_equalIn_struct (P:=Tryz.prog) w 9999 26 #[.int .i64 a,.int .i64 b] #[.int .i64 c,.int .i64 d] h1 h2;rw[run_neq_struct,e];clear e;have q0:∀a b:Int,(part 3 #[.int .i64 a,.int .i64 b] 0).run Tryz.prog w=.ok (.int .i64 a) w:=fun a b=>by kernel_rfl
 have q1:∀a b:Int,(part 3 #[.int .i64 a,.int .i64 b] 1).run Tryz.prog w=.ok (.int .i64 b) w:=fun a b=>by kernel_rfl
 have r0:∀a b:Int,(Op.equalIn 9999 3 (.int .i64 a) (.int .i64 b)).run Tryz.prog w=.ok (a==b) w:=fun a b=>run_equalIn_int (P:=Tryz.prog) w 9998 3 .i64 .i64 a b Tryz.underlying3
 by_cases e1:a=c
 ·by_cases e2:b=d
  ·simp[Program.fieldsOf,Tryz.underlying26,Op.eqFields,q0,q1,r0,e1,e2]
  ·simp[Program.fieldsOf,Tryz.underlying26,Op.eqFields,q0,q1,r0,e1,e2]
 ·simp[Program.fieldsOf,Tryz.underlying26,Op.eqFields,q0,r0,e1]
set_option maxHeartbeats 1000000 in
theorem uy {W w:World} {A:aC} (r:Rt) (hn1:-9223372036854775808≤r.n) (hn2:r.n≤9223372036854775807) (hd1:-9223372036854775808≤r.d) (hd2:r.d≤9223372036854775807) (h:Sat W w A):
 Calls Tryz.prog 197 #[.agg #[.int .i64 r.n,.int .i64 r.d]] w fun e w'=>e=.returned (.int .i64 (if okR r=true then 0 else 1))∧Sat W w' A:=by
 obtain⟨n,d⟩:=r;simp only at hn1 hn2 hd1 hd2 ⊢;obtain⟨ok,hok⟩:=aB (okR ⟨n,d⟩);rw[←hok];obtain⟨rv,dK⟩:∃rv:Int,rv=if ok=true then 0 else 1:=⟨_,rfl⟩
 rw[←dK];have mD:=ah hok;have bM:=ah dK;have h1:=h.alloc (.cells #[.int .i64 n,.int .i64 d] 26);obtain⟨k0,k1,-,-⟩:=kG h1;clear hok dK h
 by_cases c1:d<1
 ·obtain rfl:ok=false:=by rw[mD.out];unfold okR;rw[decide_eq_false (by show ¬1≤d;omega)];rfl
  go_enter Tryz.func197,Tryz.ntmps197
  go_wp2
  go_ret
  exact⟨by rw[bM.out];rfl,h1.forget⟩
 ·have hnew:=Uy n d hn1 hn2 hd1 hd2 h1
  obtain⟨⟨⟨rn,rd⟩,re⟩,hr⟩:∃r,r=newR n d:=⟨_,rfl⟩
  rw[←hr] at hnew;have hnew2:Calls Tryz.prog 212 #[.int .i64 n,.int .i64 d] (w.alloc (.cells #[.int .i64 n,.int .i64 d] 26)) fun e w'=>e=.returned (.tuple #[.agg #[.int .i64 rn,.int .i64 rd],.int .i64 re])∧Sat W w' (sep (blk w.heap.size (.cells #[.int .i64 n,.int .i64 d] 26)) A):=hnew
  have aaL:=ah hnew2;have HR:=ah hr;clear hr hnew hnew2
  go_enter Tryz.func197,Tryz.ntmps197
  go_wp2_with fail
  refine aaL.out.mono ?_;rintro e w2 ⟨rfl,h2⟩;clear k0 k1 h1 aaL;have h3:=h2.alloc (.cells #[.int .i64 rn,.int .i64 rd] 26);obtain⟨k0,k1,-,-⟩:=kG h3;obtain⟨j0,j1,-,-⟩:=kG h3.p1;obtain⟨C,hC⟩:=aB (w2.heap.size);obtain⟨B,hB⟩:=aB (w.heap.size);obtain⟨w3,hw3⟩:=aB (w2.alloc (.cells #[.int .i64 rn,.int .i64 rd] 26));rw[←hC,←hB,←hw3] at h3;rw[←hC,←hw3] at k0 k1;rw[←hB,←hw3] at j0 j1;have HC:=ah hC;have HB:=ah hB;have HW3:=ah hw3;have h4:=h3.forget.forget;clear hC hB hw3 h2 h3
  go_upto_region 4 with (fail)
  rw[←HC.out,←HB.out,←HW3.out];have hg:=fun w0=>IQ w0 rn rd n d
  by_cases c2:re=0
  ·subst c2
   obtain⟨eq,heq⟩:=aB (!(rn==n&&rd==d));rw[←heq] at hg;have hko:ok=!eq:=by
    rw[mD.out];unfold okR;rw[←HR.out,decide_eq_true (show 1≤d by omega),heq]
    by_cases e1:rn=n
    ·by_cases e2:rd=d
     ·simp[e1,e2]
     ·simp[e1,e2]
    ·simp[e1]
   have HKO:=ah hko;clear heq hko;cases eq with
   | true=>
    go_wp2
    go_ret
    exact⟨by rw[bM.out,HKO.out];rfl,h4⟩
   | false=>
    go_wp2
    go_ret
    exact⟨by rw[bM.out,HKO.out];rfl,h4⟩
  ·obtain rfl:ok=false:=by
    rw[mD.out];unfold okR;rw[←HR.out];have:¬(((⟨rn,rd⟩:Rt),re)=(⟨n,d⟩,0)):=fun e=>c2 (Prod.mk.inj e).2
    rw[decide_eq_false this,Bool.and_false]
   have hz:(re !=0)=true:=by simp[c2]
   go_wp2
   go_ret
   exact⟨by rw[bM.out];rfl,h4⟩
structure SV (r:Rt):Prop where
 n1:-9223372036854775808≤r.n
 n2:r.n≤9223372036854775807
 d1:-9223372036854775808≤r.d
 d2:r.d≤9223372036854775807
theorem SV.of {r:Rt} (h:Rok r):SV r:=⟨by have:=h.n1;omega,by have:=h.n2;omega,by have:=h.d1;omega,by have:=h.d2;omega⟩
set_option maxHeartbeats 1000000 in
theorem LY {W w:World} {A:aC} (a b:Rt) (ha:SV a) (hb:SV b) (C:Nat) (h:Sat W w (sep (blk C (.cells #[.int .i64 a.n,.int .i64 a.d,.int .i64 b.n,.int .i64 b.d] 26 (0,0))) A)):
 Calls Tryz.prog 159 #[.slice (some ⟨C,0,none⟩) 2 2] w fun e w'=>e=.returned (.int .i64 (if okR a=true∧okR b=true then 0 else 1))∧Sat W w' A:=by
 obtain⟨rv,dK⟩:∃rv:Int,rv=if okR a=true∧okR b=true then 0 else 1:=⟨_,rfl⟩
 rw[←dK];have bM:=ah dK;have HA:=fun w0 (A0:aC) (h0:Sat W w0 A0)=>uy a ha.n1 ha.n2 ha.d1 ha.d2 h0
 have HB:=fun w0 (A0:aC) (h0:Sat W w0 A0)=>uy b hb.n1 hb.n2 hb.d1 hb.d2 h0
 obtain⟨oa,hoa⟩:=aB (okR a);obtain⟨ob,hob⟩:=aB (okR b);rw[←hoa] at HA;rw[←hob] at HB;have HOA:=ah hoa;have AB:=ah hob;have HHA:=ah HA;have HHB:=ah HB;obtain⟨an,ad⟩:=a;obtain⟨bn,bd⟩:=b;clear dK hoa hob HA HB ha hb
 go_enter Tryz.func159,Tryz.ntmps159
 go_wp2
 go_loopw [8] (fun kv wr=>∃k:Nat,kv=.int .i64 k∧k≤2∧(1≤k→oa=true)∧(2≤k→ob=true)∧Sat W wr (sep (blk C (.cells #[.int .i64 an,.int .i64 ad,.int .i64 bn,.int .i64 bd] 26 (0,0))) A)) (fun kv _=>2-(intOf kv).toNat)
 case atStart=>exact⟨0,rfl,by omega,by omega,by omega,h⟩
 case round=>
  obtain⟨k,rfl,hk,q1,q2,hS⟩:=hrel;have Q1:=ah q1;have Q2:=ah q2;clear q1 q2;obtain rfl|rfl|rfl:k=0∨k=1∨k=2:=by omega
  ·have c0:wr.cell? ⟨C,0,none⟩=some (.int .i64 an):=hS.cell 0
   have c1:wr.cell? ⟨C,1,none⟩=some (.int .i64 ad):=hS.cell 1;have h2:=hS.gQ (.cells #[.int .i64 an,.int .i64 ad] 26);clear hS
   go_wp2_with fail
   refine (HHA.out _ _ h2).mono ?_;rintro e w3 ⟨rfl,h3⟩;clear c0 c1 h2;cases oa with
   | true=>
    go_wp2_with fail
    go_roundw
    case rel=>exact⟨1,rfl,by omega,fun _=>(by first|rfl|trivial),by omega,h3⟩
    case measure=>simp[intOf]
   | false=>
    go_wp2_with fail
    go_ret
    exact⟨by rw[bM.out,if_neg (by rw[←HOA.out];simp)];rfl,h3.forget⟩
  ·have c0:wr.cell? ⟨C,2,none⟩=some (.int .i64 bn):=hS.cell 2
   have c1:wr.cell? ⟨C,3,none⟩=some (.int .i64 bd):=hS.cell 3;have h2:=hS.gQ (.cells #[.int .i64 bn,.int .i64 bd] 26);clear hS
   go_wp2_with fail
   refine (HHB.out _ _ h2).mono ?_;rintro e w3 ⟨rfl,h3⟩;clear c0 c1 h2;cases ob with
   | true=>
    go_wp2_with fail
    go_roundw
    case rel=>exact⟨2,rfl,by omega,fun _=>Q1.out (by omega),fun _=>(by first|rfl|trivial),h3⟩
    case measure=>simp[intOf]
   | false=>
    go_wp2_with fail
    go_ret
    exact⟨by rw[bM.out,if_neg (by rw[←AB.out];simp)];rfl,h3.forget⟩
  ·go_wp2_with fail
   go_ret
   exact⟨by rw[bM.out,if_pos ⟨by rw[←HOA.out];exact Q1.out (by omega),by rw[←AB.out];exact Q2.out (by omega)⟩];rfl,hS.forget⟩
end Go.Proofs.YthfmaclnccdcbaaGreatDoor
namespace Go.Proofs.YthfmaclnccdcbaaGreatDoor
open Go.RowKit PA
theorem Io {a b:Int} (h1:-1099511627776≤a) (h2:a≤1099511627776) (h3:0≤b) (h4:b≤1048576):-1152921504606846976≤a*b∧a*b≤1152921504606846976:=by
 have e1:a*b≤1099511627776*b:=Int.mul_le_mul_of_nonneg_right h2 h3;have e2:-1099511627776*b≤a*b:=Int.mul_le_mul_of_nonneg_right h1 h3;omega
end Go.Proofs.YthfmaclnccdcbaaGreatDoor
namespace PA
open Go
abbrev Zi:=Int→Option Rt
def OI (S:Zi) (p:Int):Rt:=(S p).getD ⟨0,1⟩
def YP (S:Zi) (p:Int) (r:Rt):Zi:=fun x=>if x=p then some r else S x
def TK (p:Int):Zi:=YP (fun _=>none) p ⟨1,1⟩
def VP (S:Zi):Prop:=∀p r,S p=some r→okR r=true∧0≤r.n
theorem Xe:okR ⟨1,1⟩=true:=by decide
theorem UD:okR ⟨0,1⟩=true:=by decide
theorem VP.first (p:Int):VP (TK p):=by
 intro q r h;unfold TK YP at h;split at h
 ·cases h;exact⟨Xe,by decide⟩
 ·cases h
theorem VP.share {S:Zi} (h:VP S) (p:Int):okR (OI S p)=true∧0≤(OI S p).n:=by
 unfold OI;cases e:S p with
 | none=>exact⟨UD,by decide⟩
 | some r=>exact h p r e
end PA
