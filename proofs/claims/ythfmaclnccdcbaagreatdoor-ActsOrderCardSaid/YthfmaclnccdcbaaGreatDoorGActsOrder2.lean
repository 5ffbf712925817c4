/- Part of a proof. -/
import Derived.Test.YthfmaclnccdcbaaGreatDoorGActsOrder1
import Derived.Maps.RangeWalk
import Derived.Lib.AppendStr
import Derived.RangeFuncNested
import Derived.RangeFuncBound
import Derived.RangeFuncCalls
import Derived.RangeFuncLeaves
import Derived.Shelf.Abstract
import Derived.Shelf.RegionOpen
import Derived.OwnWalkIn
import Derived.TacticsInMore
import Derived.LoopNIn
import Derived.LoopIn
import Derived.RangeFuncBox
import Derived.Maps.AppendAt
import Derived.Handy
namespace PA
open Go Go.RowKit
structure Born (es:List MapEntry) (clock:Nat):Prop where
 lt:∀e∈es,e.born<clock
 nodup:(es.map (·.born)).Nodup
theorem Born.nil (c:Nat):Born [] c:=⟨fun _ h=>(by cases h),.nil⟩
theorem Pg:∀{l:List MapEntry},(l.map (·.born)).Nodup→∀{x y:MapEntry},x∈l→y∈l→x.born=y.born→x=y
 | [],_,_,_,hx,_,_=>by cases hx
 | a::l,hn,x,y,hx,hy,h=>by
  rw[List.map_cons,List.nodup_cons] at hn;rcases List.mem_cons.1 hx with rfl|hx'
  ·rcases List.mem_cons.1 hy with rfl|hy'
   ·rfl
   ·exact absurd (List.mem_map.2 ⟨y,hy',h.symm⟩) hn.1
  ·rcases List.mem_cons.1 hy with rfl|hy'
   ·exact absurd (List.mem_map.2 ⟨x,hx',h⟩) hn.1
   ·exact Pg hn.2 hx' hy' h
theorem Born.push {es:List MapEntry} {c:Nat} (h:Born es c) (k v:Value):Born (es++[{ key:=k,val:=v,born:=c }]) (c+1):=by
 refine⟨fun e he=>?_,?_⟩
 ·rcases List.mem_append.1 he with he|he
  ·have:=h.lt e he;omega
  ·rw[List.mem_singleton.1 he];exact Nat.lt_succ_self c
 ·rw[oO,List.map_cons,List.map_nil]
  refine List.nodup_append.2 ⟨h.nodup,by simp,fun x hx y hy=>?_⟩;obtain⟨e,he,rfl⟩:=List.mem_map.1 hx;rw[List.mem_singleton.1 hy];have h1:=h.lt e he;show e.born≠c;omega
theorem zQ (es:List MapEntry) (j:Nat) (k v:Value):(es.modify j fun x=>{ x with key:=k,val:=v }).map (·.born)=es.map (·.born):=by
 apply List.ext_getElem
 ·simp
 ·intro i h1 h2
  simp only[List.getElem_map,List.getElem_modify];split<;>rfl
theorem Born.modify {es:List MapEntry} {c:Nat} (h:Born es c) (j:Nat) (k v:Value):Born (es.modify j fun x=>{ x with key:=k,val:=v }) c:=by
 refine⟨fun e he=>?_,by rw[zQ];exact h.nodup⟩;have:e.born∈(es.modify j fun x=>{ x with key:=k,val:=v }).map (·.born):=List.mem_map.2 ⟨e,he,rfl⟩;rw[zQ] at this;obtain⟨e',he',e2⟩:=List.mem_map.1 this;rw[←e2];exact h.lt e' he'
theorem Born.erase {es:List MapEntry} {c:Nat} (h:Born es c) (j:Nat):Born (es.eraseIdx j) c:=
 ⟨fun e he=>h.lt e ((List.eraseIdx_sublist es j).mem he),h.nodup.sublist ((List.eraseIdx_sublist es j).map _)⟩
def wB (b:Nat) (f:Int→Option Value) (n:Nat):aC:=ex fun s:Array MapEntry×Nat=>sep (fact (fP s.1.toList f∧s.1.size=n∧Born s.1.toList s.2)) (blk b (.map s.1 s.2))
section
variable {P:Program} {W w:World} {A:aC}
theorem Sat.mF {b:Nat} {f:Int→Option Value} {n:Nat} (h:Sat W w (sep (wB b f n) A)):∃es clock,fP es.toList f∧es.size=n∧Born es.toList clock∧Sat W w (sep (blk b (.map es clock)) A):=by
 rw[wB,fK,Sat.ex] at h;obtain⟨⟨es,clock⟩,h⟩:=h;rw[aj] at h;have h':=Sat.fact.1 h;exact⟨es,clock,h'.1.1,h'.1.2.1,h'.1.2.2,h'.2⟩
theorem Sat.AO {b:Nat} {f:Int→Option Value} {n:Nat} {es:Array MapEntry} {clock:Nat} (h:Sat W w (sep (blk b (.map es clock)) A)) (h1:fP es.toList f) (h2:es.size=n) (h3:Born es.toList clock):Sat W w (sep (wB b f n) A):=by
 rw[wB,fK,Sat.ex];refine⟨(es,clock),?_⟩;rw[aj];exact Sat.fact.2 ⟨⟨h1,h2,h3⟩,h⟩
theorem Sat.QB {b:Nat} {f:Int→Option Value} {n:Nat} (h:Sat W w (sep (wB b f n) A)):Sat W w (sep (kE b f n) A):=by
 obtain⟨es,clock,h1,h2,-,h4⟩:=h.mF;exact h4.Ig h1 h2
theorem Sat.JB (h:Sat W w A):Sat W (w.alloc (.map #[] 0)) (sep (wB w.heap.size (fun _=>none) 0) A):=
 (h.alloc (.map #[] 0)).AO fP.nil rfl (Born.nil 0)
theorem Au {T K E:TypeId} {z:Value} (hT:P.underlying T=some (.map K E)) (hK:P.underlying K=some (.int .i64)) (hz:∀w,(zeroValue E).run P w=.ok z w)
 {b:Nat} {f:Int→Option Value} {n:Nat} (h:Sat W w (sep (wB b f n) A)) (k:Int) (ok:Bool):
 (Instr.lookup T (.map (some b)) (.int .i64 k) ok).run P w=.ok (if ok then .tuple #[(f k).getD z,.bool (f k).isSome] else (f k).getD z) w:=lS hT hK hz h.QB k ok
theorem lT {T K E:TypeId} (hT:P.underlying T=some (.map K E)) (hK:P.underlying K=some (.int .i64)) {b:Nat} {f:Int→Option Value} {n:Nat} (h:Sat W w (sep (wB b f n) A)) (k:Int) (v:Value):
 ∃w' n',(Instr.mapUpdate T (.map (some b)) (.int .i64 k) v).run P w=.ok () w'∧n'=(if (f k).isSome then n else n+1)∧Sat W w' (sep (wB b (lM f k (some v)) n') A):=by
 obtain⟨es,clock,h1,h2,hb,h3⟩:=h.mF;obtain⟨r,e1,e2,e3⟩:=lQ (P:=P) (k:=k) hK h1 w;have hg:=run_getObj_map (P:=P) h3.aO;cases r with
 | none=>
  have hk:f k=none:=by rw[←e2];rfl
  refine⟨_,n+1,by simp[Instr.mapUpdate,run_underlying hT,hg,iI hK,e1,run_setObj_map (P:=P) h3.aO];rfl,by simp[hk],(h3.setObj _).AO ?_ (by simp[h2]) ?_⟩
  ·simpa using h1.push k v clock hk
  ·simpa using hb.push (.int .i64 k) v
 | some r=>
  obtain⟨j,u⟩:=r;obtain⟨e,h4,h5,h6⟩:=e3 j u rfl;have hk:(f k).isSome=true:=by rw[←e2];rfl
  have hkey:((es[j]?.map (·.key)).getD (.int .i64 k))=.int .i64 k:=by
   have:es[j]?=some e:=by simpa using h4
   simp[this,h5]
  refine⟨_,n,by simp[Instr.mapUpdate,run_underlying hT,hg,iI hK,e1,Instr.keyThatStays,hkey,IW,run_setObj_map (P:=P) h3.aO];rfl,by simp[hk],(h3.setObj _).AO ?_ (by simp[h2]) ?_⟩
  ·simpa using h1.modify k v h4 h5
  ·simpa using hb.modify j (.int .i64 k) v
structure SQ (es:List MapEntry) (f:Int→Option Value) (clock since c0:Nat) (seen:Array Nat) (left:Int→Bool):Prop where
 rep:fP es f
 born:Born es clock
 old:∀e∈es,e.born<since
 sc:since≤c0
 scl:since≤clock
 lf:∀e∈es,∀k,e.key=.int .i64 k→left k=!seen.contains e.born
 lk:∀k,left k=true→(f k).isSome=true
def rng (b r:Nat) (f:Int→Option Value) (n:Nat) (left:Int→Bool) (cnt:Nat):aC:=ex fun s:Array MapEntry×Nat×Nat×Array Nat×Nat=>
 sep (fact (SQ s.1.toList f s.2.1 s.2.2.1 s.2.2.2.2 s.2.2.2.1 left∧s.1.size=n∧(leftOf s.1 s.2.2.2.1).size=cnt)) (sep (blk b (.map s.1 s.2.1)) (blk r (.mapIter (some b) s.2.2.1 s.2.2.2.1 s.2.2.2.2)))
theorem Sat.Ec {b r:Nat} {f:Int→Option Value} {n:Nat} {left:Int→Bool} {cnt:Nat} (h:Sat W w (sep (rng b r f n left cnt) A)):
 ∃es clock since seen c0,SQ es.toList f clock since c0 seen left∧es.size=n∧(leftOf es seen).size=cnt∧Sat W w (sep (blk b (.map es clock)) (sep (blk r (.mapIter (some b) since seen c0)) A)):=by
 rw[rng,fK,Sat.ex] at h;obtain⟨⟨es,clock,since,seen,c0⟩,h⟩:=h;rw[aj,aj] at h;have h':=Sat.fact.1 h;exact⟨es,clock,since,seen,c0,h'.1.1,h'.1.2.1,h'.1.2.2,h'.2⟩
theorem Sat.UN {b r:Nat} {f:Int→Option Value} {n:Nat} {left:Int→Bool} {cnt:Nat} {es:Array MapEntry} {clock since c0:Nat} {seen:Array Nat}
 (h:Sat W w (sep (blk b (.map es clock)) (sep (blk r (.mapIter (some b) since seen c0)) A))) (h1:SQ es.toList f clock since c0 seen left) (h2:es.size=n) (h3:(leftOf es seen).size=cnt):Sat W w (sep (rng b r f n left cnt) A):=by
 rw[rng,fK,Sat.ex];refine⟨(es,clock,since,seen,c0),?_⟩;rw[aj,aj];exact Sat.fact.2 ⟨⟨h1,h2,h3⟩,h⟩
theorem Sat.Lp {b r:Nat} {f:Int→Option Value} {n:Nat} {left:Int→Bool} {cnt:Nat} (h:Sat W w (sep (rng b r f n left cnt) A)):w.rangeLeft b r=cnt:=by
 obtain⟨es,clock,since,seen,c0,-,-,h3,h4⟩:=h.Ec;simp only[World.rangeLeft,h4.aO,h4.p1.aO];exact h3
theorem Sat.Xl {b r:Nat} {f:Int→Option Value} {n:Nat} {left:Int→Bool} {cnt:Nat} (h:Sat W w (sep (rng b r f n left cnt) A)):Sat W w (sep (wB b f n) A):=by
 obtain⟨es,clock,since,seen,c0,h1,h2,-,h4⟩:=h.Ec;exact h4.p1.drop.AO h1.rep h2 h1.born
theorem fP.zY {es:List MapEntry} {f:Int→Option Value} (h:fP es f) {e:MapEntry} (he:e∈es) {k:Int} (hk:e.key=.int .i64 k):f k=some e.val:=by
 rw[←h.get k];cases hf:es.find? (iG k) with
 | none=>rw[List.find?_eq_none] at hf;exact absurd (by simp[iG,hk]) (hf e he)
 | some x=>
  have hx:=List.mem_of_find?_eq_some hf;obtain⟨n,hn⟩:=h.keys x hx;have hp:=List.find?_some hf;simp[iG,hn] at hp;subst hp;have:=entry_eq_of_key h.nodup hx he (hn.trans hk.symm);rw[this];rfl
theorem fP.KI {es:List MapEntry} {f:Int→Option Value} (h:fP es f) {k:Int} (hk:(f k).isSome=true):∃e∈es,e.key=.int .i64 k:=by
 rw[←h.get k] at hk;cases hf:es.find? (iG k) with
 | none=>rw[hf] at hk;cases hk
 | some x=>
  have hx:=List.mem_of_find?_eq_some hf;obtain⟨n,hn⟩:=h.keys x hx;have hp:=List.find?_some hf;simp[iG,hn] at hp;subst hp;exact⟨x,hx,hn⟩
theorem og {T K E:TypeId} (hT:P.underlying T=some (.map K E)) {b:Nat} {f:Int→Option Value} {n:Nat} (h:Sat W w (sep (wB b f n) A)):
 ∃w',(Instr.range T (.map (some b))).run P w=.ok (.pointer (some ⟨w.heap.size,0,none⟩)) w'∧Sat W w' (sep (rng b w.heap.size f n (fun k=>(f k).isSome) n) A):=by
 obtain⟨es,clock,h1,h2,hb,h3⟩:=h.mF;have hg:=run_getObj_map (P:=P) h3.aO;refine⟨w.alloc (.mapIter (some b) clock #[] clock),by simp[Instr.range,run_underlying hT,hg],?_⟩;refine ((h3.alloc (.mapIter (some b) clock #[] clock)).p1).UN ⟨h1,hb,hb.lt,Nat.le_refl _,Nat.le_refl _,fun e he k hk=>?_,fun k hk=>hk⟩ h2 ?_
 ·rw[h1.zY he hk];simp
 ·rw[←h2];simp[leftOf]
theorem KG (es:Array MapEntry) (seen:Array Nat) (e:MapEntry) (he:e∈(leftOf es seen).toList):(leftOf es (seen.push e.born)).size<(leftOf es seen).size:=by
 have hsub:(leftOf es (seen.push e.born)).toList=(leftOf es seen).toList.filter fun x=>x.born !=e.born:=by
  unfold leftOf;simp only[Array.toList_filter,List.filter_filter];congr 1;funext x
  by_cases h:x.born=e.born
  ·simp[h]
  ·simp[h,bne]
 have hlt:(leftOf es (seen.push e.born)).toList.length<(leftOf es seen).toList.length:=by
  rw[hsub];exact List.length_filter_lt_length_iff_exists.2 ⟨e,he,by simp⟩
 simpa using hlt
theorem IU {b r:Nat} {f:Int→Option Value} {n:Nat} {left:Int→Bool} {cnt:Nat} (ty:TypeId) (h:Sat W w (sep (rng b r f n left cnt) A)):
 ((∀k,left k=false)∧(Instr.next (.pointer (some ⟨r,0,none⟩)) false ty).run P w=.ok (.tuple #[.bool false]) w) ∨
 ∃k v w' cnt',left k=true∧f k=some v∧cnt'<cnt∧(Instr.next (.pointer (some ⟨r,0,none⟩)) false ty).run P w=.ok (.tuple #[.bool true,.int .i64 k,v]) w' ∧
  (Instr.entry (.pointer (some ⟨r,0,none⟩))).run P w'=.ok (.tuple #[.int .i64 k,v]) w'∧Sat W w' (sep (rng b r f n (fun z=>left z&&z !=k) cnt') A):=by
 obtain⟨es,clock,since,seen,c0,h1,h2,h3,h4⟩:=h.Ec;rcases run_next_at (P:=P) w ty r b since c0 seen es clock h4.p1.aO h4.aO h1.old h1.sc with ⟨h0,hrun⟩|⟨e,he,w1,hw1,hrun⟩
 ·refine .inl ⟨fun k=>?_,hrun⟩
  cases hk:left k with
  | false=>rfl
  | true=>
   obtain⟨e,he,hek⟩:=h1.rep.KI (h1.lk k hk);have:=h1.lf e he k hek;rw[hk] at this;have hm:e∈(leftOf es seen).toList:=by unfold leftOf;simp;exact⟨by simpa using he,by simpa using this.symm⟩
   have h00:(leftOf es seen).toList.length=0:=by simpa using h0
   rw[List.eq_nil_of_length_eq_zero h00] at hm;cases hm
 ·have hmem:e∈es.toList∧seen.contains e.born=false:=by
   unfold leftOf at he;simp at he;exact⟨by simpa using he.1,by simpa using he.2⟩
  obtain⟨k,hk⟩:=h1.rep.keys e hmem.1;have hlk:=h1.lf e hmem.1 k hk;rw[hmem.2] at hlk;have aej:Sat W w1 (sep (blk r (.mapIter (some b) since seen c0)) (sep (blk b (.map es clock)) A)):=by
   rcases hw1 with rfl|rfl
   ·exact h4.p1
   ·exact h4.p1.drew
  have hset:Sat W (Go.ChangeMaps.setBlock w1 r (.mapIter (some b) since (seen.push e.born) clock)) (sep (blk r (.mapIter (some b) since (seen.push e.born) clock)) (sep (blk b (.map es clock)) A)):=aej.setObj _;refine .inr ⟨k,e.val,_,_,by simpa using hlk,h1.rep.zY hmem.1 hk,?_,by rw[hk] at hrun;exact hrun,?_,hset.p1.UN ⟨h1.rep,h1.born,h1.old,h1.scl,h1.scl,?_,?_⟩ h2 rfl⟩
  ·rw[←h3];exact KG es seen e he
  ·have:=run_entry_at (P:=P) _ r b since seen es clock e hset.aO hset.p1.aO hmem.1 h1.born.nodup
   rw[hk] at this;exact this
  ·intro e2 he2 k2 hk2
   rw[h1.lf e2 he2 k2 hk2,Array.contains_push]
   by_cases hkk:k2=k
   ·subst hkk
    have:e2=e:=entry_eq_of_key h1.rep.nodup he2 hmem.1 (hk2.trans hk.symm);subst this;simp
   ·have hb:¬e2.born=e.born:=fun hbe=>hkk (by
     have:e2=e:=Pg h1.born.nodup he2 hmem.1 hbe;subst this;rw[hk2] at hk;cases hk;rfl)
    have e1:(k2 !=k)=true:=by simp[hkk]
    have e2:(e2.born==e.born)=false:=by simp[hb]
    rw[e1,e2];simp
  ·intro z hz
   simp at hz;exact h1.lk z hz.1
end
end PA
namespace PA
open Go Go.RowKit
section
variable {P:Program} {W w:World} {A:aC}
end
end PA
namespace Go.Proofs.YthfmaclnccdcbaaGreatDoor
open Go.RowKit PA
section
variable {W w:World} {A:aC} {p:Nat} {app:Int} {S:Zi}
end
end Go.Proofs.YthfmaclnccdcbaaGreatDoor
namespace PA
open Go Go.RowKit
inductive It where
 | one (i:Nat) (k:Kd)
 | grp (b:Bool) (E:List Nat)
def It.fl:It→List (Nat×Kd)
 | .one i k=>[(i,k)]
 | .grp b E=>E.map fun i=>(i,.inl b)
def fls (l:List It):List (Nat×Kd):=l.flatMap It.fl
section
variable {P:Program} {ops:Array Oper} {Q:Exit→Act→World→Prop} {S:World→Prop}
structure InvI (ops:Array Oper) (bf:Array Nat) (listed:Array Bool) (l:List It):Prop where
 size:listed.size=ops.size
 mem:∀i,i∈(fls l).map (·.1)↔i<ops.size∧listed.getD i true=false
 nodup:((fls l).map (·.1)).Nodup
 pair:l.Pairwise fun x y=>∀u∈x.fl,∀v∈y.fl,fM ops bf u v=true
 dep:(fls l).Pairwise fun x y=>lJ ops x.1 y.1=false
 self:∀x∈fls l,lJ ops x.1 x.1=false
 closed:∀d r,r<ops.size→listed.getD d false=true→(bf.getD d 0).testBit r=true→listed.getD r false=true
def TA (ops:Array Oper):List (Nat×Kd)→Bool
 | []=>true
 | x::l=>!lJ ops x.1 x.1&&l.all (fun y=>!lJ ops x.1 y.1)&&TA ops l
theorem Hq:∀(l:List (Nat×Kd)),TA ops l=true→(l.Pairwise fun x y=>lJ ops x.1 y.1=false)∧∀x∈l,lJ ops x.1 x.1=false
 | [],_=>⟨.nil,fun _ h=>(by cases h)⟩
 | x::l,h=>by
  simp only[TA,Bool.and_eq_true,List.all_eq_true,Bool.not_eq_true'] at h;have ih:=Hq l h.2;refine⟨List.pairwise_cons.2 ⟨fun y hy=>h.1.2 y hy,ih.1⟩,fun y hy=>?_⟩;rcases List.mem_cons.1 hy with rfl|hy
  ·exact h.1.1
  ·exact ih.2 y hy
variable {i:Nat} {l:List It} {a:Act} {w:World} {o:Oper} {v:Value} {K:Act→World→Prop}
end
end PA
namespace PA
open Go Go.RowKit
section
variable {P:Program} {ops:Array Oper} {Q:Exit→Act→World→Prop} {S:World→Prop} {W:World}
def iR (P:Program) (ops:Array Oper) (W:World) (o:Oper) (a:Act) (Pre:aC) (Post:Value→aC):Prop:=
 Region.wanted o (yielded ops a.tmps)=true∧∀(w:World) (A:aC),Sat W w (sep Pre A) →
  (∃v w',(execOp a.eval o).run P w=.ok (.value v) w'∧Sat W w' (sep (Post v) A)) ∨
  (∃f args w1,(execOp a.eval o).run P w=.ok (.enter f args) w1∧Calls P f args w1 fun e w'=>∃v,e=.returned v∧Sat W w' (sep (Post v) A))
theorem iR.put {o:Oper} {a:Act} {Pre:aC} {Post:Value→aC} (h:iR P ops W o a Pre Post) (hs:∀cs b,o.op≠.select cs b) {d:Option Tmp} (hd:∀t,d=some t→t∉o.looksAt ops) (v:Value):iR P ops W o (a.put d v) Pre Post:=by
 unfold iR at *;rw[execOp_put o hs a d v hd,wanted_put o a d v hd];exact h
theorem iR.wpOp {i:Nat} {o:Oper} {a:Act} {Pre:aC} {Post:Value→aC} (ho:ops[i]?=some o) (h:iR P ops W o a Pre Post) {w:World} {A:aC} (hw:Sat W w (sep Pre A)) {K:Act→World→Prop}
 (hK:∀v w',Sat W w' (sep (Post v) A)→K (a.put o.dst v) w'):Go.wpOp P ops Q i K a w:=by
 unfold Go.wpOp;simp only[ho,h.1,if_true];refine .inl ?_;unfold Oper.wp;rcases h.2 w A hw with ⟨v,w',h1,h2⟩|⟨f,args,w1,h1,h2⟩
 ·rw[h1];exact hK v w' h2
 ·rw[h1]
  refine Calls.mono h2 ?_;rintro e w' ⟨v,rfl,h3⟩;exact hK v w' h3
def aS (ops:Array Oper) (i:Nat):Option Tmp:=(ops[i]?).bind (·.dst)
def puts (ops:Array Oper) (l:List (Nat×Value)) (a:Act):Act:=l.foldl (fun a x=>a.put (aS ops x.1) x.2) a
theorem jh (l m:List (Nat×Value)) (a:Act):puts ops (l++m) a=puts ops m (puts ops l a):=by simp[puts]
def apartB (ops:Array Oper) (i j:Nat):Bool:=match ops[i]?,ops[j]? with|some o,some u=>o.apart ops u|_,_=>false
theorem nG {i j:Nat} (h:apartB ops i j=true):(∀d,aS ops i=some d→aS ops j≠some d)∧(∀d,aS ops j=some d→aS ops i≠some d):=by
 unfold apartB at h;unfold aS;cases hi:ops[i]? with
 | none=>rw[hi] at h;cases h
 | some o=>
  cases hj:ops[j]? with
  | none=>rw[hi,hj] at h;cases h
  | some u=>
   rw[hi,hj] at h;obtain⟨h1,h2,h3⟩:=Oper.apart_spec h;exact⟨fun d hd=>h2 d hd,fun d hd he=>h2 d he hd⟩
theorem Gj {i:Nat} (v:Value):∀(l:List (Nat×Value)),(∀x∈l,apartB ops i x.1=true)→∀a:Act,puts ops l (a.put (aS ops i) v)=(puts ops l a).put (aS ops i) v
 | [],_,_=>rfl
 | x::l,h,a=>by
  show puts ops l ((a.put (aS ops i) v).put (aS ops x.1) x.2)=(puts ops l (a.put (aS ops x.1) x.2)).put (aS ops i) v;rw[Act.put_comm a v x.2 (nG (h x (by simp))).1,Gj v l (fun y hy=>h y (by simp[hy]))]
theorem DZ (l:List (Nat×Value)):∀(m:List (Nat×Value)),(∀x∈m,∀y∈l,apartB ops x.1 y.1=true)→∀a:Act,puts ops l (puts ops m a)=puts ops m (puts ops l a)
 | [],_,_=>rfl
 | x::m,h,a=>by
  show puts ops l (puts ops m (a.put (aS ops x.1) x.2))=puts ops m ((puts ops l a).put (aS ops x.1) x.2);rw[DZ l m (fun y hy=>h y (by simp[hy])),Gj x.2 l (h x (by simp))]
theorem iR.puts {o:Oper} {i:Nat} {Pre:aC} {Post:Value→aC} (ho:ops[i]?=some o) (hs:∀cs b,o.op≠.select cs b):∀(l:List (Nat×Value)),(∀x∈l,apartB ops x.1 i=true∨apartB ops i x.1=true)→∀{a:Act},iR P ops W o a Pre Post→iR P ops W o (puts ops l a) Pre Post
 | [],_,_,h=>h
 | x::l,hl,a,h=>by
  refine iR.puts ho hs l (fun y hy=>hl y (by simp[hy])) (h.put hs ?_ x.2);intro t ht;unfold aS at ht;cases hx:ops[x.1]? with
  | none=>rw[hx] at ht;cases ht
  | some u=>
   rw[hx] at ht;rcases hl x (by simp) with h1|h1
   ·unfold apartB at h1
    rw[hx,ho] at h1;exact (Oper.apart_spec h1).1 t ht
   ·unfold apartB at h1
    rw[hx,ho] at h1;exact (Oper.apart_spec h1).2.2 t ht
structure Thr where
 ids:List Nat
 A:List Value→aC
structure St where
 dn:List (Nat×Value)
 td:List Nat
 A:List Value→aC
def St.now (s:St):aC:=s.A (s.dn.map (·.2))
def Ti (ops:Array Oper) (l m:List Nat):Prop:=∀i∈l,∀j∈m,apartB ops i j=true
def St.all (s:St):List Nat:=s.dn.map (·.1)++s.td
def O8 (ops:Array Oper) (l m:List Nat):Bool:=l.all fun i=>m.all fun j=>apartB ops i j
def AX (ops:Array Oper):List (List Nat)→Bool
 | []=>true
 | l::ls=>ls.all (O8 ops l)&&AX ops ls
end
end PA
namespace PA
open Go Go.RowKit
inductive kL where
 | one (i:Nat) (k:Kd)
 | grp (b:Bool) (E:List (Nat×List Nat))
def Ag (b:Bool) (x:Nat×List Nat):List (Nat×Kd):=(x.1,.inl b)::x.2.map fun j=>(j,.inr none)
def kL.fl:kL→List (Nat×Kd)
 | .one i k=>[(i,k)]
 | .grp b E=>E.flatMap (Ag b)
def eF (l:List kL):List (Nat×Kd):=l.flatMap kL.fl
theorem jM (x:kL) (l:List kL):eF (x::l)=x.fl++eF l:=by simp[eF]
theorem jL (l m:List kL):eF (l++m)=eF l++eF m:=by simp[eF]
def wpT (P:Program) (ops:Array Oper) (K:Act→World→Prop):List Nat→Act→World→Prop
 | [],a,w=>K a w
 | j::js,a,w=>∃o,ops[j]?=some o∧∃v,(∀w',Qs P ops o v a w')∧wpT P ops K js (a.put o.dst v) w
def ou (P:Program) (ops:Array Oper) (Q:Exit→Act→World→Prop) (S:World→Prop) (b:Bool):Nat→List (Nat×List Nat)→(Act→World→Prop)→Act→World→Prop
 | 0,_,K,a,w=>K a w
 | n+1,E,K,a,w=>∀x∈E,(E.all fun r=>!((Region.before ops).getD x.1 0).testBit r.1)=true →
  wpOp P ops Q x.1 (fun a' w'=>(b=true→S w')∧wpT P ops (ou P ops Q S b n (E.erase x) K) x.2 a' w') a w
def mZ (P:Program) (ops:Array Oper) (Q:Exit→Act→World→Prop) (S:World→Prop):List kL→(Act→World→Prop)→Act→World→Prop
 | [],K,a,w=>K a w
 | .one i k::l,K,a,w=>∃o,ops[i]?=some o∧match k with
  | .inr none=>∃v,(∀w',Qs P ops o v a w')∧mZ P ops Q S l K (a.put o.dst v) w
  | .inr (some true)=>S w∧∃v,(∀w',S w'→Qs P ops o v a w')∧mZ P ops Q S l K (a.put o.dst v) w
  | .inr (some false)=>∃v,Qs P ops o v a w∧mZ P ops Q S l K (a.put o.dst v) w
  | .inl b=>wpOp P ops Q i (fun a' w'=>(b=true→S w')∧mZ P ops Q S l K a' w') a w
 | .grp b E::l,K,a,w=>ou P ops Q S b E.length E (mZ P ops Q S l K) a w
section
variable {P:Program} {ops:Array Oper} {Q:Exit→Act→World→Prop} {S:World→Prop}
structure okG (ops:Array Oper) (bf:Array Nat) (b:Bool) (E:List (Nat×List Nat)):Prop where
 own:∀x∈E,∀j∈x.2,(bf.getD j 0).testBit x.1=true
 seq:∀x∈E,x.2.Pairwise fun u v=>fM ops bf (u,.inr none) (v,.inr none)=true
 other:∀x∈E,∀y∈E,x≠y→∀u∈x.2,∀v∈Ag b y,fM ops bf (u,.inr none) v=true
theorem KT {bf:Array Nat}:∀(js:List Nat),DC ops bf (js.map fun j=>(j,(.inr none:Kd)))=true→js.Pairwise fun u v=>fM ops bf (u,.inr none) (v,.inr none)=true
 | [],_=>.nil
 | j::js,h=>by
  simp only[List.map_cons,DC,Bool.and_eq_true,List.all_eq_true] at h;refine List.pairwise_cons.2 ⟨fun y hy=>h.1.1 _ (List.mem_map.2 ⟨y,hy,rfl⟩),KT js h.2⟩
theorem okG.erase {bf:Array Nat} {b:Bool} {E:List (Nat×List Nat)} (h:okG ops bf b E) (x:Nat×List Nat):okG ops bf b (E.erase x):=
 ⟨fun y hy=>h.own y (List.mem_of_mem_erase hy),fun y hy=>h.seq y (List.mem_of_mem_erase hy),fun y hy z hz=>h.other y (List.mem_of_mem_erase hy) z (List.mem_of_mem_erase hz)⟩
theorem YU (l:List kL) (K:Act→World→Prop):∀(js:List Nat) (a:Act) (w:World),wpT P ops (mZ P ops Q S l K) js a w→mZ P ops Q S (js.map (fun j=>.one j (.inr none))++l) K a w
 | [],_,_,h=>h
 | j::js,a,w,h=>by
  obtain⟨o,ho,v,hy,h⟩:=h;exact⟨o,ho,v,hy,YU l K js _ w h⟩
theorem wX (l m:List kL) (K:Act→World→Prop):mZ P ops Q S (l++m) K=mZ P ops Q S l (mZ P ops Q S m K):=by
 induction l with
 | nil=>rfl
 | cons x l ih=>
  funext a w;cases x with
  | one i k=>rcases k with b|_|_|_<;>simp only[List.cons_append,mZ,ih]
  | grp b E=>simp only[List.cons_append,mZ,ih]
theorem Gy {K:Act→World→Prop}:∀(l:List kL),eF l=[]→∀(a:Act) (w:World),mZ P ops Q S l K a w→K a w
 | [],_,_,_,h=>h
 | .one i k::l,he,_,_,_=>by simp[jM,kL.fl] at he
 | .grp b E::l,he,a,w,h=>by
  rw[jM,List.append_eq_nil_iff] at he;have hE:E=[]:=by
   cases E with
   | nil=>rfl
   | cons x E=>have:=he.1;simp[kL.fl,Ag] at this
  subst hE;exact Gy l he.2 a w h
theorem P6 {j:Nat} {kj:Kd} {oj:Oper} {bf:Array Nat} (hj:ops[j]?=some oj) (hsel:∀(j:Nat) (o:Oper) cs b,ops[j]?=some o→o.op≠.select cs b) (hQ:∀c a d v w,Q (.panic c) (a.put d v) w→Q (.panic c) a w)
 (T T':Act→World→Prop) (hT:∀a w,T a w→wpOp P ops Q j (fun a' w'=>T' a' w'∧(kj=.e true→S w')∧(kj.eff=false→w'=w)) a w):
 ∀(l1:List kL),(∀x∈eF l1,fM ops bf x (j,kj)=true∧(bf.getD j 0).testBit x.1=false)→∀(a:Act) (w:World),mZ P ops Q S l1 T a w →
  wpOp P ops Q j (fun a' w'=>mZ P ops Q S l1 T' a' w'∧(kj=.e true→S w')∧(kj.eff=false→w'=w)) a w
 | [],_,a,w,h=>hT a w h
 | .grp b E::l1,hl,a,w,h=>by
  have hE:E=[]:=by
   cases E with
   | nil=>rfl
   | cons r E=>
    obtain⟨hp,hnd⟩:=hl (r.1,.inl b) (by simp[jM,kL.fl,Ag]);simp only[fM,hnd,Bool.false_or,Bool.and_eq_true,Kd.eff,Bool.not_true,Bool.false_and] at hp;exact absurd hp.2 (by simp)
  subst hE;exact wpOp_mono (fun a' w' h=>h) (P6 hj hsel hQ T T' hT l1 (fun x hx=>hl x (by rw[jM];exact List.mem_append_right _ hx)) a w h)
 | .one r kr::l1,hl,a,w,h=>by
  obtain⟨o,ho,h⟩:=h;obtain⟨hp,hnd⟩:=hl (r,kr) (by simp[jM,kL.fl]);simp only[fM,hnd,Bool.false_or,Bool.and_eq_true,ho,hj] at hp;obtain⟨_,⟨hne,hap⟩,hk⟩:=hp;have ih:=P6 hj hsel hQ T T' hT l1 (fun x hx=>hl x (by rw[jM];exact List.mem_append_right _ hx));have go:∀(v:Value),mZ P ops Q S l1 T (a.put o.dst v) w →
   wpOp P ops Q j (fun a' w'=>Alk ops o a a'∧mZ P ops Q S l1 T' (a'.put o.dst v) w'∧(kj=.e true→S w')∧(kj.eff=false→w'=w)) a w:=fun v hv=>
   Gz hj hap (fun cs b=>hsel r o cs b ho) (fun cs b=>hsel j oj cs b hj) hQ (ih _ _ hv)
  rcases kr with b|_|_|_
  case inr.none=>
   obtain⟨v,hy,h⟩:=h;exact wpOp_mono (fun a' w' ⟨h1,h2,h3,h4⟩=>⟨⟨o,ho,v,fun w'=>(hy w').alk h1,h2⟩,h3,h4⟩) (go v h)
  case inr.some.true=>
   obtain⟨hS,v,hy,h⟩:=h;refine wpOp_mono (fun a' w' ⟨h1,h2,h3,h4⟩=>⟨⟨o,ho,?_,v,fun w' hw'=>(hy w' hw').alk h1,h2⟩,h3,h4⟩) (go v h);rcases kj with b|_
   ·exact h3 (by simp at hk;rw[hk])
   ·rw[h4 rfl];exact hS
  case inr.some.false=>
   obtain⟨v,hy,h⟩:=h;refine wpOp_mono (fun a' w' ⟨h1,h2,h3,h4⟩=>⟨⟨o,ho,v,?_,h2⟩,h3,h4⟩) (go v h);rcases kj with b|_
   ·simp at hk
   ·rw[h4 rfl];exact hy.alk h1
  case inl=>simp[Kd.eff] at hne
structure InvJ (ops:Array Oper) (bf:Array Nat) (listed:Array Bool) (l:List kL):Prop where
 size:listed.size=ops.size
 mem:∀i,i∈(eF l).map (·.1)↔i<ops.size∧listed.getD i true=false
 nodup:((eF l).map (·.1)).Nodup
 pair:l.Pairwise fun x y=>∀u∈x.fl,∀v∈y.fl,fM ops bf u v=true
 dep:(eF l).Pairwise fun x y=>lJ ops x.1 y.1=false
 self:∀x∈eF l,lJ ops x.1 x.1=false
 grp:∀b E,kL.grp b E∈l→okG ops bf b E
 closed:∀d r,r<ops.size→listed.getD d false=true→(bf.getD d 0).testBit r=true→listed.getD r false=true
def KY (ops:Array Oper) (bf:Array Nat):List kL→Bool
 | []=>true
 | x::l=>l.all (fun y=>x.fl.all fun u=>y.fl.all fun v=>fM ops bf u v)&&KY ops bf l
theorem DT {bf:Array Nat}:∀(l:List kL),KY ops bf l=true→l.Pairwise fun x y=>∀u∈x.fl,∀v∈y.fl,fM ops bf u v=true
 | [],_=>.nil
 | x::l,h=>by
  simp only[KY,Bool.and_eq_true,List.all_eq_true] at h;exact List.pairwise_cons.2 ⟨fun y hy u hu v hv=>h.1 y hy u hu v hv,DT l h.2⟩
variable {i:Nat} {l:List kL} {a:Act} {w:World} {o:Oper} {v:Value} {K:Act→World→Prop}
theorem J_p (ho:ops.toList[i]?=some o) (hg:Region.wanted o (yielded ops a.tmps)=true) (hv:∀w',(execOp a.eval o).run P w'=.ok (.value v) w') (h:mZ P ops Q S l K (a.put o.dst v) w):mZ P ops Q S (.one i .p::l) K a w:=
 have ho':=(Array.getElem?_toList (xs:=ops) (i:=i)).symm.trans ho
 ⟨o,ho',v,fun w'=>.inl ⟨hg,hv w'⟩,h⟩
theorem J_s (ho:ops.toList[i]?=some o) (hg:Region.wanted o (yielded ops a.tmps)=true) (hS:S w) (hv:∀w',S w'→(execOp a.eval o).run P w'=.ok (.value v) w') (h:mZ P ops Q S l K (a.put o.dst v) w):mZ P ops Q S (.one i .s::l) K a w:=
 have ho':=(Array.getElem?_toList (xs:=ops) (i:=i)).symm.trans ho
 ⟨o,ho',hS,v,fun w' hw=>.inl ⟨hg,hv w' hw⟩,h⟩
theorem J_t (ho:ops.toList[i]?=some o) (hg:Region.wanted o (yielded ops a.tmps)=true) (hv:(execOp a.eval o).run P w=.ok (.value v) w) (h:mZ P ops Q S l K (a.put o.dst v) w):mZ P ops Q S (.one i .t::l) K a w:=
 have ho':=(Array.getElem?_toList (xs:=ops) (i:=i)).symm.trans ho
 ⟨o,ho',v,.inl ⟨hg,hv⟩,h⟩
theorem J_po (ho:ops.toList[i]?=some o) (hg:Region.wanted o (yielded ops a.tmps)=false) (h:mZ P ops Q S l K (a.put o.dst undef) w):mZ P ops Q S (.one i .p::l) K a w:=
 have ho':=(Array.getElem?_toList (xs:=ops) (i:=i)).symm.trans ho
 ⟨o,ho',undef,fun _=>.inr ⟨hg,rfl⟩,h⟩
theorem J_so (ho:ops.toList[i]?=some o) (hg:Region.wanted o (yielded ops a.tmps)=false) (hS:S w) (h:mZ P ops Q S l K (a.put o.dst undef) w):mZ P ops Q S (.one i .s::l) K a w:=
 have ho':=(Array.getElem?_toList (xs:=ops) (i:=i)).symm.trans ho
 ⟨o,ho',hS,undef,fun _ _=>.inr ⟨hg,rfl⟩,h⟩
theorem J_to (ho:ops.toList[i]?=some o) (hg:Region.wanted o (yielded ops a.tmps)=false) (h:mZ P ops Q S l K (a.put o.dst undef) w):mZ P ops Q S (.one i .t::l) K a w:=
 have ho':=(Array.getElem?_toList (xs:=ops) (i:=i)).symm.trans ho
 ⟨o,ho',undef,.inr ⟨hg,rfl⟩,h⟩
theorem XQ {b:Bool} (ho:ops.toList[i]?=some o) (hg:Region.wanted o (yielded ops a.tmps)=true)
 (h:∀K':Act→World→Prop,(∀a w,(b=true→S w)→mZ P ops Q S l K a w→K' a w)→o.wp P a w K' Q):mZ P ops Q S (.one i (.e b)::l) K a w:=
 have ho':=(Array.getElem?_toList (xs:=ops) (i:=i)).symm.trans ho
 ⟨o,ho',by unfold wpOp;simp only[ho',hg,if_true];exact .inl (h _ fun _ _ h1 h2=>⟨h1,h2⟩)⟩
theorem vI (h:K a w):mZ P ops Q S [] K a w:=h
end
end PA
namespace PA
open Go Go.RowKit
theorem lG {G G2:Prop} (h:G2) (f:G2→G:=by intro hZ;(repeat ((first|(refine J_p (v:=?_) rfl rfl (fun w'=>?_) ?_;rotate_left;(go_simp;with_reducible rfl))|(refine J_s (v:=?_) rfl rfl hS0 (fun w' hS=>?_) ?_;rotate_left;((try dsimp only at hS);go_simp;with_reducible rfl))|(refine J_t (v:=?_) rfl rfl ?_ ?_;rotate_left;(go_simp;with_reducible rfl))|(refine J_po rfl rfl ?_)|(refine J_so rfl rfl hS0 ?_)|(refine J_to rfl rfl ?_));simp only[Act.put,lsA,lsB,kJ]));exact hZ):G:=f h
end PA
namespace PA
open Go Go.RowKit
section
variable {P:Program} {ops:Array Oper} {Q:Exit→Act→World→Prop} {S:World→Prop} {W:World}
def tailA {Y:Type} (Pre:aC) (ok:Y→Value→Prop) (Post:Y→aC) (F:Value→List Value):List Value→aC
 | []=>Pre
 | v::us=>ex fun y:Y=>sep (fact (ok y v∧us=(F v).take us.length)) (Post y)
def xY (P:Program) (ops:Array Oper):Act→List Nat→List Value→Prop
 | _,[],[]=>True
 | a,j::js,u::us=>(∃o,ops[j]?=some o∧(∀w,(execOp a.eval o).run P w=.ok (.value u) w))∧xY P ops (a.put (aS ops j) u) js us
 | _,_,_=>False
def nX (ops:Array Oper) (j:Nat):Bool:=match ops[j]? with|some o=>o.guard.isNone&&(match o.op with|.select ..=>false|_=>true)|none=>false
theorem Le:∀{js:List Nat} {us:List Value} {a:Act},xY P ops a js us→us.length=js.length
 | [],[],_,_=>rfl
 | [],_::_,_,h=>h.elim
 | _::_,[],_,h=>h.elim
 | j::js,u::us,a,h=>by rw[List.length_cons,List.length_cons,Le h.2]
theorem zZ {K:Act→World→Prop}:∀(js:List Nat) (us:List Value) (a:Act) (w:World),(∀j∈js,nX ops j=true)→xY P ops a js us→K (puts ops (js.zip us) a) w→wpT P ops K js a w
 | [],us,a,w,_,h,hk=>by
  cases us with
  | nil=>exact hk
  | cons=>exact h.elim
 | j::js,[],_,_,_,h,_=>h.elim
 | j::js,u::us,a,w,hp,h,hk=>by
  obtain⟨⟨o,ho,hr⟩,h2⟩:=h;have Ug:=hp j (by simp);unfold nX at Ug;rw[ho] at Ug;simp only[Bool.and_eq_true] at Ug;refine⟨o,ho,u,fun w'=>.inl ⟨?_,hr w'⟩,?_⟩
  ·unfold Region.wanted
   cases hg:o.guard with
   | none=>rfl
   | some x=>rw[hg] at Ug;exact absurd Ug.1 (by simp)
  ·have hd:aS ops j=o.dst:=by unfold aS;rw[ho];rfl
   rw[←hd];exact zZ js us _ w (fun k hk=>hp k (by simp[hk])) h2 hk
theorem wR {i:Nat} (v:Value):∀(l:List (Nat×Value)),(∀x∈l,apartB ops x.1 i=true∨apartB ops i x.1=true)→∀a:Act,puts ops l (a.put (aS ops i) v)=(puts ops l a).put (aS ops i) v
 | [],_,_=>rfl
 | x::l,h,a=>by
  show puts ops l ((a.put (aS ops i) v).put (aS ops x.1) x.2)=(puts ops l (a.put (aS ops x.1) x.2)).put (aS ops i) v;have hd:∀d,aS ops i=some d→aS ops x.1≠some d:=by
   rcases h x (by simp) with h1|h1
   ·exact (nG h1).2
   ·exact (nG h1).1
  rw[Act.put_comm a v x.2 hd,wR v l (fun y hy=>h y (by simp[hy]))]
theorem UJ {js:List Nat} {k:Nat} {v:Value}:∀{us:List Value} {a:Act},(∀j∈js,nX ops j=true)→(∀j∈js,apartB ops k j=true∨apartB ops j k=true)→xY P ops a js us→xY P ops (a.put (aS ops k) v) js us:=by
 induction js with
 | nil=>intro us a _ _ h;cases us with
  | nil=>trivial
  | cons=>exact h.elim
 | cons j js ih=>
  intro us a hp hap h;cases us with
  | nil=>exact h.elim
  | cons u us=>
   obtain⟨⟨o,ho,hr⟩,h2⟩:=h;have Ug:=hp j (by simp);unfold nX at Ug;rw[ho] at Ug;simp only[Bool.and_eq_true] at Ug;have hsel:∀cs b,o.op≠.select cs b:=fun cs b hs=>by rw[hs] at Ug;exact absurd Ug.2 (by simp)
   have hlook:∀d,aS ops k=some d→d∉o.looksAt ops:=fun d hd=>by
    unfold aS at hd;cases hk:ops[k]? with
    | none=>rw[hk] at hd;cases hd
    | some z=>
     rw[hk] at hd;rcases hap j (by simp) with h1|h1
     ·unfold apartB at h1
      rw[hk,ho] at h1;exact (Oper.apart_spec h1).1 d hd
     ·unfold apartB at h1
      rw[hk,ho] at h1;exact (Oper.apart_spec h1).2.2 d hd
   refine⟨⟨o,ho,fun w=>?_⟩,?_⟩
   ·rw[execOp_put o hsel a _ v hlook];exact hr w
   ·have:=ih (fun i hi=>hp i (by simp[hi])) (fun i hi=>hap i (by simp[hi])) h2
    have hd:∀d,aS ops k=some d→aS ops j≠some d:=by
     rcases hap j (by simp) with h1|h1
     ·exact (nG h1).1
     ·exact (nG h1).2
    rw[Act.put_comm a v u hd];exact this
theorem Gg {js:List Nat} {us:List Value}:∀(l:List (Nat×Value)),(∀j∈js,nX ops j=true)→(∀x∈l,∀j∈js,apartB ops x.1 j=true∨apartB ops j x.1=true)→∀{a:Act},xY P ops a js us→xY P ops (puts ops l a) js us
 | [],_,_,_,h=>h
 | x::l,hp,hap,a,h=>Gg l hp (fun y hy=>hap y (by simp[hy])) (UJ hp (hap x (by simp)) h)
def nums (ids:List (Nat×List Nat)):List Nat:=ids.flatMap fun x=>x.1::x.2
structure XU where
 ids:List (Nat×List Nat)
 A:List Value→aC
structure zy where
 dn:List (Nat×Value)
 td:List (Nat×List Nat)
 A:List Value→aC
def zy.now (s:zy):aC:=s.A (s.dn.map (·.2))
def I4 (vX:List zy) (B:aC):aC:=vX.foldl (fun B s=>sep s.now B) B
theorem qC (s:zy) (vX:List zy) (B:aC):I4 (s::vX) B=I4 vX (sep s.now B):=rfl
theorem Eo (s t:List zy) (B:aC):I4 (s++t) B=I4 t (I4 s B):=by simp[I4]
theorem yh (X:aC):∀(vX:List zy) (B:aC),I4 vX (sep X B)=sep X (I4 vX B)
 | [],_=>rfl
 | s::vX,B=>by rw[qC,qC,ay,yh X vX]
def zO (P:Program) (ops:Array Oper) (W:World) (a0:Act) (A:List Value→aC):List (Nat×Value)→List (Nat×List Nat)→Prop
 | _,[]=>True
 | dn,x::td=>(∃o,ops[x.1]?=some o∧(∀cs b,o.op≠.select cs b)∧iR P ops W o (puts ops dn a0) (A (dn.map (·.2))) (fun v=>A (dn.map (·.2)++[v])))∧(∀y∈td,((Region.before ops).getD y.1 0).testBit x.1=true)∧(∀j∈x.2,nX ops j=true) ∧
  (∀v w B,Sat W w (sep (A (dn.map (·.2)++[v])) B)→∃us,xY P ops (puts ops (dn++[(x.1,v)]) a0) x.2 us∧Sat W w (sep (A (dn.map (·.2)++v::us)) B)) ∧
  ∀v us,us.length=x.2.length→zO P ops W a0 A (dn++(x.1,v)::x.2.zip us) td
def WH (ops:Array Oper) (W:World) (a0:Act) (K:Act→World→Prop):List XU→List (Nat×Value)→aC→Prop
 | [],D,B=>∀w,Sat W w B→K (puts ops D a0) w
 | t::ts,D,B=>∀dn:List (Nat×Value),dn.map (·.1)=nums t.ids→WH ops W a0 K ts (D++dn) (sep (t.A (dn.map (·.2))) B)
def xw (ts:List XU) (vX:List zy):Prop:=vX.map (fun s=>(s.dn.map (·.1)++nums s.td,s.A))=ts.map fun t=>(nums t.ids,t.A)
theorem Uz {l:List (Nat×List Nat)} (h:l=[]):nums l=[]:=by rw[h];rfl
theorem JU {a0:Act} {K:Act→World→Prop}:∀(vX:List zy) (ts:List XU) (D:List (Nat×Value)) (B:aC),xw ts vX→vX.flatMap (·.td)=[]→WH ops W a0 K ts D B→∀w,Sat W w (I4 vX B)→K (puts ops (D++vX.flatMap (·.dn)) a0) w
 | [],ts,D,B,hL,_,hf,w,hS=>by
  have:ts=[]:=by unfold xw at hL;simp at hL;exact hL
  subst this;simpa using hf w hS
 | s::vX,ts,D,B,hL,ht,hf,w,hS=>by
  cases ts with
  | nil=>unfold xw at hL;simp at hL
  | cons t ts=>
   unfold xw at hL;simp only[List.map_cons,List.cons.injEq,Prod.mk.injEq] at hL;obtain⟨⟨h1,h2⟩,h3⟩:=hL;simp only[List.flatMap_cons,List.append_eq_nil_iff] at ht;rw[Uz ht.1,List.append_nil] at h1;have:=hf s.dn h1;rw[←h2] at this;have h4:=JU vX ts (D++s.dn) _ h3 ht.2 this w (by rw[qC] at hS;exact hS);rw[List.flatMap_cons,←List.append_assoc];exact h4
def zy.all (s:zy):List Nat:=s.dn.map (·.1)++nums s.td
theorem DU:∀(ts:List XU),AX ops (ts.map (fun t=>nums t.ids))=true→(ts.map fun t=>(⟨[],t.ids,t.A⟩:zy)).Pairwise fun s t=>Ti ops s.all t.all
 | [],_=>.nil
 | t::ts,h=>by
  simp only[List.map_cons,AX,Bool.and_eq_true,List.all_eq_true] at h;refine List.pairwise_cons.2 ⟨fun s hs=>?_,DU ts h.2⟩;obtain⟨u,hu,rfl⟩:=List.mem_map.1 hs;have:=h.1 (nums u.ids) (List.mem_map.2 ⟨u,hu,rfl⟩);simp only[O8,List.all_eq_true] at this;intro i hi j hj;exact this i (by simpa[zy.all] using hi) j (by simpa[zy.all] using hj)
theorem wH {Y:Type} {Pre:aC} {ok:Y→Value→Prop} {Post:Y→aC} {F:Value→List Value} {a0:Act} {i:Nat} {js:List Nat} {o:Oper} (ho:ops[i]?=some o) (hs:∀cs b,o.op≠.select cs b)
 (hd:iR P ops W o a0 Pre (fun v=>ex fun y:Y=>sep (fact (ok y v)) (Post y))) (hpl:js.all (nX ops)=true) (hF:∀y v,ok y v→xY P ops (a0.put (aS ops i) v) js (F v)):
 zO P ops W a0 (tailA Pre ok Post F) [] [(i,js)]:=by
 refine⟨⟨o,ho,hs,?_⟩,fun y hy=>(by cases hy),fun j hj=>List.all_eq_true.1 hpl j hj,fun v w B h=>?_,fun _ _ _=>trivial⟩
 ·refine⟨hd.1,fun w A hS=>?_⟩
  have conv:∀(v:Value) (w':World),Sat W w' (sep (ex fun y:Y=>sep (fact (ok y v)) (Post y)) A)→Sat W w' (sep (tailA Pre ok Post F ([]++[v])) A):=fun v w' h=>by
   rw[List.nil_append,tailA,fK,Sat.ex];rw[fK,Sat.ex] at h;obtain⟨y,h⟩:=h;refine⟨y,?_⟩;rw[aj] at h ⊢;obtain⟨h1,h2⟩:=Sat.fact.1 h;exact Sat.fact.2 ⟨⟨h1,rfl⟩,h2⟩
  rcases hd.2 w A hS with ⟨v,w',h1,h2⟩|⟨f,args,w1,h1,h2⟩
  ·exact .inl ⟨v,w',h1,conv v w' h2⟩
  ·refine .inr ⟨f,args,w1,h1,h2.mono ?_⟩
   rintro e w' ⟨v,rfl,h3⟩;exact⟨v,rfl,conv v w' h3⟩
 ·have h':Sat W w (sep (tailA Pre ok Post F [v]) B):=h
  rw[tailA,fK,Sat.ex] at h';obtain⟨y,h'⟩:=h';rw[aj] at h';obtain⟨⟨hok,-⟩,h2⟩:=Sat.fact.1 h';have hp:=hF y v hok;refine⟨F v,hp,?_⟩;show Sat W w (sep (tailA Pre ok Post F (v::F v)) B);rw[tailA,fK,Sat.ex];refine⟨y,?_⟩;rw[aj];exact Sat.fact.2 ⟨⟨hok,by rw[List.take_length]⟩,h2⟩
theorem wW {Y:Type} {Pre:aC} {ok:Y→Value→Prop} {Post:Y→aC} {F:Value→List Value} {A:aC} {w:World} {i:Nat} {js:List Nat} {dn:List (Nat×Value)} (hdn:dn.map (·.1)=i::js) (hl:∀v,(F v).length=js.length)
 (h:Sat W w (sep (tailA Pre ok Post F (dn.map (·.2))) A)):∃(v:Value) (y:Y),dn=(i,v)::js.zip (F v)∧ok y v∧Sat W w (sep (Post y) A):=by
 cases dn with
 | nil=>simp at hdn
 | cons x dn=>
  obtain⟨k,v⟩:=x;simp only[List.map_cons,List.cons.injEq] at hdn h;obtain⟨rfl,hj⟩:=hdn;rw[tailA,fK,Sat.ex] at h;obtain⟨y,h⟩:=h;rw[aj] at h;obtain⟨⟨h1,h2⟩,h3⟩:=Sat.fact.1 h;refine⟨v,y,?_,h1,h3⟩;have hlen:(dn.map (·.2)).length=(F v).length:=by rw[hl,←hj];simp
  rw[hlen,List.take_length] at h2;rw[←h2,←hj];congr 1;clear h2 hlen h h3 hj
  induction dn with
  | nil=>rfl
  | cons z dn ih=>simp[←ih]
end
end PA
namespace PA
open Go Go.RowKit
section
variable {P:Program} {ops:Array Oper} {Q:Exit→Act→World→Prop} {S:World→Prop} {W:World}
theorem xE {o:Oper} {a:Act} {Pre:aC} {Post:Value→aC} (hg:Region.wanted o (yielded ops a.tmps)=true) (f:FuncId) (args:Array Value) (hr:∀w,(execOp a.eval o).run P w=.ok (.enter f args) w)
 (hc:∀(w:World) (A:aC),Sat W w (sep Pre A)→Calls P f args w fun e w'=>∃v,e=.returned v∧Sat W w' (sep (Post v) A)):iR P ops W o a Pre Post:=
 ⟨hg,fun w A h=>.inr ⟨f,args,w,hr w,hc w A h⟩⟩
theorem yR {o:Oper} {a:Act} {ob:Obj} (hg:Region.wanted o (yielded ops a.tmps)=true) (hr:∀w,(execOp a.eval o).run P w=.ok (.value (.pointer (some ⟨w.heap.size,0,none⟩))) (w.alloc ob)):
 iR P ops W o a emp (fun v=>ex fun g:Nat=>sep (fact (v=.pointer (some ⟨g,0,none⟩))) (blk g ob)):=
 ⟨hg,fun w A h=>.inl ⟨_,_,hr w,by
  rw[iM] at h;rw[fK,Sat.ex];exact⟨w.heap.size,by rw[aj];exact Sat.fact.2 ⟨rfl,h.alloc ob⟩⟩⟩⟩
def LQ (Pre Mid Post:aC) (v1 v2:Value) (EF:List Value):List Value→aC
 | []=>Pre
 | [u]=>sep (fact (u=v1)) Mid
 | u::x::r=>sep (fact (u=v1∧x=v2∧r=EF.take r.length)) Post
theorem QM {Pre Mid Post:aC} {v1 v2:Value} {EF:List Value} {a0:Act} {i j:Nat} {js:List Nat} {oi oj:Oper} {di:Option Tmp} (hdi:aS ops i=di) (hoi:ops[i]?=some oi) (hsi:∀cs b,oi.op≠.select cs b) (hoj:ops[j]?=some oj) (hsj:∀cs b,oj.op≠.select cs b)
 (hb:((Region.before ops).getD j 0).testBit i=true) (h1:iR P ops W oi a0 Pre (fun v=>sep (fact (v=v1)) Mid)) (h2:iR P ops W oj (a0.put di v1) Mid (fun v=>sep (fact (v=v2)) Post))
 (hw2:∀v,Region.wanted oj (yielded ops (a0.put di v).tmps)=true) (hpl:js.all (nX ops)=true) (hF:xY P ops ((a0.put di v1).put (aS ops j) v2) js EF):
 zO P ops W a0 (LQ Pre Mid Post v1 v2 EF) [] [(i,[]),(j,js)]:=by
 subst hdi;refine⟨⟨oi,hoi,hsi,h1⟩,fun y hy=>?_,fun j hj=>(by cases hj),fun v w B h=>⟨[],trivial,h⟩,fun v us hus=>?_⟩
 ·rw[List.mem_singleton.1 hy];exact hb
 ·have aeg:us=[]:=List.eq_nil_of_length_eq_zero hus
  subst aeg;refine⟨⟨oj,hoj,hsj,hw2 v,fun w A hS=>?_⟩,fun y hy=>(by cases hy),fun k hk=>List.all_eq_true.1 hpl k hk,fun v' w B h=>?_,fun _ _ _=>trivial⟩
  ·have hS':Sat W w (sep (sep (fact (v=v1)) Mid) A):=hS
   rw[aj] at hS';obtain⟨rfl,hS2⟩:=Sat.fact.1 hS';have conv:∀(v':Value) (w':World),Sat W w' (sep (sep (fact (v'=v2)) Post) A)→Sat W w' (sep (LQ Pre Mid Post v v2 EF ([v]++[v'])) A):=fun v' w' h=>by
    show Sat W w' (sep (sep (fact (v=v∧v'=v2∧[]=EF.take ([]:List Value).length)) Post) A);rw[aj] at h ⊢;obtain⟨h1,h2⟩:=Sat.fact.1 h;exact Sat.fact.2 ⟨⟨rfl,h1,by simp⟩,h2⟩
   rcases h2.2 w A hS2 with ⟨v',w',h3,h4⟩|⟨f,args,w1,h3,h4⟩
   ·exact .inl ⟨v',w',h3,conv v' w' h4⟩
   ·refine .inr ⟨f,args,w1,h3,h4.mono ?_⟩
    rintro e w' ⟨v',rfl,h5⟩;exact⟨v',rfl,conv v' w' h5⟩
  ·have h':Sat W w (sep (sep (fact (v=v1∧v'=v2∧[]=EF.take ([]:List Value).length)) Post) B):=h
   rw[aj] at h';obtain⟨⟨rfl,rfl,-⟩,h3⟩:=Sat.fact.1 h';refine⟨EF,hF,?_⟩;show Sat W w (sep (sep (fact (v=v∧v'=v'∧EF=EF.take EF.length)) Post) B);rw[aj];exact Sat.fact.2 ⟨⟨rfl,rfl,by rw[List.take_length]⟩,h3⟩
theorem RD {Pre Mid Post:aC} {v1 v2:Value} {EF:List Value} {A:aC} {w:World} {i j:Nat} {js:List Nat} {dn:List (Nat×Value)} (hdn:dn.map (·.1)=i::j::js) (hl:EF.length=js.length)
 (h:Sat W w (sep (LQ Pre Mid Post v1 v2 EF (dn.map (·.2))) A)):dn=(i,v1)::(j,v2)::js.zip EF∧Sat W w (sep Post A):=by
 match dn,hdn with
 | (i',u)::(j',x)::dn,hdn=>
  simp only[List.map_cons,List.cons.injEq] at hdn;obtain⟨rfl,rfl,hj⟩:=hdn;have h':Sat W w (sep (sep (fact (u=v1∧x=v2∧dn.map (·.2)=EF.take (dn.map (·.2)).length)) Post) A):=h;rw[aj] at h';obtain⟨⟨rfl,rfl,h2⟩,h3⟩:=Sat.fact.1 h';refine⟨?_,h3⟩;have hlen:(dn.map (·.2)).length=EF.length:=by rw[hl,←hj];simp
  rw[hlen,List.take_length] at h2;rw[←h2,←hj];congr 1;congr 1;clear h2 hlen h h' h3 hj hl
  induction dn with
  | nil=>rfl
  | cons z dn ih=>simp[←ih]
end
end PA
namespace PA
section
variable {α:Type}
def Es (f:Nat→α) (i j:Nat):Nat→α:=fun k=>if k=i then f j else if k=j then f i else f k
inductive Sw (a b:Nat) (f:Nat→α):(Nat→α)→Prop where
 | refl:Sw a b f f
 | step (g:Nat→α) (i j:Nat):Sw a b f g→a≤i→i<b→a≤j→j<b→Sw a b f (Es g i j)
theorem Sw.trans {a b:Nat} {f g h:Nat→α} (h1:Sw a b f g) (h2:Sw a b g h):Sw a b f h:=by
 induction h2 with
 | refl=>exact h1
 | step g' i j _ p1 p2 p3 p4 ih=>exact .step g' i j ih p1 p2 p3 p4
theorem Sw.mono {a b a' b':Nat} {f g:Nat→α} (h1:a'≤a) (h2:b≤b') (h:Sw a b f g):Sw a' b' f g:=by
 induction h with
 | refl=>exact .refl
 | step g' i j _ p1 p2 p3 p4 ih=>exact .step g' i j ih (by omega) (by omega) (by omega) (by omega)
theorem Sw.out {a b:Nat} {f g:Nat→α} (h:Sw a b f g) {k:Nat} (hk:k<a∨b≤k):g k=f k:=by
 induction h with
 | refl=>rfl
 | step g' i j _ p1 p2 p3 p4 ih=>
  unfold Es;rw[if_neg (by omega),if_neg (by omega)];exact ih
theorem Sw.at {a b:Nat} {f g:Nat→α} (h:Sw a b f g):∀k,a≤k→k<b→∃j,a≤j∧j<b∧g k=f j:=by
 induction h with
 | refl=>exact fun k h1 h2=>⟨k,h1,h2,rfl⟩
 | step g' i j _ p1 p2 p3 p4 ih=>
  intro k h1 h2;unfold Es;split
  ·exact ih j p3 p4
  ·split
   ·exact ih i p1 p2
   ·exact ih k h1 h2
def RV (f:Nat→α) (a b:Nat):Nat→Nat→α
 | 0=>f
 | n+1=>Es (RV f a b n) (a+n) (b+n)
theorem Em (f:Nat→α) (a b:Nat):∀n,a+n≤b→∀k,RV f a b n k=if a≤k∧k<a+n then f (b+(k-a)) else if b≤k∧k<b+n then f (a+(k-b)) else f k
 | 0,h,k=>by rw[RV,if_neg (by omega),if_neg (by omega)]
 | n+1,h,k=>by
  have ih:=Em f a b n (by omega);have e0:RV f a b (n+1) k=if k=a+n then RV f a b n (b+n) else if k=b+n then RV f a b n (a+n) else RV f a b n k:=rfl
  rw[e0,ih k,ih (a+n),ih (b+n)]
  (repeat' split)<;>first|rfl|(exfalso;omega)|(congr 1;omega)
theorem OO (f:Nat→α) (a b lo hi:Nat) (h1:lo≤a) (h2:lo≤b):∀n,a+n≤hi→b+n≤hi→Sw lo hi f (RV f a b n)
 | 0,_,_=>.refl
 | n+1,h3,h4=>.step _ _ _ (OO f a b lo hi h1 h2 n (by omega) (by omega)) (by omega) (by omega) (by omega) (by omega)
def VO (f:Nat→α) (a m b:Nat) (g:Nat→α):Prop:=(∀t,t<b-m→g (a+t)=f (m+t))∧(∀t,t<m-a→g (a+(b-m)+t)=f (a+t))∧∀k,k<a∨b≤k→g k=f k
structure MV (f:Nat→α) (a m b i j:Nat) (g:Nat→α):Prop where
 hi:i≤m-a
 hj:j≤b-m
 ok:∀T:Nat→α,VO f a m b T→(∀k,k<m-i∨m+j≤k→g k=T k)∧(∀t,t<j→T (m-i+t)=g (m+t))∧(∀t,t<i→T (m-i+j+t)=g (m-i+t))
 sw:Sw a b f g
theorem MV.start (f:Nat→α) (a m b:Nat) (h1:a≤m) (h2:m≤b):MV f a m b (m-a) (b-m) f:=by
 refine⟨Nat.le_refl _,Nat.le_refl _,fun T hT=>⟨fun k hk=>(hT.2.2 k (by omega)).symm,fun t ht=>?_,fun t ht=>?_⟩,.refl⟩
 ·rw[←hT.1 t ht];congr 1;omega
 ·rw[show m-(m-a)+(b-m)+t=a+(b-m)+t by omega,hT.2.1 t ht];congr 1;omega
theorem MV.small {f g:Nat→α} {a m b i j:Nat} (h:MV f a m b i j g) (h1:a≤m) (h2:m≤b) (hij:i<j):MV f a m b i (j-i) (RV g (m-i) (m+j-i) i):=by
 have hi:=h.hi;have hj:=h.hj;have hs:=Em g (m-i) (m+j-i) i (by omega);refine⟨hi,by omega,fun T hT=>?_,h.sw.trans (OO g (m-i) (m+j-i) a b (by omega) (by omega) i (by omega) (by omega))⟩;obtain⟨o1,o2,o3⟩:=h.ok T hT;refine⟨fun k hk=>?_,fun t ht=>?_,fun t ht=>?_⟩
 ·rw[hs k]
  by_cases e1:m+j-i≤k∧k<m+j-i+i
  ·rw[if_neg (by omega),if_pos e1,←o3 (k-(m+j-i)) (by omega)];congr 1;omega
  ·rw[if_neg (by omega),if_neg e1];exact o1 k (by omega)
 ·rw[hs (m+t),if_neg (by omega),if_neg (by omega)]
  exact o2 t (by omega)
 ·rw[hs,if_pos (by omega)]
  have:=o2 (j-i+t) (by omega);rw[show m-i+(j-i)+t=m-i+(j-i+t) by omega,this];congr 1;omega
theorem MV.done {f g:Nat→α} {a m b i:Nat} (h:MV f a m b i i g) (h1:a≤m) (h2:m≤b):VO f a m b (RV g (m-i) m i)∧Sw a b f (RV g (m-i) m i):=by
 have hi:=h.hi;have hj:=h.hj;have hs:=Em g (m-i) m i (by omega);refine⟨?_,h.sw.trans (OO g (m-i) m a b (by omega) (by omega) i (by omega) (by omega))⟩;have hex:∃T,VO f a m b T:=⟨fun k=>if k<a∨b≤k then f k else if k<a+(b-m) then f (m+(k-a)) else f (a+(k-(a+(b-m)))),fun t ht=>by
  simp only[];rw[if_neg (by omega),if_pos (by omega)];congr 1;omega,fun t ht=>by
  simp only[];rw[if_neg (by omega),if_neg (by omega)];congr 1;omega,fun k hk=>by simp only[];rw[if_pos hk]⟩
 obtain⟨T,hT⟩:=hex;obtain⟨o1,o2,o3⟩:=h.ok T hT;have e:RV g (m-i) m i=T:=by
  funext k;rw[hs k]
  by_cases e1:m-i≤k∧k<m-i+i
  ·rw[if_pos e1,←o2 (k-(m-i)) (by omega)];congr 1;omega
  ·rw[if_neg e1]
   by_cases e2:m≤k∧k<m+i
   ·rw[if_pos e2]
    have:=o3 (k-m) (by omega);rw[←this];congr 1;omega
   ·rw[if_neg e2];exact o1 k (by omega)
 rw[e];exact hT
variable (c:α→α→Int)
def sK (a b:Nat) (f:Nat→α):Prop:=∀i j,a≤i→i<j→j<b→c (f i) (f j)≤0
structure Total (c:α→α→Int):Prop where
 trans:∀x y z,c x y≤0→c y z≤0→c x z≤0
 flip:∀x y,c y x=-c x y
variable {c}
theorem sK.sub {a b a' b':Nat} {f:Nat→α} (h:sK c a b f) (h1:a≤a') (h2:b'≤b):sK c a' b' f:=fun i j p1 p2 p3=>h i j (by omega) p2 (by omega)
theorem sK.congr {a b:Nat} {f g:Nat→α} (h:sK c a b f) (e:∀k,a≤k→k<b→g k=f k):sK c a b g:=fun i j p1 p2 p3=>by rw[e i p1 (by omega),e j (by omega) p3];exact h i j p1 p2 p3
theorem sK.list {n:Nat} {f:Nat→α} (h:sK c 0 n f):((List.range n).map f).Pairwise fun x y=>c x y≤0:=by
 rw[List.pairwise_map];refine List.Pairwise.imp_of_mem (R:=fun i j=>i<j) ?_ List.pairwise_lt_range;intro i j _ hj hij;exact h i j (by omega) hij (by simpa using hj)
theorem Uo {a j b:Nat} {f:Nat→α} (hT:Total c) (h1:sK c a j f) (h2:sK c j b f) (h3:∀p q,a≤p→p<j→j<q→q<b→c (f p) (f q)≤0) (hj:j=a∨0≤c (f j) (f (j-1))) (hab:a≤j) (hjb:j<b):sK c a b f:=by
 intro p q hp hpq hq;rcases Nat.lt_or_ge q j with e|e
 ·exact h1 p q hp hpq e
 ·rcases Nat.lt_or_ge p j with e2|e2
  ·rcases Nat.lt_or_ge j q with e3|e3
   ·exact h3 p q hp e2 e3 hq
   ·obtain rfl:q=j:=by omega
    rcases hj with e4|e4
    ·omega
    ·have hlast:c (f (q-1)) (f q)≤0:=by have:=hT.flip (f (q-1)) (f q);omega
     rcases Nat.lt_or_ge p (q-1) with e5|e5
     ·exact hT.trans _ _ _ (h1 p (q-1) hp e5 (by omega)) hlast
     ·obtain rfl:p=q-1:=by omega
      exact hlast
  ·exact h2 p q e2 hpq hq
structure MS (c:α→α→Int) (a i j:Nat) (f:Nat→α):Prop where
 lo:sK c a j f
 hi:sK c j (i+1) f
 ac:∀p q,a≤p→p<j→j<q→q<i+1→c (f p) (f q)≤0
theorem MS.start {a i:Nat} {f:Nat→α} (h:sK c a i f):MS c a i i f:=⟨h,fun p q p1 p2 p3=>by omega,fun p q p1 p2 p3 p4=>by omega⟩
theorem MS.step {a i j:Nat} {f:Nat→α} (h:MS c a i j f) (h1:a<j) (h2:j≤i) (hlt:c (f j) (f (j-1))<0):MS c a i (j-1) (Es f j (j-1)):=by
 have e1:∀k,k<j-1→Es f j (j-1) k=f k:=fun k hk=>by unfold Es;rw[if_neg (by omega),if_neg (by omega)]
 have e2:Es f j (j-1) (j-1)=f j:=by unfold Es;rw[if_neg (by omega),if_pos rfl]
 have e3:Es f j (j-1) j=f (j-1):=by unfold Es;rw[if_pos rfl]
 have e4:∀k,j<k→Es f j (j-1) k=f k:=fun k hk=>by unfold Es;rw[if_neg (by omega),if_neg (by omega)]
 refine⟨fun p q p1 p2 p3=>?_,fun p q p1 p2 p3=>?_,fun p q p1 p2 p3 p4=>?_⟩
 ·rw[e1 p (by omega),e1 q (by omega)];exact h.lo p q p1 p2 (by omega)
 ·rcases Nat.lt_trichotomy p j with x|x|x
  ·obtain rfl:p=j-1:=by omega
   rw[e2];rcases Nat.lt_trichotomy q j with y|y|y
   ·omega
   ·subst y;rw[e3];omega
   ·rw[e4 q y];exact h.hi j q (Nat.le_refl _) y p3
  ·subst x
   rw[e3,e4 q p2];exact h.ac (p-1) q (by omega) (by omega) p2 p3
  ·rw[e4 p x,e4 q (by omega)];exact h.hi p q (by omega) p2 p3
 ·rw[e1 p (by omega)]
  rcases Nat.lt_trichotomy q j with y|y|y
  ·omega
  ·subst y;rw[e3];exact h.lo p (q-1) p1 (by omega) (by omega)
  ·rw[e4 q y];exact h.ac p q p1 (by omega) y p4
theorem MS.stop {a i j:Nat} {f:Nat→α} (hT:Total c) (h:MS c a i j f) (h1:a≤j) (h2:j≤i) (hj:j=a∨0≤c (f j) (f (j-1))):sK c a (i+1) f:=Uo hT h.lo h.hi h.ac hj h1 (by omega)
def DF (D:α→α→Prop) (n:Nat) (f:Nat→α):Prop:=∀i j,i<n→j<n→i≠j→D (f i) (f j)
theorem DF.sw1 {D:α→α→Prop} {n:Nat} {f:Nat→α} (h:DF D n f) {i j:Nat} (hi:i<n) (hj:j<n):DF D n (Es f i j):=by
 intro p q hp hq hne;unfold Es
 (repeat' split)<;>first|(exfalso;omega)|(apply h<;>omega)|skip
 all_goals (subst_vars;first|(exfalso;omega)|(apply h<;>omega))
theorem DF.sw {D:α→α→Prop} {n a b:Nat} {f g:Nat→α} (h:DF D n f) (hs:Sw a b f g) (hb:b≤n):DF D n g:=by
 induction hs with
 | refl=>exact h
 | step g' i j _ p1 p2 p3 p4 ih=>exact ih.sw1 (by omega) (by omega)
theorem Dp [Inhabited α] (l:List α):(List.range l.length).map (fun i=>l.getD i default)=l:=by
 apply List.ext_getElem
 ·simp
 ·intro i h1 h2
  simp[List.getElem?_eq_getElem h2]
end
end PA
namespace PA
section
variable {α:Type} {c:α→α→Int}
theorem VO.up {f g:Nat→α} {a k:Nat} (h:VO f a (a+1) (k+1) g) (hk:a≤k):VO f a (a+1) (k+2) (Es g k (k+1)):=by
 obtain⟨g1,g2,g3⟩:=h;have e2:g k=f a:=by have:=g2 0 (by omega);rw[show a+(k+1-(a+1))+0=k by omega] at this;exact this
 refine⟨fun t ht=>?_,fun t ht=>?_,fun x hx=>?_⟩
 ·unfold Es
  by_cases e:a+t=k
  ·rw[if_pos e,g3 (k+1) (.inr (Nat.le_refl _))];congr 1;omega
  ·rw[if_neg e,if_neg (by omega)];exact g1 t (by omega)
 ·unfold Es
  rw[if_neg (by omega),if_pos (by omega),e2];congr 1;omega
 ·unfold Es
  rw[if_neg (by omega),if_neg (by omega)];exact g3 x (by omega)
theorem VO.down {f g:Nat→α} {m k:Nat} (h:VO f k m (m+1) g) (h0:0<k) (hk:k≤m):VO f (k-1) m (m+1) (Es g k (k-1)):=by
 obtain⟨g1,g2,g3⟩:=h;have e2:g k=f m:=g1 0 (by omega);refine⟨fun t ht=>?_,fun t ht=>?_,fun x hx=>?_⟩
 ·unfold Es
  rw[if_neg (by omega),if_pos (by omega),e2];congr 1;omega
 ·unfold Es
  by_cases e:k-1+(m+1-m)+t=k
  ·rw[if_pos e,g3 (k-1) (.inl (by omega))];congr 1;omega
  ·rw[if_neg e,if_neg (by omega)]
   have:=g2 (t-1) (by omega);rw[show k+(m+1-m)+(t-1)=k-1+(m+1-m)+t by omega] at this;rw[this];congr 1;omega
 ·unfold Es
  rw[if_neg (by omega),if_neg (by omega)];exact g3 x (by omega)
structure Bs (c:α→α→Int) (lo hi i j:Nat) (f:Nat→α) (x:α):Prop where
 h1:lo≤i
 h2:i≤j
 h3:j≤hi
 lo:∀k,lo≤k→k<i→c (f k) x≤0
 up:∀k,j≤k→k<hi→0≤c (f k) x
theorem Bs.start {lo hi:Nat} (h:lo≤hi) (f:Nat→α) (x:α):Bs c lo hi lo hi f x:=⟨Nat.le_refl _,h,Nat.le_refl _,fun k p1 p2=>by omega,fun k p1 p2=>by omega⟩
theorem Bs.right {lo hi i j:Nat} {f:Nat→α} {x:α} (hT:Total c) (hs:sK c lo hi f) (h:Bs c lo hi i j f x) {m:Nat} (h1:i≤m) (h2:m<j) (hm:c (f m) x≤0):Bs c lo hi (m+1) j f x:=by
 refine⟨by have:=h.h1;omega,by omega,h.h3,fun k p1 p2=>?_,h.up⟩;rcases Nat.lt_or_ge k m with e|e
 ·exact hT.trans _ _ _ (hs k m p1 e (by have:=h.h3;omega)) hm
 ·obtain rfl:k=m:=by omega
  exact hm
theorem Bs.left {lo hi i j:Nat} {f:Nat→α} {x:α} (hT:Total c) (hs:sK c lo hi f) (h:Bs c lo hi i j f x) {m:Nat} (h1:i≤m) (h2:m<j) (hm:0≤c (f m) x):Bs c lo hi i m f x:=by
 refine⟨h.h1,h1,by have:=h.h3;omega,h.lo,fun k p1 p2=>?_⟩;rcases Nat.lt_or_ge m k with e|e
 ·have h3:=hs m k (by have:=h.h1;omega) e p2
  have h4:=hT.flip (f m) x;have h5:=hT.trans _ _ _ (show c x (f m)≤0 by omega) h3;have h6:=hT.flip (f k) x;omega
 ·obtain rfl:k=m:=by omega
  exact hm
end
end PA
namespace PA
open Go Go.RowKit
section
variable {P:Program} {W w:World} {A:aC}
theorem oV (s:ByteArray):Lib.strCells s=s.data.toList.map bv:=rfl
theorem wV (t u ty E:Nat) (i:TypeInfo) (ht:P.underlying t=some (.slice E)) (hu:P.underlying u=some .string) (hi:P.info? E=some i) (hz:i.zero=some (.int .u8 0))
 (hk:i.size=1) (hb:i.bytes=1) {a:Option Addr} {n c:Nat} {xs:List Value} (h:Sat W w (sep (aT E 1 a n c xs) A)) (s:ByteArray) (h63:n+s.size≤140737488355328):
 ∃a' c' w',(Builtin.append_ #[t,u] ty #[.slice a n c,.string s]).run P w=.ok (.slice a' (n+s.size) c') w'∧Sat W w' (sep (aT E 1 a' (n+s.size) c' (xs++s.data.toList.map bv)) A):=by
 have hsl:(s.data.toList.map bv).length=s.size:=by simp
 have hmx:n+s.size≤maxLen:=by unfold maxLen;omega
 rcases h.gJ with ⟨rfl,rfl,rfl,rfl,h0⟩|⟨g,cur,rfl,hlen,hnc,hcm,hcs,htake,hS⟩
 ·by_cases hm:s.size=0
  ·have hn:s.data.toList.map bv=[]:=List.eq_nil_of_length_eq_zero (by rw[hsl];exact hm)
   refine⟨none,0,w,?_,by rw[hm,hn];exact h⟩;have hf:=Lib.run_firstCells_string (P:=P) w 1 s;rw[hm] at hf;simp[Builtin.append_,run_underlying ht,run_underlying hu,Go.sizeOf,typeInfo,hi,hk,Builtin.lenOf,hm,hf]
  ·have hr:=run_append_nil_string (P:=P) w t u ty E i (.int .u8 0) ht hu hi hz s (by omega) (by omega) (by rw[hb];omega)
   have e1:(s.data.map fun b=>Value.int .u8 b.toNat)=(s.data.toList.map bv).toArray:=by
    apply Array.ext';simp[bv]
   rw[e1] at hr;have hcap:=lu w s.size 0 E (by omega);refine⟨_,_,_,by rw[Nat.zero_add];exact hr,?_⟩;refine ((h0.drew.alloc _).kT (0+s.size) _ 1 ([]++s.data.toList.map bv) (by simp) (by omega) hcap.2 ?_ ?_)
   ·have hz1:(Value.int IntKind.u8 0).cells.size=1:=rfl
    simp only[Array.size_append,List.size_toArray,iT,hz1,hsl];omega
   ·simp
 ·simp only[Nat.mul_one] at hlen hcs htake
  by_cases hroom:n+s.size≤c
  ·have hr:=Lib.run_append_room_string (P:=P) w t u ty E i ht hu hi hk g n c cur hS.aO s hroom (by omega)
   refine⟨_,_,_,hr,(hS.setRow _).kT (n+s.size) c 1 _ (by rw[dF,hlen,hsl];omega) hroom hcm ?_ ?_⟩
   ·simp only[oV,List.size_toArray,dF,List.length_take,List.length_drop,Array.length_toList,hsl]
    omega
   ·rw[oV,htake]
    have hl2:(xs++s.data.toList.map bv).length=(n+s.size)*1:=by rw[dF,hlen,hsl];omega
    rw[←hl2];exact List.take_left
  ·have hr:=Lib.run_append_grow_string (P:=P) w t u ty E i (.int .u8 0) ht hu hi hz ⟨g,0,none⟩ n c xs (by rw[hk];omega) (fun j u hu=>by
    obtain⟨g',e,hc⟩:=h.DI (fun e=>by rw[e] at hu;simp at hu);cases e;have:=hc j u hu;unfold Addr.add;split
    ·rename_i e;subst e;exact this
    ·simpa using this) s (by omega) (by omega) (by rw[hb];exact growslice_fits (by omega) (by omega))
   have hcap:=lu w (n+s.size) c E hmx;refine⟨_,_,_,hr,((hS.forget.drew).alloc _).kT (n+s.size) _ 1 _ (by rw[dF,hlen,hsl];omega) hcap.1 hcap.2 ?_ ?_⟩
   ·have hz1:(Value.int IntKind.u8 0).cells.size=1:=rfl
    simp only[oV,Array.size_append,List.size_toArray,iT,hz1,hsl,hlen];omega
   ·have hl2:(xs++s.data.toList.map bv).length=(n+s.size)*1:=by rw[dF,hlen,hsl];omega
    rw[←hl2,oV];simp only[Array.toList_append,List.append_assoc];rw[←List.append_assoc];exact List.take_left
theorem wZ {ops:Array Oper} {rest:List Oper} {o:Oper} {ac:Act} {Q:Exit→Act→World→Prop} (hgd:o.guard=none) (sl y:Operand) (t u:TypeId)
 (ho:o.op=.call { callee:=.builtin .append,args:=#[sl,y],argTypes:=#[t,u] })
 (E:Nat) (ht:P.underlying t=some (.slice E)) (hu:P.underlying u=some .string) (hi:(P.info? E).map (fun i=>(i.zero,i.size,i.bytes))=some (some (.int .u8 0),1,1))
 {a:Option Addr} {n c:Nat} {xs:List Value} (hs:ac.eval sl=.slice a n c) (h:Sat W w (sep (aT E 1 a n c xs) A))
 (s:ByteArray) (hy:ac.eval y=.string s) (h63:n+s.size≤140737488355328)
 (hK:∀a' c' w',Sat W w' (sep (aT E 1 a' (n+s.size) c' (xs++s.data.toList.map bv)) A)→wpList P ops Q rest (ac.put o.dst (.slice a' (n+s.size) c')) w'):wpList P ops Q (o::rest) ac w:=by
 obtain⟨i,hi1,hi2,hi3,hi4⟩:=info_parts hi;obtain⟨a',c',w',hr,hS⟩:=wV t u o.type E i ht hu hi1 hi2 hi3 hi4 h s h63;refine wpList_plain hgd fun _ hk=>zo ?_ (hk _ _ (hK _ _ _ hS))
 simp only[execOp,ho,resolve,invoke,builtin];simp[hs,hy,hr]
end
end PA
namespace Go.Proofs.YthfmaclnccdcbaaGreatDoor
open Go.RowKit PA
theorem _root_.PA.IK {k:IntKind} {a b:Int} (h:a=b):Ending.returned (.int k a)=.returned (.int k b):=by rw[h]
def KpB (n B:Nat) (W W':World):Prop:=Below n W W'∧W'.cell? ⟨B,0,none⟩=W.cell? ⟨B,0,none⟩
theorem KpB.refl (n B:Nat) (W:World):KpB n B W W:=⟨Below.refl _ _,rfl⟩
theorem KpB.trans {n B:Nat} {W W' W'':World} (h:KpB n B W W') (k:KpB n B W' W''):KpB n B W W'':=⟨h.1.trans k.1,k.2.trans h.2⟩
attribute [local go_sem] Oper.semAt_some
end Go.Proofs.YthfmaclnccdcbaaGreatDoor
namespace Go.Proofs.YthfmaclnccdcbaaGreatDoor
open Go.RowKit PA
attribute [local go_sem] Oper.semAt_some
end Go.Proofs.YthfmaclnccdcbaaGreatDoor
namespace Go.Proofs.YthfmaclnccdcbaaGreatDoor
open Go.RowKit PA
attribute [local go_sem] Oper.semAt_some
end Go.Proofs.YthfmaclnccdcbaaGreatDoor
namespace Go.Proofs.YthfmaclnccdcbaaGreatDoor
open Go.RowKit PA
end Go.Proofs.YthfmaclnccdcbaaGreatDoor
namespace Go.Proofs.YthfmaclnccdcbaaGreatDoor
open Go.RowKit PA
end Go.Proofs.YthfmaclnccdcbaaGreatDoor
