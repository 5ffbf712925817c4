/- Part of a proof. -/
import Derived.Test.YtgicfogmdfdjmaaGreatDoorGTitleHolds37
import Derived.Test.YtgicfogmdfdjmaaGreatDoorGTitleHolds15
namespace PA
open Go Go.RowKit
section
variable {α:Type} (c:α→α→Int)
def jH (x:α) (l:List α):Nat→Nat
 | 0=>0
 | k+1=>match l[k]? with
  | some y=>if c x y<0 then jH x l k else k+1
  | none=>k+1
theorem PK (x:α) (l:List α):∀k,jH c x l k≤k
 | 0=>Nat.le_refl _
 | k+1=>by
  unfold jH
  split
  ·split
   ·have:=PK x l k;omega
   ·exact Nat.le_refl _
  ·exact Nat.le_refl _
def IE (x:α) (l:List α):List α:=l.take (jH c x l l.length)++x::l.drop (jH c x l l.length)
def jw (l:List α) (i:Nat):List α:=(l.take i).foldl (fun o x=>IE c x o) []
def wX (l:List α):List α:=jw c l l.length
theorem lG {l:List α} {i:Nat} {x:α} (h:l[i]?=some x):jw c l (i+1)=IE c x (jw c l i):=by
 unfold jw
 rw[List.take_add_one,h,List.foldl_append];rfl
theorem Rn (x:α) (l:List α):(IE c x l).Perm (x::l):=by
 unfold IE
 have h:=List.perm_middle (a:=x) (l₁:=l.take (jH c x l l.length)) (l₂:=l.drop (jH c x l l.length))
 rwa [List.take_append_drop] at h
theorem oq (l:List α):∀i,i≤l.length→(jw c l i).Perm (l.take i)
 | 0,_=>by simp[jw]
 | i+1,hi=>by
  have hx:l[i]?=some l[i]:=List.getElem?_eq_getElem (by omega)
  rw[lG c hx,List.take_add_one,hx]
  refine (Rn c _ _).trans ?_
  refine ((oq l i (by omega)).cons _).trans ?_
  exact (List.perm_append_singleton _ _).symm
theorem Ol (l:List α):(wX c l).Perm l:=by
 have:=oq c l l.length (Nat.le_refl _)
 rwa [List.take_length] at this
end
theorem Dq (xs:List Ac) (k:Nat):bI xs=bI (xs.take k)++bI (xs.drop k):=by rw[←gG,List.take_append_drop]
theorem YO {xs:List Ac} {k j:Nat} {u:Value} (h:(bI (xs.take k))[j]?=some u):(bI xs)[j]?=some u:=by
 rw[Dq xs k,List.getElem?_append_left (List.getElem?_eq_some_iff.1 h).1];exact h
theorem YP {xs:List Ac} {k j:Nat} {u:Value} (hk:k≤xs.length) (h:(bI (xs.drop k))[j]?=some u):(bI xs)[k*19+j]?=some u:=by
 rw[Dq xs k,List.getElem?_append_right (by rw[fF,List.length_take];omega),fF,List.length_take,Nat.min_eq_left hk,Nat.add_sub_cancel_left];exact h
def Ro:Nat→List Nat:=fun x=>if x=10 then [4,9] else []
def EH (E k:Nat) (pre:List Value) (f:Nat→Option Value):aG:=match f 4 with|some v=>ex fun p:Option Addr×Nat=>sep (fact (v=.slice p.1 k p.2)) (aK E 19 p.1 k p.2 pre)|none=>emp
def zL (E:Nat) (new:List Value) (f:Nat→Option Value):aG:=match f 9 with|some v=>ex fun g:Nat=>sep (fact (v=.slice (some ⟨g,0,none⟩) 1 1)) (blk g (.cells new.toArray E (0,0)))|none=>emp
def KZ (E k:Nat) (pre new:List Value) (X:aG) (f:Nat→Option Value):aG:=
 match f 10 with
 | some v=>ex fun p:Option Addr×Nat=>sep (fact (v=.slice p.1 (k+1) p.2)) (sep (aK E 19 p.1 (k+1) p.2 (pre++new)) X)
 | none=>sep (EH E k pre f) (sep (zL E new f) X)
theorem kN {E k:Nat} {pre new:List Value} {X:aG} {f:Nat→Option Value} (h:f 10=none):KZ E k pre new X f=sep (EH E k pre f) (sep (zL E new f) X):=by unfold KZ;rw[h]
theorem yG {E k:Nat} {pre:List Value} {f:Nat→Option Value} (h:f 4=none):EH E k pre f=emp:=by unfold EH;rw[h]
theorem yH {E:Nat} {new:List Value} {f:Nat→Option Value} (h:f 9=none):zL E new f=emp:=by unfold zL;rw[h]
theorem VR {E k:Nat} {pre:List Value} {f:Nat→Option Value} {v:Value} {y:Nat} (h:y≠4):EH E k pre (lg f y v)=EH E k pre f:=by unfold EH;rw[aV (Ne.symm h)]
theorem VT {E:Nat} {new:List Value} {f:Nat→Option Value} {v:Value} {y:Nat} (h:y≠9):zL E new (lg f y v)=zL E new f:=by unfold zL;rw[aV (Ne.symm h)]
theorem yI {W w:World} {E k:Nat} {pre:List Value} {f:Nat→Option Value} {v:Value} {R:aG} (h:f 4=some v):Sat W w (sep (EH E k pre f) R)↔∃(a:Option Addr) (c:Nat),v=.slice a k c∧Sat W w (sep (aK E 19 a k c pre) R):=by
 unfold EH;rw[h];simp only;rw[dA,Sat.ex]
 constructor
 ·rintro⟨⟨a,c⟩,h⟩;rw[aj] at h;exact⟨a,c,Sat.fact.1 h⟩
 ·rintro⟨a,c,h⟩;exact⟨(a,c),by rw[aj];exact Sat.fact.2 h⟩
theorem yJ {W w:World} {E:Nat} {new:List Value} {f:Nat→Option Value} {v:Value} {R:aG} (h:f 9=some v):Sat W w (sep (zL E new f) R)↔∃g,v=.slice (some ⟨g,0,none⟩) 1 1∧Sat W w (sep (blk g (.cells new.toArray E (0,0))) R):=by
 unfold zL;rw[h];simp only;rw[dA,Sat.ex]
 constructor
 ·rintro⟨g,h⟩;rw[aj] at h;exact⟨g,Sat.fact.1 h⟩
 ·rintro⟨g,h⟩;exact⟨g,by rw[aj];exact Sat.fact.2 h⟩
theorem yK {W w:World} {E k:Nat} {pre new:List Value} {X:aG} {f:Nat→Option Value} {v:Value} (h:f 10=some v):Sat W w (KZ E k pre new X f)↔∃(a:Option Addr) (c:Nat),v=.slice a (k+1) c∧Sat W w (sep (aK E 19 a (k+1) c (pre++new)) X):=by
 unfold KZ;rw[h];simp only;rw[Sat.ex]
 constructor
 ·rintro⟨⟨a,c⟩,h⟩;exact⟨a,c,Sat.fact.1 h⟩
 ·rintro⟨a,c,h⟩;exact⟨(a,c),Sat.fact.2 h⟩
theorem VU {W w:World} {E k:Nat} {pre new:List Value} {X:aG} {f:Nat→Option Value} (h:Sat W w (KZ E k pre new X f)):Sat W w X:=by
 cases h10:f 10 with
 | some v=>
  obtain⟨a,c,-,h1⟩:=(yK h10).1 h
  exact h1.cO
 | none=>
  rw[kN h10] at h
  have h2:Sat W w (sep (zL E new f) X):=by
   cases h4:f 4 with
   | none=>rw[yG h4,bU] at h;exact h
   | some v=>obtain⟨a,c,-,h1⟩:=(yI h4).1 h;exact h1.cO
  cases h9:f 9 with
  | none=>rw[yH h9,bU] at h2;exact h2
  | some v=>obtain⟨g,-,h1⟩:=(yJ h9).1 h2;exact h1.forget
end PA
namespace Go.Proofs.YtgicfogmdfdjmaaGreatDoor
open Go.RowKit PA
def cP (p q:Ac×Pa):Int:=VO p.2 q.2
def slA (x:Value) (lo hi mx:Option Value):Sem Value:=Instr.slice 29 x lo hi mx
theorem Rq (x:Value) (lo hi mx:Option Value):Instr.slice 29 x lo hi mx=slA x lo hi mx:=rfl
theorem Om (a:Option Addr) (n c j:Nat) (hj:j≤c) (w:World):(slA (.slice a n c) none (some (.int .i64 (j:Int))) none).run Tryz.prog w=.ok (.slice a j c) w:=by
 have hu:=Tryz.underlying29
 unfold slA
 cases a with
 | none=>simp[Instr.slice,Instr.sliceBounds,Instr.sliceBound,go_sem];exact fun h=>absurd h (by omega)
 | some x=>simp[Instr.slice,Instr.sliceBounds,Instr.sliceBound,go_sem,Addr.add];exact fun h=>absurd h (by omega)
theorem Oo (a:Option Addr) (n c j:Nat) (hj:j≤n):∃a',(∀w,(slA (.slice a n c) (some (.int .i64 (j:Int))) none none).run Tryz.prog w=.ok (.slice a' (n-j) (c-j)) w)∧(c≠j→a'=a.map (·.add (j*19))):=by
 have hu:=Tryz.underlying29
 unfold slA
 refine⟨if c=j then a else a.map (·.add (j*kA)),fun w=>?_,fun h=>by rw[if_neg h];rfl⟩
 simp[Instr.slice,Instr.sliceBounds,Instr.sliceBound,go_sem]
 rw[if_pos hj];rfl
end Go.Proofs.YtgicfogmdfdjmaaGreatDoor
