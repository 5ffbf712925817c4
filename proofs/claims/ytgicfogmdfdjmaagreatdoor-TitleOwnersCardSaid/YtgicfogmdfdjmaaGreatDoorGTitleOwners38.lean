/- Part of a proof. -/
import Derived.Test.YtgicfogmdfdjmaaGreatDoorGTitleOwners37
import Derived.Test.YtgicfogmdfdjmaaGreatDoorGTitleOwners18
namespace PA
open Go Go.RowKit
section
variable {α:Type} (c:α→α→Int)
def jo (x:α) (l:List α):Nat→Nat
 | 0=>0
 | k+1=>match l[k]? with
  | some y=>if c x y<0 then jo x l k else k+1
  | none=>k+1
theorem ND (x:α) (l:List α):∀k,jo c x l k≤k
 | 0=>Nat.le_refl _
 | k+1=>by
  unfold jo
  split
  ·split
   ·have:=ND x l k;omega
   ·exact Nat.le_refl _
  ·exact Nat.le_refl _
def Gu (x:α) (l:List α):List α:=l.take (jo c x l l.length)++x::l.drop (jo c x l l.length)
def je (l:List α) (i:Nat):List α:=(l.take i).foldl (fun o x=>Gu c x o) []
def wu (l:List α):List α:=je c l l.length
theorem kU {l:List α} {i:Nat} {x:α} (h:l[i]?=some x):je c l (i+1)=Gu c x (je c l i):=by
 unfold je
 rw[List.take_add_one,h,List.foldl_append];rfl
theorem O9 (x:α) (l:List α):(Gu c x l).Perm (x::l):=by
 unfold Gu
 have h:=List.perm_middle (a:=x) (l₁:=l.take (jo c x l l.length)) (l₂:=l.drop (jo c x l l.length))
 rwa [List.take_append_drop] at h
theorem nG (l:List α):∀i,i≤l.length→(je c l i).Perm (l.take i)
 | 0,_=>by simp[je]
 | i+1,hi=>by
  have hx:l[i]?=some l[i]:=List.getElem?_eq_getElem (by omega)
  rw[kU c hx,List.take_add_one,hx]
  refine (O9 c _ _).trans ?_
  refine ((nG l i (by omega)).cons _).trans ?_
  exact (List.perm_append_singleton _ _).symm
theorem LQ (l:List α):(wu c l).Perm l:=by
 have:=nG c l l.length (Nat.le_refl _)
 rwa [List.take_length] at this
end
theorem BK (xs:List Ac) (k:Nat):bC xs=bC (xs.take k)++bC (xs.drop k):=by rw[←fZ,List.take_append_drop]
theorem VT {xs:List Ac} {k j:Nat} {u:Value} (h:(bC (xs.take k))[j]?=some u):(bC xs)[j]?=some u:=by
 rw[BK xs k,List.getElem?_append_left (List.getElem?_eq_some_iff.1 h).1];exact h
theorem VU {xs:List Ac} {k j:Nat} {u:Value} (hk:k≤xs.length) (h:(bC (xs.drop k))[j]?=some u):(bC xs)[k*19+j]?=some u:=by
 rw[BK xs k,List.getElem?_append_right (by rw[fC,List.length_take];omega),fC,List.length_take,Nat.min_eq_left hk,Nat.add_sub_cancel_left];exact h
def Pg:Nat→List Nat:=fun x=>if x=10 then [4,9] else []
def Dz (E k:Nat) (pre:List Value) (f:Nat→Option Value):aH:=match f 4 with|some v=>ex fun p:Option Addr×Nat=>sep (fact (v=.slice p.1 k p.2)) (aN E 19 p.1 k p.2 pre)|none=>emp
def yV (E:Nat) (new:List Value) (f:Nat→Option Value):aH:=match f 9 with|some v=>ex fun g:Nat=>sep (fact (v=.slice (some ⟨g,0,none⟩) 1 1)) (blk g (.cells new.toArray E (0,0)))|none=>emp
def Jk (E k:Nat) (pre new:List Value) (X:aH) (f:Nat→Option Value):aH:=
 match f 10 with
 | some v=>ex fun p:Option Addr×Nat=>sep (fact (v=.slice p.1 (k+1) p.2)) (sep (aN E 19 p.1 (k+1) p.2 (pre++new)) X)
 | none=>sep (Dz E k pre f) (sep (yV E new f) X)
theorem ku {E k:Nat} {pre new:List Value} {X:aH} {f:Nat→Option Value} (h:f 10=none):Jk E k pre new X f=sep (Dz E k pre f) (sep (yV E new f) X):=by unfold Jk;rw[h]
theorem xP {E k:Nat} {pre:List Value} {f:Nat→Option Value} (h:f 4=none):Dz E k pre f=emp:=by unfold Dz;rw[h]
theorem xQ {E:Nat} {new:List Value} {f:Nat→Option Value} (h:f 9=none):yV E new f=emp:=by unfold yV;rw[h]
theorem SQ {E k:Nat} {pre:List Value} {f:Nat→Option Value} {v:Value} {y:Nat} (h:y≠4):Dz E k pre (kL f y v)=Dz E k pre f:=by unfold Dz;rw[aV (Ne.symm h)]
theorem SS {E:Nat} {new:List Value} {f:Nat→Option Value} {v:Value} {y:Nat} (h:y≠9):yV E new (kL f y v)=yV E new f:=by unfold yV;rw[aV (Ne.symm h)]
theorem xR {W w:World} {E k:Nat} {pre:List Value} {f:Nat→Option Value} {v:Value} {R:aH} (h:f 4=some v):Sat W w (sep (Dz E k pre f) R)↔∃(a:Option Addr) (c:Nat),v=.slice a k c∧Sat W w (sep (aN E 19 a k c pre) R):=by
 unfold Dz;rw[h];simp only;rw[dG,Sat.ex]
 constructor
 ·rintro⟨⟨a,c⟩,h⟩;rw[aj] at h;exact⟨a,c,Sat.fact.1 h⟩
 ·rintro⟨a,c,h⟩;exact⟨(a,c),by rw[aj];exact Sat.fact.2 h⟩
theorem xU {W w:World} {E:Nat} {new:List Value} {f:Nat→Option Value} {v:Value} {R:aH} (h:f 9=some v):Sat W w (sep (yV E new f) R)↔∃g,v=.slice (some ⟨g,0,none⟩) 1 1∧Sat W w (sep (blk g (.cells new.toArray E (0,0))) R):=by
 unfold yV;rw[h];simp only;rw[dG,Sat.ex]
 constructor
 ·rintro⟨g,h⟩;rw[aj] at h;exact⟨g,Sat.fact.1 h⟩
 ·rintro⟨g,h⟩;exact⟨g,by rw[aj];exact Sat.fact.2 h⟩
theorem xW {W w:World} {E k:Nat} {pre new:List Value} {X:aH} {f:Nat→Option Value} {v:Value} (h:f 10=some v):Sat W w (Jk E k pre new X f)↔∃(a:Option Addr) (c:Nat),v=.slice a (k+1) c∧Sat W w (sep (aN E 19 a (k+1) c (pre++new)) X):=by
 unfold Jk;rw[h];simp only;rw[Sat.ex]
 constructor
 ·rintro⟨⟨a,c⟩,h⟩;exact⟨a,c,Sat.fact.1 h⟩
 ·rintro⟨a,c,h⟩;exact⟨(a,c),Sat.fact.2 h⟩
theorem SV {W w:World} {E k:Nat} {pre new:List Value} {X:aH} {f:Nat→Option Value} (h:Sat W w (Jk E k pre new X f)):Sat W w X:=by
 cases h10:f 10 with
 | some v=>
  obtain⟨a,c,-,h1⟩:=(xW h10).1 h
  exact h1.dh
 | none=>
  rw[ku h10] at h
  have h2:Sat W w (sep (yV E new f) X):=by
   cases h4:f 4 with
   | none=>rw[xP h4,bW] at h;exact h
   | some v=>obtain⟨a,c,-,h1⟩:=(xR h4).1 h;exact h1.dh
  cases h9:f 9 with
  | none=>rw[xQ h9,bW] at h2;exact h2
  | some v=>obtain⟨g,-,h1⟩:=(xU h9).1 h2;exact h1.forget
end PA
namespace Go.Proofs.YtgicfogmdfdjmaaGreatDoor
open Go.RowKit PA
def cP (p q:Ac×Pa):Int:=SK p.2 q.2
def slA (x:Value) (lo hi mx:Option Value):Sem Value:=Instr.slice 29 x lo hi mx
theorem Ph (x:Value) (lo hi mx:Option Value):Instr.slice 29 x lo hi mx=slA x lo hi mx:=rfl
theorem LU (a:Option Addr) (n c j:Nat) (hj:j≤c) (w:World):(slA (.slice a n c) none (some (.int .i64 (j:Int))) none).run Tryz.prog w=.ok (.slice a j c) w:=by
 have hu:=Tryz.underlying29
 unfold slA
 cases a with
 | none=>simp[Instr.slice,Instr.sliceBounds,Instr.sliceBound,go_sem];exact fun h=>absurd h (by omega)
 | some x=>simp[Instr.slice,Instr.sliceBounds,Instr.sliceBound,go_sem,Addr.add];exact fun h=>absurd h (by omega)
theorem LW (a:Option Addr) (n c j:Nat) (hj:j≤n):∃a',(∀w,(slA (.slice a n c) (some (.int .i64 (j:Int))) none none).run Tryz.prog w=.ok (.slice a' (n-j) (c-j)) w)∧(c≠j→a'=a.map (·.add (j*19))):=by
 have hu:=Tryz.underlying29
 unfold slA
 refine⟨if c=j then a else a.map (·.add (j*kA)),fun w=>?_,fun h=>by rw[if_neg h];rfl⟩
 simp[Instr.slice,Instr.sliceBounds,Instr.sliceBound,go_sem]
 rw[if_pos hj];rfl
end Go.Proofs.YtgicfogmdfdjmaaGreatDoor
