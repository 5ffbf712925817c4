/- Part of a proof. -/
import Derived.Test.YtgicfogmdfdjmaaGreatDoorGTitleHolds36
import Derived.Test.YtgicfogmdfdjmaaGreatDoorGTitleHolds40
import Derived.Test.YtgicfogmdfdjmaaGreatDoorGTitleHolds41
namespace PA
open Go Go.RowKit
section
variable {α:Type} {c:α→α→Int}
theorem F5 (x:α) (l:List α):∀k,k≤l.length→(∀(i:Nat) (h:i<l.length),jH c x l k≤i→i<k→c x l[i]<0)∧(jH c x l k=0∨∃(h:jH c x l k-1<l.length),¬c x l[jH c x l k-1]<0)
 | 0,_=>⟨fun i h h1 h2=>by omega,.inl rfl⟩
 | k+1,hk=>by
  have hkl:k<l.length:=by omega
  have hx:l[k]?=some l[k]:=List.getElem?_eq_getElem hkl
  by_cases hc:c x l[k]<0
  ·have e:jH c x l (k+1)=jH c x l k:=by rw[jH,hx];simp only;rw[if_pos hc]
   obtain⟨h1,h2⟩:=F5 x l k (by omega)
   rw[e]
   refine⟨fun i h h3 h4=>?_,h2⟩
   by_cases e2:i=k
   ·subst e2;exact hc
   ·exact h1 i h h3 (by omega)
  ·have e:jH c x l (k+1)=k+1:=by rw[jH,hx];simp only;rw[if_neg hc]
   rw[e]
   exact⟨fun i h h3 h4=>by omega,.inr ⟨by simpa using hkl,by simpa using hc⟩⟩
theorem V3 (flip:∀x y:α,c y x=-c x y) (trans:∀x y z:α,c x y≤0→c y z≤0→c x z≤0) (x:α) (l:List α) (hl:l.Pairwise fun a b=>c a b≤0):(IE c x l).Pairwise fun a b=>c a b≤0:=by
 obtain⟨h1,h2⟩:=F5 (c:=c) x l l.length (Nat.le_refl _)
 have hle:=PK c x l l.length
 unfold IE
 obtain⟨k,hk⟩:=aC (jH c x l l.length)
 rw[←hk] at h1 h2 hle ⊢
 have hpw:=List.pairwise_iff_getElem.1 hl
 have YS:∀(i:Nat) (h:i<l.length),i<k→c l[i] x≤0:=fun i h hik=>by
  rcases h2 with h0|⟨hj,hn⟩
  ·omega
  ·have e1:c l[k-1] x≤0:=by rw[flip x l[k-1]];omega
   by_cases e:i=k-1
   ·subst e;exact e1
   ·exact trans _ _ _ (hpw i (k-1) h hj (by omega)) e1
 refine List.pairwise_append.2 ⟨hl.sublist (List.take_sublist _ _),List.pairwise_cons.2 ⟨fun y hy=>?_,hl.sublist (List.drop_sublist _ _)⟩,fun a ha b hb=>?_⟩
 ·obtain⟨i,hi,rfl⟩:=List.mem_iff_getElem.1 hy
  rw[List.getElem_drop]
  have:=h1 (k+i) (by rw[List.length_drop] at hi;omega) (by omega) (by rw[List.length_drop] at hi;omega)
  omega
 ·obtain⟨i,hi,rfl⟩:=List.mem_iff_getElem.1 ha
  rw[List.length_take] at hi
  rw[List.getElem_take]
  rcases List.mem_cons.1 hb with rfl|hb
  ·exact YS i (by omega) (by omega)
  ·obtain⟨j,hj,rfl⟩:=List.mem_iff_getElem.1 hb
   rw[List.length_drop] at hj
   rw[List.getElem_drop]
   exact hpw i (k+j) (by omega) (by omega) (by omega)
theorem Du (flip:∀x y:α,c y x=-c x y) (trans:∀x y z:α,c x y≤0→c y z≤0→c x z≤0) (l:List α):∀i,i≤l.length→(jw c l i).Pairwise fun a b=>c a b≤0
 | 0,_=>by simp[jw]
 | i+1,hi=>by
  have hx:l[i]?=some l[i]:=List.getElem?_eq_getElem (by omega)
  rw[lG c hx]
  exact V3 flip trans _ _ (Du flip trans l i (by omega))
theorem Dv {d:α→α→Int} (x:α) (l:List α) (h:∀y∈l,c x y<0↔d x y<0):∀k,jH c x l k=jH d x l k
 | 0=>rfl
 | k+1=>by
  unfold jH
  cases hx:l[k]? with
  | none=>rfl
  | some y=>
   simp only
   by_cases hc:c x y<0
   ·rw[if_pos hc,if_pos ((h y (List.mem_of_getElem? hx)).1 hc),Dv x l h k]
   ·rw[if_neg hc,if_neg (fun hd=>hc ((h y (List.mem_of_getElem? hx)).2 hd))]
theorem xq {d:α→α→Int} (l:List α) (h:l.Pairwise fun x y=>(c y x<0↔d y x<0)):∀i,i≤l.length→jw c l i=jw d l i
 | 0,_=>by simp[jw]
 | i+1,hi=>by
  have hx:l[i]?=some l[i]:=List.getElem?_eq_getElem (by omega)
  rw[lG c hx,lG d hx,xq l h i (by omega)]
  unfold IE
  rw[Dv]
  intro y hy
  have hm:=(oq d l i (by omega)).mem_iff.1 hy
  obtain⟨j,hj,rfl⟩:=List.mem_iff_getElem.1 hm
  rw[List.length_take] at hj
  rw[List.getElem_take]
  exact List.pairwise_iff_getElem.1 h j i (by omega) (by omega) (by omega)
end
end PA
namespace Go.Proofs.YtgicfogmdfdjmaaGreatDoor
open Go.RowKit PA
theorem cP_key {p q:Ac×Pa} {I:Mem} (hp:oM I p.1 p.2) (hq:oM I q.1 q.2) (h:fD p.1 q.1):cP p q=cmpK p.1 q.1:=by
 unfold cP
 rw[VQ (by rw[←hp.d,←hq.d,←hp.n,←hq.n];exact h),←hp.d,←hq.d,←hp.n,←hq.n]
 unfold cmpK
 rcases h with h|h
 ·by_cases h1:p.1.d<q.1.d
  ·rw[if_pos h1,if_pos h1]
  ·rw[if_neg h1,if_neg h1,if_pos (by omega),if_pos (by omega)]
 ·by_cases h1:p.1.d<q.1.d
  ·rw[if_pos h1,if_pos h1]
  ·rw[if_neg h1,if_neg h1]
   by_cases h2:q.1.d<p.1.d
   ·rw[if_pos h2,if_pos h2]
   ·rw[if_neg h2,if_neg h2]
    by_cases h3:p.1.n<q.1.n
    ·rw[if_pos h3,if_pos h3]
    ·rw[if_neg h3,if_neg h3,if_pos (by omega)]
theorem Ru {I:Mem} {Ls:List (Ac×Pa)} (hA:∀p∈Ls,oM I p.1 p.2) (hk:(Ls.map (·.1)).Pairwise fD):Asc cmpK ((wX cP Ls).map (·.1))∧((wX cP Ls).map (·.1)).Perm (Ls.map (·.1)):=by
 refine⟨?_,(Ol cP Ls).map _⟩
 have hk2:Ls.Pairwise fun p q=>fD p.1 q.1:=List.pairwise_map.1 hk
 have e:wX cP Ls=wX (fun p q=>cmpK p.1 q.1) Ls:=by
  refine xq Ls ?_ Ls.length (Nat.le_refl _)
  refine List.pairwise_iff_getElem.2 fun i j hi hj hij=>?_
  rw[cP_key (hA _ (List.getElem_mem hj)) (hA _ (List.getElem_mem hi)) (List.pairwise_iff_getElem.1 hk2 i j hi hj hij).symm]
 rw[e]
 exact List.pairwise_map.2 (Du (c:=fun p q:Ac×Pa=>cmpK p.1 q.1) (fun x y=>xB x.1 y.1) (fun x y z=>uK) Ls Ls.length (Nat.le_refl _))
end Go.Proofs.YtgicfogmdfdjmaaGreatDoor
