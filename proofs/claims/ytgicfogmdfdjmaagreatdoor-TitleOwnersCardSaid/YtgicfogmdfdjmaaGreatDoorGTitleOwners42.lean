/- Part of a proof. -/
import Derived.Test.YtgicfogmdfdjmaaGreatDoorGTitleOwners41
import Derived.Test.YtgicfogmdfdjmaaGreatDoorGTitleOwners43
namespace Go.Proofs.YtgicfogmdfdjmaaGreatDoor
open Go.RowKit PA
attribute [local go_sem ↓] bP cO aU
end Go.Proofs.YtgicfogmdfdjmaaGreatDoor
namespace PA
open Go Go.RowKit
end PA
namespace Go.Proofs.YtgicfogmdfdjmaaGreatDoor
open Go.RowKit PA
attribute [local go_sem ↓] bP cO aU qZ
end Go.Proofs.YtgicfogmdfdjmaaGreatDoor
namespace Go.Proofs.YtgicfogmdfdjmaaGreatDoor
open Go.RowKit PA
attribute [local go_sem ↓] bP cO aU
end Go.Proofs.YtgicfogmdfdjmaaGreatDoor
namespace PA
open Go Go.RowKit
end PA
namespace Go.Proofs.YtgicfogmdfdjmaaGreatDoor
open Go.RowKit PA
theorem Tj (w:World):(Instr.build 67 #[(0,.int .i64 10),(3,.int .i64 7),(1,.int .i64 40000)]).run Tryz.prog w=.ok (.agg #[.int .i64 10,.int .i64 40000,.int .i64 0,.int .i64 7,.int .i64 0,.int .i64 0,.int .i64 0,.int .i64 0,.int .i64 0,.int .i64 0,.int .i64 0,.slice none 0 0,.slice none 0 0,.slice none 0 0,.slice none 0 0,.int .i64 0,.int .i64 0,.slice none 0 0,.slice none 0 0]) w:=by kernel_rfl
attribute [local go_sem ↓] bP cO aU Tj
end Go.Proofs.YtgicfogmdfdjmaaGreatDoor
namespace PA
open Go Go.RowKit
section
variable {α:Type} {c:α→α→Int}
theorem EF (x:α) (l:List α):∀k,k≤l.length→(∀(i:Nat) (h:i<l.length),jo c x l k≤i→i<k→c x l[i]<0)∧(jo c x l k=0∨∃(h:jo c x l k-1<l.length),¬c x l[jo c x l k-1]<0)
 | 0,_=>⟨fun i h h1 h2=>by omega,.inl rfl⟩
 | k+1,hk=>by
  have hkl:k<l.length:=by omega
  have hx:l[k]?=some l[k]:=List.getElem?_eq_getElem hkl
  by_cases hc:c x l[k]<0
  ·have e:jo c x l (k+1)=jo c x l k:=by rw[jo,hx];simp only;rw[if_pos hc]
   obtain⟨h1,h2⟩:=EF x l k (by omega)
   rw[e]
   refine⟨fun i h h3 h4=>?_,h2⟩
   by_cases e2:i=k
   ·subst e2;exact hc
   ·exact h1 i h h3 (by omega)
  ·have e:jo c x l (k+1)=k+1:=by rw[jo,hx];simp only;rw[if_neg hc]
   rw[e]
   exact⟨fun i h h3 h4=>by omega,.inr ⟨by simpa using hkl,by simpa using hc⟩⟩
theorem Tm (flip:∀x y:α,c y x=-c x y) (trans:∀x y z:α,c x y≤0→c y z≤0→c x z≤0) (x:α) (l:List α) (hl:l.Pairwise fun a b=>c a b≤0):(Gu c x l).Pairwise fun a b=>c a b≤0:=by
 obtain⟨h1,h2⟩:=EF (c:=c) x l l.length (Nat.le_refl _)
 have hle:=ND c x l l.length
 unfold Gu
 obtain⟨k,hk⟩:=aG (jo c x l l.length)
 rw[←hk] at h1 h2 hle ⊢
 have hpw:=List.pairwise_iff_getElem.1 hl
 have VY:∀(i:Nat) (h:i<l.length),i<k→c l[i] x≤0:=fun i h hik=>by
  rcases h2 with h0|⟨hj,hn⟩
  ·omega
  ·have e1:c l[k-1] x≤0:=by rw[flip x l[k-1]];omega
   by_cases e:i=k-1
   ·subst e;exact e1
   ·exact trans _ _ _ (hpw i (k-1) h hj (by omega)) e1
 refine List.pairwise_append.2 ⟨hl.sublist (List.take_sublist _ _),List.pairwise_cons.2 ⟨fun y hy=>?_,hl.sublist (List.drop_sublist _ _)⟩,fun a ha b hb=>?_⟩
 ·obtain⟨i,hi,rfl⟩:=List.mem_iff_getElem.1 hy
  rw[List.getElem_drop]
  have:=h1 (k+i) (by rw[List.length_drop] at hi;omega) (by omega) (by rw[List.length_drop] at hi;omega)
  omega
 ·obtain⟨i,hi,rfl⟩:=List.mem_iff_getElem.1 ha
  rw[List.length_take] at hi
  rw[List.getElem_take]
  rcases List.mem_cons.1 hb with rfl|hb
  ·exact VY i (by omega) (by omega)
  ·obtain⟨j,hj,rfl⟩:=List.mem_iff_getElem.1 hb
   rw[List.length_drop] at hj
   rw[List.getElem_drop]
   exact hpw i (k+j) (by omega) (by omega) (by omega)
theorem BN (flip:∀x y:α,c y x=-c x y) (trans:∀x y z:α,c x y≤0→c y z≤0→c x z≤0) (l:List α):∀i,i≤l.length→(je c l i).Pairwise fun a b=>c a b≤0
 | 0,_=>by simp[je]
 | i+1,hi=>by
  have hx:l[i]?=some l[i]:=List.getElem?_eq_getElem (by omega)
  rw[kU c hx]
  exact Tm flip trans _ _ (BN flip trans l i (by omega))
theorem BO {d:α→α→Int} (x:α) (l:List α) (h:∀y∈l,c x y<0↔d x y<0):∀k,jo c x l k=jo d x l k
 | 0=>rfl
 | k+1=>by
  unfold jo
  cases hx:l[k]? with
  | none=>rfl
  | some y=>
   simp only
   by_cases hc:c x y<0
   ·rw[if_pos hc,if_pos ((h y (List.mem_of_getElem? hx)).1 hc),BO x l h k]
   ·rw[if_neg hc,if_neg (fun hd=>hc ((h y (List.mem_of_getElem? hx)).2 hd))]
theorem wE {d:α→α→Int} (l:List α) (h:l.Pairwise fun x y=>(c y x<0↔d y x<0)):∀i,i≤l.length→je c l i=je d l i
 | 0,_=>by simp[je]
 | i+1,hi=>by
  have hx:l[i]?=some l[i]:=List.getElem?_eq_getElem (by omega)
  rw[kU c hx,kU d hx,wE l h i (by omega)]
  unfold Gu
  rw[BO]
  intro y hy
  have hm:=(nG d l i (by omega)).mem_iff.1 hy
  obtain⟨j,hj,rfl⟩:=List.mem_iff_getElem.1 hm
  rw[List.length_take] at hj
  rw[List.getElem_take]
  exact List.pairwise_iff_getElem.1 h j i (by omega) (by omega) (by omega)
end
end PA
namespace Go.Proofs.YtgicfogmdfdjmaaGreatDoor
open Go.RowKit PA
theorem cP_key {p q:Ac×Pa} {I:Mem} (hp:nT I p.1 p.2) (hq:nT I q.1 q.2) (h:fH p.1 q.1):cP p q=cmpK p.1 q.1:=by
 unfold cP
 rw[SN (by rw[←hp.d,←hq.d,←hp.n,←hq.n];exact h),←hp.d,←hq.d,←hp.n,←hq.n]
 unfold cmpK
 rcases h with h|h
 ·by_cases h1:p.1.d<q.1.d
  ·rw[if_pos h1,if_pos h1]
  ·rw[if_neg h1,if_neg h1,if_pos (by omega),if_pos (by omega)]
 ·by_cases h1:p.1.d<q.1.d
  ·rw[if_pos h1,if_pos h1]
  ·rw[if_neg h1,if_neg h1]
   by_cases h2:q.1.d<p.1.d
   ·rw[if_pos h2,if_pos h2]
   ·rw[if_neg h2,if_neg h2]
    by_cases h3:p.1.n<q.1.n
    ·rw[if_pos h3,if_pos h3]
    ·rw[if_neg h3,if_neg h3,if_pos (by omega)]
theorem Pj {I:Mem} {Ls:List (Ac×Pa)} (hA:∀p∈Ls,nT I p.1 p.2) (hk:(Ls.map (·.1)).Pairwise fH):Asc cmpK ((wu cP Ls).map (·.1))∧((wu cP Ls).map (·.1)).Perm (Ls.map (·.1)):=by
 refine⟨?_,(LQ cP Ls).map _⟩
 have hk2:Ls.Pairwise fun p q=>fH p.1 q.1:=List.pairwise_map.1 hk
 have e:wu cP Ls=wu (fun p q=>cmpK p.1 q.1) Ls:=by
  refine wE Ls ?_ Ls.length (Nat.le_refl _)
  refine List.pairwise_iff_getElem.2 fun i j hi hj hij=>?_
  rw[cP_key (hA _ (List.getElem_mem hj)) (hA _ (List.getElem_mem hi)) (List.pairwise_iff_getElem.1 hk2 i j hi hj hij).symm]
 rw[e]
 exact List.pairwise_map.2 (BN (c:=fun p q:Ac×Pa=>cmpK p.1 q.1) (fun x y=>wJ x.1 y.1) (fun x y z=>tH) Ls Ls.length (Nat.le_refl _))
end Go.Proofs.YtgicfogmdfdjmaaGreatDoor
