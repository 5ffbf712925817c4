/- Part of a proof. -/
import Derived.Test.YtgicfogmdfdjmaaGreatDoorGTitleOwners12
namespace Go.Proofs.YtgicfogmdfdjmaaGreatDoor
open Go.RowKit PA
def kS:Nat:=20
theorem IU (w:World):(Go.sizeOf 87).run Tryz.prog w=.ok kS w:=by kernel_rfl
def bdStep (p:Array (Nat×Value)):Sem Value:=Instr.build 87 p
theorem KI (p:Array (Nat×Value)):Instr.build 87 p=bdStep p:=rfl
def bsStep (p:Array (Nat×Value)):Sem Value:=Instr.buildSlice 85 1 p
theorem yS (p:Array (Nat×Value)):Instr.buildSlice 85 1 p=bsStep p:=rfl
attribute [local go_sem ↓] aU KI yS
end Go.Proofs.YtgicfogmdfdjmaaGreatDoor
namespace Go.Proofs.YtgicfogmdfdjmaaGreatDoor
open Go.RowKit PA
attribute [local go_sem] Oper.semAt_some
attribute [local go_sem ↓] IU
end Go.Proofs.YtgicfogmdfdjmaaGreatDoor
namespace Go.Proofs.YtgicfogmdfdjmaaGreatDoor
open Go.RowKit PA
attribute [local go_sem] Oper.semAt_some
end Go.Proofs.YtgicfogmdfdjmaaGreatDoor
namespace Go.Proofs.YtgicfogmdfdjmaaGreatDoor
open Go.RowKit PA
attribute [local go_sem] Oper.semAt_some
attribute [local go_sem ↓] IU
def chS (st:(Int→Bool)×List Int) (s:Nat×Ac):(Int→Bool)×List Int:=if st.1 s.2.q=true then (fun k=>decide (k=s.2.p)||st.1 k,st.2++[(s.1:Int)]) else st
end Go.Proofs.YtgicfogmdfdjmaaGreatDoor
namespace Go.Proofs.YtgicfogmdfdjmaaGreatDoor
open Go PA
abbrev Stp:=Nat×Ac
def leadL (party:Int) (L:List Stp):(Int→Bool)×List Int:=L.foldr (fun s st=>chS st s) (fun k=>decide (k=party),[])
def leads (party:Int) (L:List Stp) (k:Int):Bool:=(leadL party L).1 k
def Eb (party:Int):List Stp→Prop
 | []=>True
 | s::B=>(s.2.q=party∨∃t∈B,t.2.p=s.2.q)∧Eb party B
theorem Eb.at {party:Int}:∀{C:List Stp},Eb party C→∀(k:Nat) (hk:k<C.length),C[k].2.q=party∨∃t∈C.drop (k+1),t.2.p=C[k].2.q
 | [],_,k,hk=>by simp at hk
 | s::B,h,0,_=>h.1
 | s::B,h,k+1,hk=>Eb.at h.2 k (by simpa using hk)
theorem Eb.last {party:Int}:∀{C:List Stp},Eb party C→∀(h0:0<C.length),(C[C.length-1]'(by omega)).2.q=party:=by
 intro C h h0
 rcases h.at (C.length-1) (by omega) with h1|⟨t,h1,-⟩
 ·exact h1
 ·rw[List.drop_eq_nil_of_le (by omega)] at h1;cases h1
def Fed (s:List Stp):Prop:=∀A t B,s=A++t::B→t.2.p=1∨∃a∈A,a.2.q=t.2.p
theorem Fed.snoc {s:List Stp} (h:Fed s) {t:Stp} (ht:t.2.p=1∨∃a∈s,a.2.q=t.2.p):Fed (s++[t]):=by
 intro A u B e
 rcases List.eq_nil_or_concat B with rfl|⟨B',z,rfl⟩
 ·obtain⟨rfl,h2⟩:=List.append_inj' e rfl
  cases h2
  exact ht
 ·have e2:s++[t]=(A++u::B')++[z]:=by rw[e];simp
  obtain⟨h1,-⟩:=List.append_inj' e2 rfl
  exact h A u B' h1
def Got (S:lC) (s:List Stp):Prop:=∀k,0<(aS S k).n→k=1∨∃t∈s,t.2.q=k
theorem Got.wk {S:lC} {s:List Stp} (h:Got S s) (t:Stp):Got S (s++[t]):=fun k hk=>by
 rcases h k hk with h1|⟨u,h1,h2⟩
 ·exact .inl h1
 ·exact .inr ⟨u,List.mem_append_left _ h1,h2⟩
end Go.Proofs.YtgicfogmdfdjmaaGreatDoor
namespace Go.Proofs.YtgicfogmdfdjmaaGreatDoor
open Go.RowKit PA
attribute [local go_sem ↓] aU
def oZ (S:lC) (n:Nat):List (Int×Rt):=jR S ((List.range n).map fun i:Nat=>(i:Int))
theorem KG (S:lC) (n:Nat):oZ S (n+1)=oZ S n++jR S [(n:Int)]:=by
 unfold oZ jR
 rw[List.range_succ,List.map_append,List.filterMap_append];rfl
theorem Rq {S:lC} {n:Nat} (h:∀k,(S k).isSome=true→0≤k∧k<n) {own:List (Int×Rt)} (ho:yE S own):own=oZ S n:=by
 refine ho.unique ⟨?_,fun p r=>?_⟩
 ·unfold oZ jR
  refine List.Pairwise.filterMap _ ?_ (show ((List.range n).map fun i:Nat=>(i:Int)).Pairwise (·<·) from List.pairwise_map.2 (List.pairwise_lt_range.imp fun h=>by omega))
  intro a a' hlt b hb b' hb'
  have e:∀(a:Int) (b:Int×Rt),(match S a with|some r=>if 0<r.n then some (a,r) else none|none=>none)=some b→b.1=a:=fun a b hb=>by
   cases e:S a with
   | none=>simp[e] at hb
   | some r=>simp only[e] at hb;split at hb<;>simp_all;rw[←hb]
  rw[e a b hb,e a' b' hb'];exact hlt
 ·unfold oZ jR
  rw[List.mem_filterMap]
  constructor
  ·rintro⟨a,ha,hm⟩
   cases e:S a with
   | none=>simp[e] at hm
   | some r'=>
    simp only[e] at hm
    split at hm
    ·rename_i hp
     cases hm
     exact⟨e,hp⟩
    ·cases hm
  ·rintro⟨e,hp⟩
   have hb:=h p (by rw[e];rfl)
   exact⟨p,List.mem_map.2 ⟨p.toNat,List.mem_range.2 (by omega),by omega⟩,by simp[e,hp]⟩
end Go.Proofs.YtgicfogmdfdjmaaGreatDoor
