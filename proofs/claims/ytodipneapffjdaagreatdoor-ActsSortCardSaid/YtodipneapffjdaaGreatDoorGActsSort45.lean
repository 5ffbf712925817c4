/- The program's Valid of the acts of the chapter's example: acts of kind 10. -/
import Derived.Test.YtodipneapffjdaaGreatDoorGActsSortSYo
namespace Go.Proofs.YtodipneapffjdaaGreatDoor
open Go.RowKit PA
theorem awithin_spec (n lo hi : Int) (w : World) : Calls Tryz.prog 43 #[.int .i64 n, .int .i64 lo, .int .i64 hi] w fun e w' => e = .returned (.bool (inRv n lo hi)) ∧ w = w' := by
  obtain ⟨r, hr⟩ : ∃ r, r = inRv n lo hi := ⟨_, rfl⟩
  rw [← hr]
  have HR := Lib.hid hr
  clear hr
  by_cases h1 : lo ≤ n
  · by_cases h2 : n ≤ hi
    · have HF : Hid (r = true) := Lib.hid (by rw [HR.out]; unfold inRv; rw [decide_eq_true h1, decide_eq_true h2]; rfl)
      go_enter Tryz.func43, Tryz.ntmps43
      go_wp2
      go_ret
      exact ⟨by rw [HF.out]; try rfl, rfl⟩
    · have HF : Hid (r = false) := Lib.hid (by rw [HR.out]; unfold inRv; rw [decide_eq_true h1, decide_eq_false h2]; rfl)
      go_enter Tryz.func43, Tryz.ntmps43
      go_wp2
      go_ret
      exact ⟨by rw [HF.out]; try rfl, rfl⟩
  · have HF : Hid (r = false) := Lib.hid (by rw [HR.out]; unfold inRv; rw [decide_eq_false h1]; rfl)
    go_enter Tryz.func43, Tryz.ntmps43
    go_wp2
    go_ret
    exact ⟨by rw [HF.out]; try rfl, rfl⟩
/-- has of Valid at kind 10: the file alone. -/
theorem has10_spec {W w : World} {A : Assn} (hW : FieldsOK W) (B : Nat) (f : Int) (bf : Bool) (hf : bf = ((bits BinOp.and IntKind.i64 1 f) != 0)) (h : Sat W w A) (hk : w.cell? ⟨B, 0, none⟩ = some (.int .i64 10)) :
    Calls Tryz.prog 45 #[.int .i64 f, .pointer (some ⟨B, 0, none⟩)] w fun e w' => e = .returned (.bool bf) ∧ w = w' := by
  have hc : w.cell? ⟨0, 10, none⟩ = some (.int .i64 1) := base_cellY h (hW 10 1 rfl)
  have HF := Lib.hid hf
  clear hf
  go_enter Tryz.func45, Tryz.ntmps45
  go_wp2
  go_ret
  exact ⟨by rw [HF.out]; try rfl, rfl⟩
attribute [local go_sem ↓] storeAt_act loadAt_act sizeAct
set_option maxRecDepth 100000 in
set_option maxHeartbeats 8000000 in
theorem formed10_spec {W w : World} {A : Assn} (z : Ac) (hk : z.k = 10) (h : Sat W w A) :
    Calls Tryz.prog 46 #[.agg z.cells.toArray] w fun e w' => e = .returned (.bool true) ∧ Sat W w' A := by
  have h1 := h.alloc (.cells z.cells.toArray 37)
  obtain ⟨B, hB⟩ : ∃ B, B = w.heap.size := ⟨_, rfl⟩
  obtain ⟨w1, hw1⟩ : ∃ y, y = w.alloc (.cells z.cells.toArray 37) := ⟨_, rfl⟩
  rw [← hB, ← hw1] at h1
  have HB := Lib.hid (And.intro hB hw1)
  have k0 := (act_fr h1 0 _ rfl).1
  have hk0 : w1.cell? ⟨B, 0, none⟩ = some (.int .i64 10) := by rw [← hk]; exact k0
  have hmf : ∀ (fn : Fn) (first cap : Array Value) (w : World), (Instr.makeFunc fn first cap).run Tryz.prog w = .ok (.func fn first cap) w := fun _ _ _ _ => rfl
  have H1 := Lib.hid h1.drop
  clear k0 h h1 hB hw1 hk
  go_enter Tryz.func46, Tryz.ntmps46
  go_upto_region 1 with (fail)
  rw [← HB.out.1, ← HB.out.2]
  go_wp2
  go_ret
  exact ⟨rfl, H1.out⟩
set_option maxRecDepth 100000 in
set_option maxHeartbeats 8000000 in
theorem valid10_spec {W w : World} {A : Assn} (hW : FieldsOK W) (z : Ac) (hk : z.k = 10) (hd : inRv z.d 0 131072 = true) (hn : inRv z.n 0 1099511627776 = true) (hf : inRv z.f 0 4095 = true) (h : Sat W w A) :
    Calls Tryz.prog 23 #[.agg z.cells.toArray] w fun e w' => e = .returned (.int .i64 (if bareM z = true then 0 else 1)) ∧ Sat W w' A := by
  have h1 := h.alloc (.cells z.cells.toArray 37)
  obtain ⟨B, hB⟩ : ∃ B, B = w.heap.size := ⟨_, rfl⟩
  obtain ⟨w1, hw1⟩ : ∃ y, y = w.alloc (.cells z.cells.toArray 37) := ⟨_, rfl⟩
  rw [← hB, ← hw1] at h1
  have HB := Lib.hid (And.intro hB hw1)
  have hk0 : w1.cell? ⟨B, 0, none⟩ = some (.int .i64 10) := by rw [← hk]; exact (act_fr h1 0 _ rfl).1
  have k1 := (act_fr h1 1 _ rfl).1
  have k2 := (act_fr h1 2 _ rfl).1
  have hld := ld_cs h1
  obtain ⟨bm, hbm⟩ : ∃ b, b = bareM z := ⟨_, rfl⟩
  have C1 := Lib.hid (fun w' => awithin_spec 10 0 21 w')
  have C2 : Hid (∀ w', Calls Tryz.prog 43 #[.int .i64 z.d, .int .i64 0, .int .i64 131072] w' fun e w'' => e = .returned (.bool true) ∧ w' = w'') := Lib.hid fun w' => by rw [← hd]; exact awithin_spec _ _ _ w'
  have C3 : Hid (∀ w', Calls Tryz.prog 43 #[.int .i64 z.n, .int .i64 0, .int .i64 1099511627776] w' fun e w'' => e = .returned (.bool true) ∧ w' = w'') := Lib.hid fun w' => by rw [← hn]; exact awithin_spec _ _ _ w'
  have C4 : Hid (∀ w', Calls Tryz.prog 43 #[.int .i64 z.f, .int .i64 0, .int .i64 4095] w' fun e w'' => e = .returned (.bool true) ∧ w' = w'') := Lib.hid fun w' => by rw [← hf]; exact awithin_spec _ _ _ w'
  have CB : Hid (∀ w' A', Sat W w' A' → Calls Tryz.prog 44 #[.agg z.cells.toArray] w' fun e w'' => e = .returned (.bool bm) ∧ Sat W w'' A') := Lib.hid fun w' A' h' => by rw [hbm]; exact bare_spec hW z (by omega) (by omega) h'
  have CF : Hid (∀ w' A', Sat W w' A' → Calls Tryz.prog 46 #[.agg z.cells.toArray] w' fun e w'' => e = .returned (.bool true) ∧ Sat W w'' A') := Lib.hid fun w' A' h' => formed10_spec z hk h'
  have HCL : Hid (∀ w', Sat W w' (sep (blk B (.cells z.cells.toArray 37 (0, 0))) A) → w'.cell? ⟨B, 0, none⟩ = some (.int .i64 10) ∧ w'.cell? ⟨B, 3, none⟩ = some (.int .i64 z.f) ∧ Sem.run Tryz.prog (ldAct (.pointer (some ⟨B, 0, none⟩))) w' = .ok (.agg z.cells.toArray) w') := Lib.hid fun w' h' => ⟨by rw [← hk]; exact (act_fr h' 0 _ rfl).1, (act_fr h' 3 _ rfl).1, ld_cs h'⟩
  have HH := Lib.hid (fun w' (f : Int) (bf : Bool) (hf' : bf = ((bits BinOp.and IntKind.i64 1 f) != 0)) (h' : Sat W w' (sep (blk B (.cells z.cells.toArray 37 (0, 0))) A)) => has10_spec hW B f bf hf' h' (HCL.out w' h').1)
  have H1 := Lib.hid h1
  rw [← hbm]
  have e10 : inRv 10 0 21 = true := rfl
  have hmf : ∀ (fn : Fn) (first cap : Array Value) (w : World), (Instr.makeFunc fn first cap).run Tryz.prog w = .ok (.func fn first cap) w := fun _ _ _ _ => rfl
  clear h h1 hB hw1 hbm hk hd hn hf
  go_enter Tryz.func23, Tryz.ntmps23
  go_upto_region 1 with (fail)
  rw [← HB.out.1, ← HB.out.2]
  go_wp2_with fail
  refine (C1.out _).mono ?_
  rintro e w2 ⟨rfl, rfl⟩
  rw [e10]
  go_wp2_with fail
  refine (C2.out _).mono ?_
  rintro e w2 ⟨rfl, rfl⟩
  go_wp2_with fail
  refine (C3.out _).mono ?_
  rintro e w2 ⟨rfl, rfl⟩
  go_wp2_with fail
  refine (CB.out _ _ H1.out).mono ?_
  rintro e w2 ⟨rfl, h2⟩
  have H2 := Lib.hid h2
  clear h2 hk0 k1 k2 hld H1 CB
  cases bm with
  | false =>
    go_wp2
    go_ret
    exact ⟨rfl, H2.out.drop⟩
  | true =>
    obtain ⟨hk0, k3, hld⟩ := HCL.out _ H2.out
    go_upto_region 4 with (fail)
    go_wp2_with fail
    refine (HH.out _ 1 true rfl H2.out).mono ?_
    rintro e w3 ⟨rfl, rfl⟩
    go_wp2_with fail
    refine (C4.out _).mono ?_
    rintro e w3 ⟨rfl, rfl⟩
    go_wp2_with fail
    refine (HH.out _ 2 false rfl H2.out).mono ?_
    rintro e w3 ⟨rfl, rfl⟩
    go_wp2_with fail
    refine (HH.out _ 4 false rfl H2.out).mono ?_
    rintro e w3 ⟨rfl, rfl⟩
    go_wp2_with fail
    refine (CF.out _ _ H2.out).mono ?_
    rintro e w3 ⟨rfl, h3⟩
    have H3 := Lib.hid h3.drop
    clear h3 hk0 k3 hld H2
    go_wp2
    go_ret
    exact ⟨rfl, H3.out⟩
end Go.Proofs.YtodipneapffjdaaGreatDoor
/- The program's Encode of acts of kind 10 without claims, and Compare of an act with itself. -/
namespace PA
open Go Go.RowKit
def nsZ (z : Ac) : List Int := [z.k, z.d, z.n, z.f, z.o, z.p, z.q, z.u, z.m, z.sn, z.sd]
def enc10 (z : Ac) : List UInt8 := ((nsZ z).map PA.encI).flatten
end PA
namespace Go.Proofs.YtodipneapffjdaaGreatDoor
open Go.RowKit PA
theorem newWrY {W w : World} {A : Assn} (h : Sat W w A) : Sat W (w.alloc (.cells #[.slice none 0 0] 74)) (sep (isWr w.heap.size []) A) :=
  isWr_mk (a := none) (n := 0) (c := 0) (bs := []) ((h.osl_nil 5 1).alloc (.cells #[.slice none 0 0] 74))
theorem wr_drop {W w : World} {A : Assn} {p : Nat} {bs : List UInt8} (h : Sat W w (sep (isWr p bs) A)) : Sat W w A := by
  obtain ⟨a, n, c, -, h1⟩ := isWr_open h
  exact h1.forget.forget_osl
attribute [local go_sem ↓] storeAt_act loadAt_act sizeAct buildSlice_i11
set_option maxRecDepth 100000 in
set_option maxHeartbeats 8000000 in
theorem aencode10_spec {W w : World} {A : Assn} (hW : FieldsOK W) (z : Ac) (hk : z.k = 10) (hd : inRv z.d 0 131072 = true) (hn : inRv z.n 0 1099511627776 = true) (hf : inRv z.f 0 4095 = true) (hb : bareM z = true) (hcl : z.cl.n = 0) (h64 : ∀ r ∈ nsZ z, -9223372036854775808 ≤ r ∧ r ≤ 9223372036854775807) (h : Sat W w A) :
    Calls Tryz.prog 21 #[.agg z.cells.toArray] w fun e w' => ∃ a c, e = .returned (.tuple #[.slice a (enc10 z).length c, .int .i64 0]) ∧ Sat W w' (sep (osl 5 1 a (enc10 z).length c ((enc10 z).map bv)) A) := by
  have h1 := h.alloc (.cells z.cells.toArray 37)
  obtain ⟨B, hB⟩ : ∃ B, B = w.heap.size := ⟨_, rfl⟩
  obtain ⟨w1, hw1⟩ : ∃ y, y = w.alloc (.cells z.cells.toArray 37) := ⟨_, rfl⟩
  rw [← hB, ← hw1] at h1
  have HB := Lib.hid (And.intro hB hw1)
  have hld := ld_cs h1
  have HV : Hid (∀ w' A', Sat W w' A' → Calls Tryz.prog 23 #[.agg z.cells.toArray] w' fun e w'' => e = .returned (.int .i64 0) ∧ Sat W w'' A') := Lib.hid fun w' A' h' => by
    have := valid10_spec hW z hk hd hn hf h'
    rwa [if_pos hb] at this
  obtain ⟨X, hX⟩ : ∃ X, X = sep (blk B (.cells z.cells.toArray 37 (0, 0))) A := ⟨_, rfl⟩
  have HX : Hid (∀ w', Sat W w' X → Sat W w' (sep (blk B (.cells z.cells.toArray 37 (0, 0))) A)) := Lib.hid fun w' h' => by rw [hX] at h'; exact h'
  rw [← hX] at h1
  have HXE := Lib.hid hX
  obtain ⟨L, hL⟩ : ∃ L, L = nsZ z := ⟨_, rfl⟩
  obtain ⟨V, hV⟩ : ∃ V : Nat → List UInt8, V = fun j => ((L.take j).map PA.encI).flatten := ⟨_, rfl⟩
  have hV0 : V 0 = [] := by rw [hV]; simp
  have hVs : ∀ j g, L[j]? = some g → V (j + 1) = V j ++ PA.encI g := fun j g hg => by rw [hV]; simp only; rw [take_flat hg]
  have hLl : L.length = 11 := by rw [hL]; rfl
  have hL64 : ∀ r ∈ L, -9223372036854775808 ≤ r ∧ r ≤ 9223372036854775807 := by rw [hL]; exact h64
  have hVl : ∀ j, (V j).length ≤ 10 * j := by
    intro j
    induction j with
    | zero => rw [hV0]; simp
    | succ j ih =>
      cases hg : L[j]? with
      | none => rw [hV] at ih ⊢; simp only at ih ⊢; rw [List.take_add_one, hg]; simp at ih ⊢; omega
      | some g =>
        rw [hVs j g hg, List.length_append]
        have := encI_le (hL64 g (List.mem_of_getElem? hg)).1 (hL64 g (List.mem_of_getElem? hg)).2
        omega
  obtain ⟨E, hE⟩ : ∃ E, E = enc10 z := ⟨_, rfl⟩
  have hVe : V 11 = E := by rw [hV, hE]; simp only; rw [← hLl, List.take_length, hL]; rfl
  have HVV := Lib.hid (And.intro hV0 (And.intro hVs (And.intro hVe hVl)))
  have HL := Lib.hid (And.intro hLl (And.intro hL hL64))
  have HK := Lib.hid (And.intro hk hcl)
  have H1 := Lib.hid h1
  rw [← hE]
  obtain ⟨Po, hPo⟩ : ∃ P : Ending → World → Prop, P = fun e w' => ∃ a c, e = .returned (.tuple #[.slice a E.length c, .int .i64 0]) ∧ Sat W w' (sep (osl 5 1 a E.length c (E.map bv)) A) := ⟨_, rfl⟩
  rw [← hPo]
  have HPO := Lib.hid hPo
  clear hk hd hn hf hb hcl h64 h h1 hB hw1 hX hL hV hV0 hVs hLl hL64 hVl hE hVe hPo
  go_enter Tryz.func21, Tryz.ntmps21
  go_upto_region 1 with (fail)
  rw [← HB.out.1, ← HB.out.2]
  go_wp2_with fail
  refine (HV.out _ _ H1.out).mono ?_
  rintro e w2 ⟨rfl, h2⟩
  have hw2 := newWrY h2
  obtain ⟨P, hP⟩ : ∃ P, P = w2.heap.size := ⟨_, rfl⟩
  obtain ⟨w3, hw3⟩ : ∃ y, y = w2.alloc (.cells #[.slice none 0 0] 74) := ⟨_, rfl⟩
  rw [← hP, ← hw3] at hw2
  have HPW := Lib.hid (And.intro hP hw3)
  have hp3 := HX.out _ (wr_drop hw2)
  have k0 := (act_fr hp3 0 _ rfl).1
  have k1 := (act_fr hp3 1 _ rfl).1
  have k2 := (act_fr hp3 2 _ rfl).1
  have k3 := (act_fr hp3 3 _ rfl).1
  have k4 := (act_fr hp3 4 _ rfl).1
  have k5 := (act_fr hp3 5 _ rfl).1
  have k6 := (act_fr hp3 6 _ rfl).1
  have k7 := (act_fr hp3 7 _ rfl).1
  have k8 := (act_fr hp3 8 _ rfl).1
  have k9 := (act_fr hp3 9 _ rfl).1
  have k10 := (act_fr hp3 10 _ rfl).1
  have hbs := bs_i11 w3 z.k z.d z.n z.f z.o z.p z.q z.u z.m z.sn z.sd
  have hA2 := hw2.alloc (.cells #[.int .i64 z.k, .int .i64 z.d, .int .i64 z.n, .int .i64 z.f, .int .i64 z.o, .int .i64 z.p, .int .i64 z.q, .int .i64 z.u, .int .i64 z.m, .int .i64 z.sn, .int .i64 z.sd] 3)
  obtain ⟨N, hN⟩ : ∃ N, N = w3.heap.size := ⟨_, rfl⟩
  obtain ⟨w4, hw4⟩ : ∃ y, y = w3.alloc (.cells #[.int .i64 z.k, .int .i64 z.d, .int .i64 z.n, .int .i64 z.f, .int .i64 z.o, .int .i64 z.p, .int .i64 z.q, .int .i64 z.u, .int .i64 z.m, .int .i64 z.sn, .int .i64 z.sd] 3) := ⟨_, rfl⟩
  rw [← hN, ← hw4] at hbs hA2
  obtain ⟨Y, hY⟩ : ∃ Y, Y = sep (blk N (.cells #[.int .i64 z.k, .int .i64 z.d, .int .i64 z.n, .int .i64 z.f, .int .i64 z.o, .int .i64 z.p, .int .i64 z.q, .int .i64 z.u, .int .i64 z.m, .int .i64 z.sn, .int .i64 z.sd] 3 (0, 0))) X := ⟨_, rfl⟩
  have HYC : Hid (∀ w', Sat W w' Y → Sat W w' X ∧ ∀ k r, L[k]? = some r → w'.cell? ⟨N, k, none⟩ = some (.int .i64 r)) := Lib.hid fun w' h' => by
    rw [hY] at h'
    refine ⟨h'.forget, fun k r hr => ?_⟩
    rw [h'.cell k]
    rw [HL.out.2.1, nsZ] at hr
    match k, hr with
    | 0, hr | 1, hr | 2, hr | 3, hr | 4, hr | 5, hr | 6, hr | 7, hr | 8, hr | 9, hr | 10, hr => simp at hr; subst hr; rfl
    | k + 11, hr => simp at hr
  have HYX : Hid (∀ w' Z, Sat W w' (sep Z Y) → Sat W w' (sep Z A)) := Lib.hid fun w' Z h' => by
    rw [hY, HXE.out] at h'
    have h9 : Sat W w' (sep (blk N (.cells #[.int .i64 z.k, .int .i64 z.d, .int .i64 z.n, .int .i64 z.f, .int .i64 z.o, .int .i64 z.p, .int .i64 z.q, .int .i64 z.u, .int .i64 z.m, .int .i64 z.sn, .int .i64 z.sd] 3 (0, 0))) (sep (blk B (.cells z.cells.toArray 37 (0, 0))) (sep Z A))) := by simpa only [sep_comm, sep_lcomm, sep_assoc] using h'
    exact h9.forget.forget
  have h5 : Sat W w4 (sep (isWr P []) Y) := by rw [hY]; simpa only [sep_comm, sep_lcomm, sep_assoc] using hA2
  have H5 := Lib.hid h5
  have HW4 := Lib.hid hw4
  clear h2 hw2 hP hw3 hp3 hA2 hN hw4 hY h5 H1 hld HV
  go_upto_region 4 with (fail)
  rw [← HPW.out.1, ← HPW.out.2]
  go_upto_block 0 with (fail)
  try rw [← HW4.out]
  clear hbs k0 k1 k2 k3 k4 k5 k6 k7 k8 k9 k10
  go_wp2_with fail
  go_loopw [44] (fun kv wr => ∃ (k : Nat), kv = .int .i64 k ∧ k ≤ 11 ∧ Sat W wr (sep (isWr P (V k)) Y)) (fun kv _ => 11 - (intOf kv).toNat)
  case atStart => exact ⟨0, rfl, by omega, by rw [HVV.out.1]; exact H5.out⟩
  case round =>
    obtain ⟨k, rfl, hk, hS⟩ := hrel
    clear H5
    by_cases hlt : k < 11
    · have hltz : (k : Int) < 11 := by omega
      obtain ⟨r, hr⟩ : ∃ r, L[k]? = some r := ⟨_, List.getElem?_eq_getElem (by have := HL.out.1; omega)⟩
      have j0 := (HYC.out _ (wr_drop hS)).2 k r hr
      have hr64 := HL.out.2.2 r (List.mem_of_getElem? hr)
      have hw := wint_spec P (V k) r hr64.1 hr64.2 hS (by have := HVV.out.2.2.2 k; omega)
      rw [← HVV.out.2.1 k r hr] at hw
      have HWI := Lib.hid hw
      have HK2 := Lib.hid hlt
      clear hr hr64 hw hlt hk hS
      go_wp2_with fail
      refine HWI.out.mono ?_
      rintro e w5 ⟨rfl, h6⟩
      have H6 := Lib.hid h6
      clear h6 HWI j0
      go_wp2_with fail
      go_roundw
      case rel => exact ⟨k + 1, by go_num, by have := HK2.out; omega, H6.out⟩
      case measure => simp [intOf]; have := HK2.out; omega
    · obtain rfl : k = 11 := by omega
      have hltz : ¬ ((11 : Nat) : Int) < 11 := by omega
      have hp := HX.out _ (HYC.out _ (wr_drop hS)).1
      have k0 : wr.cell? ⟨B, 0, none⟩ = some (.int .i64 10) := by rw [← HK.out.1]; exact (act_fr hp 0 _ rfl).1
      have k13 : wr.cell? ⟨B, 13, none⟩ = some (.slice z.cl.a 0 z.cl.c) := by rw [← HK.out.2]; exact (act_fr hp 13 _ rfl).1
      have hS2 := hS
      rw [HVV.out.2.2.1] at hS2
      have hEl : E.length ≤ 110 := by rw [← HVV.out.2.2.1]; exact HVV.out.2.2.2 11
      have hdn := wdone_spec P E hS2 (by omega)
      have HDN := Lib.hid hdn
      clear hS hS2 hdn hp hlt hk hEl
      go_wp2_with fail
      refine HDN.out.mono ?_
      rintro e w5 ⟨a5, c5, rfl, h6⟩
      have h7 : Sat W w5 (sep (isWr P E) (sep (osl 5 1 a5 E.length c5 (E.map bv)) Y)) := by simpa only [sep_comm, sep_lcomm, sep_assoc] using h6
      have h8 : Sat W w5 (sep (osl 5 1 a5 E.length c5 (E.map bv)) Y) := wr_drop h7
      have HF : Hid (Sat W w5 (sep (osl 5 1 a5 E.length c5 (E.map bv)) A)) := Lib.hid (by
        have := HYX.out _ _ h8
        exact this)
      clear h6 h7 h8 HDN k0 k13
      go_wp2
      rw [HPO.out]
      exact ⟨a5, c5, rfl, HF.out⟩
end Go.Proofs.YtodipneapffjdaaGreatDoor
/- The library's Compare of equal bytes; the program's Compare of an act with itself. -/
namespace Go.Proofs.YtodipneapffjdaaGreatDoor
open Go.RowKit PA
theorem isNaNByte_spec (x : Nat) (w : World) : Calls Tryz.prog 71 #[.int .u8 (x : Nat)] w fun e w' => e = .returned (.bool false) ∧ w = w' := by
  go_enter Tryz.func71, Tryz.ntmps71
  go_wp2
  go_ret
  exact ⟨rfl, rfl⟩
theorem cmpByte_self (x : Nat) (w : World) : Calls Tryz.prog 42 #[.int .u8 (x : Nat), .int .u8 (x : Nat)] w fun e w' => e = .returned (.int .i64 0) ∧ w = w' := by
  go_enter Tryz.func42, Tryz.ntmps42
  go_wp2_with fail
  refine (isNaNByte_spec x w).mono ?_
  rintro e w' ⟨rfl, rfl⟩
  go_wp2_with fail
  refine (isNaNByte_spec x w).mono ?_
  rintro e w' ⟨rfl, rfl⟩
  go_wp2
  go_ret
  exact ⟨rfl, rfl⟩
set_option maxHeartbeats 2000000 in
theorem cmpBytes_self {W w : World} {A : Assn} {I : Mem} (a b : Option Addr) (n c d : Nat) (bs : List UInt8) (ha : rBytes.rel I [.slice a n c] bs) (hb : rBytes.rel I [.slice b n d] bs) (h : Sat W w (sep (kn I) A)) :
    Calls Tryz.prog 22 #[.slice a n c, .slice b n d] w fun e w' => e = .returned (.int .i64 0) ∧ Sat W w' (sep (kn I) A) := by
  obtain ⟨hn, h63, ha'⟩ := byte_elem ha
  obtain ⟨-, -, hb'⟩ := byte_elem hb
  have HN := Lib.hid hn
  have HAB := Lib.hid (And.intro ha' hb')
  have H := Lib.hid h
  clear ha hb hn ha' hb' h
  go_enter Tryz.func22, Tryz.ntmps22
  go_wp2_with fail
  go_loopw [11] (fun kv wr => ∃ k : Nat, kv = .int .i64 k ∧ k ≤ n ∧ Sat W wr (sep (kn I) A)) (fun kv _ => n - (intOf kv).toNat)
  case atStart => exact ⟨0, rfl, by omega, H.out⟩
  case round =>
    obtain ⟨k, rfl, hk, hS⟩ := hrel
    clear H
    by_cases hlt : k < n
    · have hltz : (k : Int) < (n : Int) := by omega
      obtain ⟨u, hu⟩ : ∃ u, bs[k]? = some u := ⟨_, List.getElem?_eq_getElem (by have := HN.out; omega)⟩
      obtain ⟨b1, o1, rfl, hc1⟩ := HAB.out.1 k u hu
      obtain ⟨b2, o2, rfl, hc2⟩ := HAB.out.2 k u hu
      have j1 := hc1 wr hS.ext
      have j2 := hc2 wr hS.ext
      unfold bv at j1 j2
      obtain ⟨x, hx⟩ : ∃ x : Nat, x = u.toNat := ⟨_, rfl⟩
      rw [← hx] at j1 j2
      have HC := Lib.hid (fun w' => cmpByte_self x w')
      have HK := Lib.hid hlt
      have HS := Lib.hid hS
      clear hu hc1 hc2 hx hlt hk hS
      go_wp2_with fail
      refine (HC.out _).mono ?_
      rintro e w2 ⟨rfl, rfl⟩
      clear j1 j2 HC
      go_wp2_with fail
      go_roundw
      case rel => exact ⟨k + 1, by go_num, by have := HK.out; omega, HS.out⟩
      case measure => simp [intOf]; have := HK.out; omega
    · obtain rfl : k = n := by omega
      have HS := Lib.hid hS
      clear hS hlt hk
      go_wp2
      go_ret
      exact ⟨rfl, HS.out⟩
attribute [local go_sem ↓] storeAt_act loadAt_act sizeAct
set_option maxRecDepth 100000 in
set_option maxHeartbeats 8000000 in
theorem compare_self {W w : World} {A : Assn} (z : Ac) (bs : List UInt8) (hE : ∀ w' A', Sat W w' A' → Calls Tryz.prog 21 #[.agg z.cells.toArray] w' fun e w'' => ∃ a c, e = .returned (.tuple #[.slice a bs.length c, .int .i64 0]) ∧ Sat W w'' (sep (osl 5 1 a bs.length c (bs.map bv)) A')) (h : Sat W w A) :
    Calls Tryz.prog 9 #[.agg z.cells.toArray, .agg z.cells.toArray] w fun e w' => e = .returned (.int .i64 0) ∧ Sat W w' A := by
  have h1 := (h.alloc (.cells z.cells.toArray 37)).alloc (.cells z.cells.toArray 37)
  rw [World.size_alloc] at h1
  obtain ⟨B, hB⟩ : ∃ B, B = w.heap.size := ⟨_, rfl⟩
  obtain ⟨w1, hw1⟩ : ∃ w1, w1 = (w.alloc (.cells z.cells.toArray 37)).alloc (.cells z.cells.toArray 37) := ⟨_, rfl⟩
  rw [← hB, ← hw1] at h1
  have HB := Lib.hid (And.intro hB hw1)
  obtain ⟨X, hX⟩ : ∃ X, X = sep (blk (B + 1) (.cells z.cells.toArray 37 (0, 0))) (sep (blk B (.cells z.cells.toArray 37 (0, 0))) A) := ⟨_, rfl⟩
  rw [← hX] at h1
  have HX : Hid (∀ w', Sat W w' X → ((w'.cell? ⟨B, 1, none⟩ = some (.int .i64 z.d) ∧ w'.cell? ⟨B + 1, 1, none⟩ = some (.int .i64 z.d)) ∧ w'.cell? ⟨B, 2, none⟩ = some (.int .i64 z.n) ∧ w'.cell? ⟨B + 1, 2, none⟩ = some (.int .i64 z.n)) ∧ Sem.run Tryz.prog (ldAct (.pointer (some ⟨B, 0, none⟩))) w' = .ok (.agg z.cells.toArray) w' ∧ Sem.run Tryz.prog (ldAct (.pointer (some ⟨B + 1, 0, none⟩))) w' = .ok (.agg z.cells.toArray) w' ∧ Sat W w' A) := Lib.hid fun w' h' => by
    rw [hX] at h'
    exact ⟨⟨⟨(act_fr h'.p1 1 _ rfl).1, (act_fr h' 1 _ rfl).1⟩, (act_fr h'.p1 2 _ rfl).1, (act_fr h' 2 _ rfl).1⟩, ld_cs h'.p1, ld_cs h', h'.drop.drop⟩
  have hc1 := cmpInt_spec z.d z.d
  have hc2 := cmpInt_spec z.n z.n
  have e0 : ∀ x : Int, cmpI x x = 0 := fun x => by unfold cmpI; simp
  rw [e0] at hc1 hc2
  have HC1 := Lib.hid hc1
  have HC2 := Lib.hid hc2
  have HEN := Lib.hid hE
  have hd := h1.drew
  obtain ⟨wd, hwd⟩ : ∃ wd, wd = w1.drew := ⟨_, rfl⟩
  rw [← hwd] at hd
  obtain ⟨⟨⟨k0, k1⟩, hS0⟩, -⟩ := HX.out wd hd
  have HWD := Lib.hid hwd
  have HD := Lib.hid hd
  clear hB hw1 hX h h1 hE hc1 hc2 hwd hd e0
  go_enter Tryz.func9, Tryz.ntmps9
  go_upto_region 1 with (fail)
  simp only [← HB.out.1, ← HB.out.2]
  refine wp_region_canon rfl (fun w' => w'.cell? ⟨B, 2, none⟩ = some (.int .i64 z.n) ∧ w'.cell? ⟨B + 1, 2, none⟩ = some (.int .i64 z.n)) [(0, .p), (1, .t), (2, .p), (3, .t), (5, .p), (6, .s), (7, .p), (8, .s), (4, .e true), (9, .e false), (10, .e false), (11, .e false), (12, .p)] (by kernel_rfl) ?_
  rw [← HWD.out]
  (repeat ((first | (refine C_p (v := ?_) rfl rfl (fun w' => ?_) ?_; rotate_left; (go_simp; with_reducible rfl)) | (refine C_s (v := ?_) rfl rfl hS0 (fun w' hS => ?_) ?_; rotate_left; ((try dsimp only at hS); go_simp; with_reducible rfl)) | (refine C_t (v := ?_) rfl rfl ?_ ?_; rotate_left; (go_simp; with_reducible rfl)) | (refine C_po rfl rfl ?_) | (refine C_so rfl rfl hS0 ?_) | (refine C_to rfl rfl ?_)); simp only [Act.put, List.setIfInBounds_toArray, List.set_cons_zero, List.set_cons_succ]))
  (refine C_e rfl rfl (fun K hK => ?_); go_simp)
  refine (HC1.out wd).mono ?_
  rintro e w' ⟨rfl, rfl⟩
  (refine hK _ _ (fun _ => hS0) ?_; clear hK K; (try simp only [Act.put, List.setIfInBounds_toArray, List.set_cons_zero, List.set_cons_succ]))
  clear k0 k1 hS0
  (refine C_e rfl rfl (fun K hK => ?_); go_simp)
  refine (HC2.out wd).mono ?_
  rintro e w' ⟨rfl, rfl⟩
  (refine hK _ _ (fun h => by cases h) ?_; clear hK K; (try simp only [Act.put, List.setIfInBounds_toArray, List.set_cons_zero, List.set_cons_succ]))
  (refine C_e rfl rfl (fun K hK => ?_); go_simp)
  (refine hK _ _ (fun h => by cases h) ?_; clear hK K; (try simp only [Act.put, List.setIfInBounds_toArray, List.set_cons_zero, List.set_cons_succ]))
  (refine C_e rfl rfl (fun K hK => ?_); go_simp)
  refine (cmpOr_spec 0 0 _ (HD.out.alloc (.cells #[.int .i64 0, .int .i64 0] 3))).mono ?_
  rintro e w3 ⟨rfl, h3⟩
  have H3 := Lib.hid h3
  (refine hK _ _ (fun h => by cases h) ?_; clear hK K; (try simp only [Act.put, List.setIfInBounds_toArray, List.set_cons_zero, List.set_cons_succ]))
  (repeat ((first | (refine C_p (v := ?_) rfl rfl (fun w' => ?_) ?_; rotate_left; (go_simp; with_reducible rfl)) | (refine C_s (v := ?_) rfl rfl hS0 (fun w' hS => ?_) ?_; rotate_left; ((try dsimp only at hS); go_simp; with_reducible rfl)) | (refine C_t (v := ?_) rfl rfl ?_ ?_; rotate_left; (go_simp; with_reducible rfl)) | (refine C_po rfl rfl ?_) | (refine C_so rfl rfl hS0 ?_) | (refine C_to rfl rfl ?_)); simp only [Act.put, List.setIfInBounds_toArray, List.set_cons_zero, List.set_cons_succ]))
  refine C_nil ?_
  obtain ⟨-, hl1, hl2, -⟩ := HX.out w3 H3.out
  clear h3
  go_upto_region 4 with (fail)
  go_wp2_with fail
  refine (HEN.out _ _ H3.out).mono ?_
  rintro e w4 ⟨a4, c4, rfl, h4⟩
  have hl2 := (HX.out w4 h4.drop).2.2.1
  have H4 := Lib.hid h4
  clear h4 H3 hl1
  go_upto_region 5 with (fail)
  go_wp2_with fail
  refine (HEN.out _ _ H4.out).mono ?_
  rintro e w5 ⟨a5, c5, rfl, h5⟩
  obtain ⟨I, h6⟩ := h5.know
  obtain ⟨J1, hle1, hr1, h7⟩ := osl_learnY (I := I) (show Sat W w5 (sep (osl 5 1 a5 bs.length c5 (bs.map bv)) (sep (kn I) (sep (osl 5 1 a4 bs.length c4 (bs.map bv)) X))) by simpa only [sep_comm, sep_lcomm, sep_assoc] using h6) rfl
  obtain ⟨J2, hle2, hr2, h8⟩ := osl_learnY (I := J1) (show Sat W w5 (sep (osl 5 1 a4 bs.length c4 (bs.map bv)) (sep (kn J1) X)) by simpa only [sep_comm, sep_lcomm, sep_assoc] using h7) rfl
  have hc := cmpBytes_self a4 a5 bs.length c4 c5 bs hr2 (rBytes.mono hle2 hr1) h8
  obtain ⟨nb, hnb⟩ : ∃ n, n = bs.length := ⟨_, rfl⟩
  rw [← hnb] at hc ⊢
  have HCM := Lib.hid hc
  clear h5 h6 h7 h8 hle1 hr1 hle2 hr2 hc H4 hl2 hnb
  go_upto_region 6 with (fail)
  go_wp2_with fail
  refine HCM.out.mono ?_
  rintro e w6 ⟨rfl, h9⟩
  have HF := Lib.hid (HX.out w6 h9.drop).2.2.2
  clear h9 HCM
  go_wp2
  go_ret
  exact ⟨rfl, HF.out⟩
end Go.Proofs.YtodipneapffjdaaGreatDoor
