/- (*Known).Of of the reference: the walk. -/
import Derived.Test.YtcmjbjlliehdiaaDoorGAuthmapChecks27
import Derived.Test.YtcmjbjlliehdiaaDoorGAuthmapChecksSQh
import Derived.Laws.StructEq
namespace Go.Proofs.YtcmjbjlliehdiaaDoor
open Go.RowKit PA
attribute [local go_sem] Oper.semAt_some
def KnR (I : Mem) (q : Nat) (E : KEs) : Prop := ∃ (ab : Option Addr) (cb : Nat) (ah : Option Addr) (ch : Nat), E.length ≤ cb ∧ cb ≤ maxLen ∧ E.length ≤ ch ∧ ch ≤ maxLen ∧ (∀ w, Ext I w → w.cell? ⟨q, 0, none⟩ = some (.slice ab E.length cb) ∧ w.cell? ⟨q, 1, none⟩ = some (.slice ah E.length ch)) ∧
  ∀ (i : Nat) (hi : i < E.length), ∃ b o b' o', ab = some ⟨b, o, none⟩ ∧ ah = some ⟨b', o', none⟩ ∧ ∀ w, Ext I w → w.cell? ⟨b, o + i * 2, none⟩ = some (.int .i64 (bFirst E[i].1)) ∧ w.cell? ⟨b, o + i * 2 + 1, none⟩ = some (.int .i64 (2 ^ E[i].1.1)) ∧ w.cell? ⟨b', o' + i, none⟩ = some (.int .u64 (E[i].2 : Nat))
theorem KnR.mono {I J : Mem} {q : Nat} {E : KEs} (hl : Mem.le I J) (h : KnR I q E) : KnR J q E := by
  obtain ⟨ab, cb, ah, ch, h1, h2, h3, h4, h5, h6⟩ := h
  refine ⟨ab, cb, ah, ch, h1, h2, h3, h4, fun w he => h5 w fun b o hb => he b o (hl b o hb), fun i hi => ?_⟩
  obtain ⟨b, o, b', o', e1, e2, h7⟩ := h6 i hi
  exact ⟨b, o, b', o', e1, e2, fun w he => h7 w fun b o hb => he b o (hl b o hb)⟩
def QKs (W : World) (q : Nat) (E : KEs) (KM : KMap) (l : Nat) : Prop := ∀ (n : Int) {w : World} {A : Assn} {I : Mem}, 0 ≤ n → (n + 1) * 2 ^ l ≤ 4096 → OfInv E l n → KnR I q E → Sat W w (sep (kn I) A) →
  Calls Tryd.prog 80 #[.pointer (some ⟨q, 0, none⟩), .agg #[.int .i64 (n * 2 ^ l), .int .i64 (2 ^ l)]] w fun e w' => e = .returned (.tuple #[.int .u64 (((compP KM l n).getD 0 : Nat) : Int), .bool (compP KM l n).isSome]) ∧ Sat W w' (sep (kn I) A)
theorem blk_eq (w : World) (a b c d : Int) : (binOp .eql 117 (.agg #[.int .i64 a, .int .i64 b]) (.agg #[.int .i64 c, .int .i64 d])).run Tryd.prog w = .ok (.bool (a == c && b == d)) w := by
  have h1 : Tryd.prog.underlying 117 = some (.struct (Tryd.prog.fieldsOf 117)) := by kernel_rfl
  have h2 : Tryd.prog.stoodInHeld 117 = false := by kernel_rfl
  have e := run_equalIn_struct (P := Tryd.prog) w 9999 117 #[.int .i64 a, .int .i64 b] #[.int .i64 c, .int .i64 d] h1 h2
  rw [run_eql_struct, e]
  clear e
  have q0 : ∀ a b : Int, (part 3 #[.int .i64 a, .int .i64 b] 0).run Tryd.prog w = .ok (.int .i64 a) w := fun a b => by kernel_rfl
  have q1 : ∀ a b : Int, (part 3 #[.int .i64 a, .int .i64 b] 1).run Tryd.prog w = .ok (.int .i64 b) w := fun a b => by kernel_rfl
  have r0 : ∀ a b : Int, (Op.equalIn 9999 3 (.int .i64 a) (.int .i64 b)).run Tryd.prog w = .ok (a == b) w := fun a b => run_equalIn_int (P := Tryd.prog) w 9998 3 .i64 .i64 a b Tryd.underlying3
  by_cases e1 : a = c
  · by_cases e2 : b = d
    · simp [Program.fieldsOf, Tryd.underlying117, Op.eqFields, q0, q1, r0, e1, e2]
    · simp [Program.fieldsOf, Tryd.underlying117, Op.eqFields, q0, q1, r0, e1, e2]
  · simp [Program.fieldsOf, Tryd.underlying117, Op.eqFields, q0, r0, e1]
set_option maxRecDepth 100000 in
set_option maxHeartbeats 8000000 in
theorem qof_core {W : World} {q : Nat} {E : KEs} {KM : KMap} (hK : KOK E KM) (l : Nat) (IH : ∀ l', l = l' + 1 → QKs W q E KM l') : QKs W q E KM l := by
  intro n w A I hn0 hn1 hOI hkr h
  obtain ⟨ab, cb, ah, ch, hb1, hb2, hh1, hh2, hq, hel⟩ := hkr
  obtain ⟨F, hF⟩ : ∃ F, F = n * 2 ^ l := ⟨_, rfl⟩
  obtain ⟨Z, hZ⟩ : ∃ Z : Int, Z = 2 ^ l := ⟨_, rfl⟩
  have hZ1 : 1 ≤ Z := by have := pow_pos2 l; omega
  have hFZ : (n + 1) * 2 ^ l = F + Z := by rw [Int.add_mul, Int.one_mul, ← hF, ← hZ]
  have hF0 : 0 ≤ F := by rw [hF]; exact Int.mul_nonneg hn0 (by have := pow_pos2 l; omega)
  have hFZ4 : F + Z ≤ 4096 := by rw [← hFZ]; exact hn1
  have hin : ∀ k, inB l n k ↔ F ≤ k ∧ k < F + Z := fun k => by unfold inB; rw [← hF, hFZ]
  have hz1 : Z = 1 ↔ l = 0 := by
    rw [hZ]
    constructor
    · intro h
      cases l with
      | zero => rfl
      | succ l => exfalso; have h2 := pow_pos2 l; rw [Int.pow_succ] at h; omega
    · rintro rfl; rfl
  have hblk : ∀ x : Nat × Int, (bFirst x = F ∧ (2 : Int) ^ x.1 = Z) ↔ x = (l, n) := fun x => by
    constructor
    · rintro ⟨h1, h2⟩
      rw [hZ] at h2
      have hl : x.1 = l := by
        rcases Nat.lt_trichotomy x.1 l with h | h | h
        · have := Int.pow_lt_pow_of_lt (a := 2) (by omega) h
          omega
        · exact h
        · have := Int.pow_lt_pow_of_lt (a := 2) (by omega) h
          omega
      exact level_lt (m := 0) hl (by rw [h1, hF]; have := inB_first l n; unfold bFirst at this; exact this)
    · rintro rfl
      exact ⟨by rw [hF]; rfl, hZ.symm⟩
  obtain ⟨hb, hhb⟩ : ∃ hb, hb = compP KM l n := ⟨_, rfl⟩
  rw [← hF, ← hZ, ← hhb]
  obtain ⟨nE, hnE⟩ : ∃ nE, nE = E.length := ⟨_, rfl⟩
  rw [← hnE] at hb1 hh1 hq
  have hcbI : (cb : Int) ≤ 9223372036854775807 := by unfold maxLen at hb2; omega
  have hchI : (ch : Int) ≤ 9223372036854775807 := by unfold maxLen at hh2; omega
  obtain ⟨x3, hx3⟩ : ∃ z, z = w.heap.size := ⟨_, rfl⟩
  obtain ⟨w3, hw3⟩ : ∃ z, z = w.alloc (.cells #[.int .i64 F, .int .i64 Z] 117) := ⟨_, rfl⟩
  have h3 := h.alloc (.cells #[.int .i64 F, .int .i64 Z] 117)
  rw [← hx3, ← hw3] at h3
  obtain ⟨J, hJ, hbx, h4⟩ := h3.settle.learn
  have HQ := Lib.hid (fun (w' : World) (he : Ext J w') => And.intro (hq w' (fun b o hb => he b o (hJ b o hb))) (And.intro (cell_of_row w' x3 0 _ _ _ (he _ _ hbx)) (cell_of_row w' x3 1 _ _ _ (he _ _ hbx))))
  have HEL := Lib.hid hel
  have HK := Lib.hid hK
  have HP := Lib.hid (And.intro hnE (And.intro hin (And.intro hz1 (And.intro hhb (And.intro hF (And.intro hZ (And.intro hblk hOI)))))))
  have HIH := Lib.hid IH
  have HN := Lib.hid (And.intro hn0 (And.intro hn1 hJ))
  have H := Lib.hid h4
  have HX := Lib.hid (And.intro hx3 hw3)
  have hkr : KnR I q E := ⟨ab, cb, ah, ch, by omega, hb2, by omega, hh2, by rw [← hnE]; exact hq, hel⟩
  have HKR := Lib.hid hkr
  clear hK IH hn0 hn1 hOI h hF hZ hFZ hin hz1 hblk hhb hnE hq hel hx3 hw3 h3 hJ hbx h4 hb2 hh2 hkr
  go_enter Tryd.func80, Tryd.ntmps80
  go_upto_region 1 with (fail)
  rw [← HX.out.1, ← HX.out.2]
  go_wp2_with fail
  go_loopw [6, 7] (fun sv iv wr => ∃ (i : Nat) (s : Bool), i ≤ nE ∧ sv = .bool s ∧ iv = .int .i64 (i : Nat) ∧ Hid (s = true ↔ ∃ (j : Nat) (hj : j < E.length), j < i ∧ inB l n (bFirst E[j].1)) ∧ Hid (∀ (j : Nat) (hj : j < E.length), j < i → E[j].1 ≠ (l, n)) ∧ Hid (Sat W wr (sep (kn J) A))) (fun _ iv _ => nE - (intOf iv).toNat)
  case atStart => exact ⟨0, false, Nat.zero_le _, rfl, rfl, Lib.hid ⟨fun h => (by cases h), fun ⟨j, _, h, _⟩ => (by omega)⟩, Lib.hid fun _ _ h => (by omega), H⟩
  case round =>
    clear H
    obtain ⟨i, s, hi, rfl, rfl, HSi, HNo, HS⟩ := hrel
    by_cases hlt : i < nE
    · have g1 : (i : Int) < (nE : Int) := by omega
      have hiE : i < E.length := by rw [← HP.out.1]; exact hlt
      obtain ⟨b, o, b', o', rfl, rfl, hcx⟩ := HEL.out i hiE
      have c00 := (HQ.out wr HS.out.ext).1.1
      have hd := HS.out.drew
      obtain ⟨wd, hwd⟩ : ∃ z, z = wr.drew := ⟨_, rfl⟩
      rw [← hwd] at hd
      have hextI : ∀ w', Ext J w' → Ext I w' := fun w' he b o hb => he b o (HN.out.2.2 b o hb)
      have hmem := List.getElem_mem hiE
      have hinE := HP.out.2.1 (bFirst E[i].1)
      have hblkE := HP.out.2.2.2.2.2.2.1 E[i].1
      have hnext : ∀ s' : Bool, (s' = true ↔ s = true ∨ inB l n (bFirst E[i].1)) → Hid (s' = true ↔ ∃ (j : Nat) (hj : j < E.length), j < i + 1 ∧ inB l n (bFirst E[j].1)) := fun s' hs' => Lib.hid (by
        rw [hs', HSi.out]
        constructor
        · rintro (⟨j, hj, h1, h2⟩ | h)
          · exact ⟨j, hj, by omega, h2⟩
          · exact ⟨i, hiE, by omega, h⟩
        · rintro ⟨j, hj, h1, h2⟩
          by_cases e : j = i
          · subst e; exact .inr h2
          · exact .inl ⟨j, hj, by omega, h2⟩)
      have hnono : E[i].1 ≠ (l, n) → Hid (∀ (j : Nat) (hj : j < E.length), j < i + 1 → E[j].1 ≠ (l, n)) := fun hne => Lib.hid (fun j hj hji => by
        by_cases e : j = i
        · subst e; exact hne
        · exact HNo.out j hj (by omega))
      obtain ⟨e, he⟩ : ∃ z, z = E[i] := ⟨_, rfl⟩
      rw [← he] at hcx hmem hinE hblkE hnext hnono
      obtain ⟨f, hf⟩ : ∃ z, z = bFirst e.1 := ⟨_, rfl⟩
      obtain ⟨z, hz⟩ : ∃ z : Int, z = 2 ^ e.1.1 := ⟨_, rfl⟩
      obtain ⟨eh, heh⟩ : ∃ z, z = e.2 := ⟨_, rfl⟩
      rw [← hf] at hcx hinE hblkE hnext
      rw [← hz] at hcx hblkE
      rw [← heh] at hcx
      obtain ⟨⟨c0, c1⟩, d0, d1⟩ := HQ.out wd hd.ext
      obtain ⟨f0, f1, f2⟩ := hcx wd (hextI wd hd.ext)
      obtain ⟨be, hbe⟩ : ∃ be : Bool, be = (f == F && z == Z) := ⟨_, rfl⟩
      have hbq : ∀ w' : World, (binOp .eql 117 (.agg #[.int .i64 f, .int .i64 z]) (.agg #[.int .i64 F, .int .i64 Z])).run Tryd.prog w' = .ok (.bool be) w' := fun w' => by rw [hbe]; exact blk_eq w' f z F Z
      have hbeq : be = true ↔ e.1 = (l, n) := by rw [hbe, ← hblkE]; simp
      have HCX := Lib.hid hcx
      have HE2 := Lib.hid (And.intro hmem (And.intro hinE (And.intro hbeq (And.intro hnext (And.intro hnono (And.intro heh hextI))))))
      have Hd := Lib.hid (And.intro hwd hd)
      have hS0 : True := trivial
      have hwr : IntKind.i64.wrap (F + Z) = F + Z := by rw [IntKind.wrap_i64]; omega
      clear HS hcx hmem hinE hblkE hnext hnono he hf hz heh hd hextI hbe hbeq hwd
      go_wp2_with fail
      refine wp_region_canon rfl (fun _ => True) [(0, .p), (1, .p), (2, .p), (3, .t), (4, .p), (5, .p), (6, .t), (7, .t), (8, .p)] (by kernel_rfl) ?_
      rw [← Hd.out.1]
      (repeat ((first | (refine C_p (v := ?_) rfl rfl (fun w' => ?_) ?_; rotate_left; (go_simp; with_reducible rfl)) | (refine C_s (v := ?_) rfl rfl hS0 (fun w' hS => ?_) ?_; rotate_left; ((try dsimp only at hS); go_simp; with_reducible rfl)) | (refine C_t (v := ?_) rfl rfl ?_ ?_; rotate_left; (go_simp; with_reducible rfl)) | (refine C_po rfl rfl ?_) | (refine C_so rfl rfl hS0 ?_) | (refine C_to rfl rfl ?_)); simp only [Act.put, List.setIfInBounds_toArray, List.set_cons_zero, List.set_cons_succ]))
      refine C_nil ?_
      clear hbq
      cases be with
      | true =>
        have hx := HE2.out.2.2.1.1 rfl
        have hres : hb = some eh := by
          rw [HP.out.2.2.2.1, comp_at HK.out (h := eh)]
          rw [← hx, HE2.out.2.2.2.2.2.1]
          exact HE2.out.1
        have HRS := Lib.hid hres
        clear hx hres
        go_wp2_with fail
        go_ret2
        rw [HRS.out]
        exact ⟨rfl, (Hd.out.2.kn_mono HN.out.2.2)⟩
      | false =>
        have HNO := HE2.out.2.2.2.2.1 (fun e => by have := HE2.out.2.2.1.2 e; cases this)
        have hd := Hd.out.2.drew
        obtain ⟨wd2, hwd2⟩ : ∃ z, z = wd.drew := ⟨_, rfl⟩
        rw [← hwd2] at hd
        have HD2 := Lib.hid (And.intro hwd2 hd)
        clear c0 c1 d0 d1 f0 f1 f2
        obtain ⟨⟨c0, c1⟩, d0, d1⟩ := HQ.out wd2 hd.ext
        obtain ⟨f0, f1, f2⟩ := HCX.out wd2 (HE2.out.2.2.2.2.2.2 wd2 hd.ext)
        clear hd hwd2 Hd
        by_cases h1 : F ≤ f
        · by_cases h2 : f < F + Z
          · have hin : inB l n f := HE2.out.2.1.2 ⟨h1, h2⟩
            have HN2 := HE2.out.2.2.2.1 true ⟨fun _ => .inr hin, fun _ => rfl⟩
            have e1 : decide (F ≤ f) = true := decide_eq_true h1
            have e2 : decide (f < F + Z) = true := decide_eq_true h2
            clear hin
            go_wp2_with fail
            refine wp_region_canon rfl (fun _ => True) [(0, .p), (1, .p), (2, .p), (3, .t), (4, .p), (5, .p), (6, .p), (7, .t), (8, .p), (9, .t), (10, .p), (11, .p), (12, .p), (13, .p), (14, .p), (15, .t), (16, .p), (17, .p), (18, .p), (19, .t), (20, .p), (21, .t), (22, .p), (23, .t), (24, .p), (25, .p), (26, .p)] (by kernel_rfl) ?_
            rw [← HD2.out.1]
            (repeat ((first | (refine C_p (v := ?_) rfl rfl (fun w' => ?_) ?_; rotate_left; (go_simp; with_reducible rfl)) | (refine C_s (v := ?_) rfl rfl hS0 (fun w' hS => ?_) ?_; rotate_left; ((try dsimp only at hS); go_simp; with_reducible rfl)) | (refine C_t (v := ?_) rfl rfl ?_ ?_; rotate_left; (go_simp; with_reducible rfl)) | (refine C_po rfl rfl ?_) | (refine C_so rfl rfl hS0 ?_) | (refine C_to rfl rfl ?_)); simp only [Act.put, List.setIfInBounds_toArray, List.set_cons_zero, List.set_cons_succ]))
            refine C_nil ?_
            clear c0 c1 d0 d1 f0 f1 f2
            go_wp2_with fail
            go_roundw
            case rel => exact ⟨i + 1, true, by omega, rfl, by go_num, Lib.hid (by have := HN2.out; simpa using this), HNO, Lib.hid HD2.out.2⟩
            case measure => simp only [intOf]; omega
          · have HN2 := HE2.out.2.2.2.1 s ⟨fun h => .inl h, fun h => h.elim id fun h => absurd (HE2.out.2.1.1 h).2 h2⟩
            have e1 : decide (F ≤ f) = true := decide_eq_true h1
            have e2 : decide (f < F + Z) = false := decide_eq_false h2
            go_wp2_with fail
            refine wp_region_canon rfl (fun _ => True) [(0, .p), (1, .p), (2, .p), (3, .t), (4, .p), (5, .p), (6, .p), (7, .t), (8, .p), (9, .t), (10, .p), (11, .p), (12, .p), (13, .p), (14, .p), (15, .t), (16, .p), (17, .p), (18, .p), (19, .t), (20, .p), (21, .t), (22, .p), (23, .t), (24, .p), (25, .p), (26, .p)] (by kernel_rfl) ?_
            rw [← HD2.out.1]
            (repeat ((first | (refine C_p (v := ?_) rfl rfl (fun w' => ?_) ?_; rotate_left; (go_simp; with_reducible rfl)) | (refine C_s (v := ?_) rfl rfl hS0 (fun w' hS => ?_) ?_; rotate_left; ((try dsimp only at hS); go_simp; with_reducible rfl)) | (refine C_t (v := ?_) rfl rfl ?_ ?_; rotate_left; (go_simp; with_reducible rfl)) | (refine C_po rfl rfl ?_) | (refine C_so rfl rfl hS0 ?_) | (refine C_to rfl rfl ?_)); simp only [Act.put, List.setIfInBounds_toArray, List.set_cons_zero, List.set_cons_succ]))
            refine C_nil ?_
            clear c0 c1 d0 d1 f0 f1 f2
            go_wp2_with fail
            go_roundw
            case rel => exact ⟨i + 1, s, by omega, rfl, by go_num, HN2, HNO, Lib.hid HD2.out.2⟩
            case measure => simp only [intOf]; omega
        · have HN2 := HE2.out.2.2.2.1 s ⟨fun h => .inl h, fun h => h.elim id fun h => absurd (HE2.out.2.1.1 h).1 h1⟩
          have e1 : decide (F ≤ f) = false := decide_eq_false h1
          go_wp2_with fail
          refine wp_region_canon rfl (fun _ => True) [(0, .p), (1, .p), (2, .p), (3, .t), (4, .p), (5, .p), (6, .p), (7, .t), (8, .p), (9, .t), (10, .p), (11, .p), (12, .p), (13, .p), (14, .p), (15, .t), (16, .p), (17, .p), (18, .p), (19, .t), (20, .p), (21, .t), (22, .p), (23, .t), (24, .p), (25, .p), (26, .p)] (by kernel_rfl) ?_
          rw [← HD2.out.1]
          (repeat ((first | (refine C_p (v := ?_) rfl rfl (fun w' => ?_) ?_; rotate_left; (go_simp; with_reducible rfl)) | (refine C_s (v := ?_) rfl rfl hS0 (fun w' hS => ?_) ?_; rotate_left; ((try dsimp only at hS); go_simp; with_reducible rfl)) | (refine C_t (v := ?_) rfl rfl ?_ ?_; rotate_left; (go_simp; with_reducible rfl)) | (refine C_po rfl rfl ?_) | (refine C_so rfl rfl hS0 ?_) | (refine C_to rfl rfl ?_)); simp only [Act.put, List.setIfInBounds_toArray, List.set_cons_zero, List.set_cons_succ]))
          refine C_nil ?_
          clear c0 c1 d0 d1 f0 f1 f2
          go_wp2_with fail
          go_roundw
          case rel => exact ⟨i + 1, s, by omega, rfl, by go_num, HN2, HNO, Lib.hid HD2.out.2⟩
          case measure => simp only [intOf]; omega
    · have g1 : ¬ (i : Int) < (nE : Int) := by omega
      obtain rfl : i = nE := by omega
      have hno : ∀ e ∈ E, e.1 ≠ (l, n) := fun e he => by
        obtain ⟨j, hj, rfl⟩ := List.mem_iff_getElem.1 he
        exact HNo.out j hj (by rw [HP.out.1]; exact hj)
      obtain ⟨⟨c0, c1⟩, d0, d1⟩ := HQ.out wr HS.out.ext
      clear hlt hi
      cases s with
      | false =>
        have hres : hb = none := by
          rw [HP.out.2.2.2.1]
          refine comp_none HK.out l n fun e he hi => ?_
          obtain ⟨j, hj, rfl⟩ := List.mem_iff_getElem.1 he
          have := HSi.out.2 ⟨j, hj, by rw [HP.out.1]; exact hj, hi⟩
          cases this
        have HRS := Lib.hid hres
        have HFS := Lib.hid (HS.out.kn_mono HN.out.2.2)
        clear hres hno HS
        go_wp2_with fail
        go_ret2
        rw [HRS.out]
        exact ⟨rfl, HFS.out⟩
      | true =>
        obtain ⟨j, hj, -, hji⟩ := HSi.out.1 rfl
        have hmj := List.getElem_mem hj
        have hlj := HP.out.2.2.2.2.2.2.2 _ hmj hji
        have hl0 : l ≠ 0 := fun h => hno _ hmj (level_lt (m := 0) (by omega) hji)
        have hsome : hb ≠ none := by rw [HP.out.2.2.2.1]; exact comp_some HK.out hmj l n hji hlj
        have hz' : (Z == 1) = false := by
          have := HP.out.2.2.1
          have : ¬ Z = 1 := fun e => hl0 (this.1 e)
          simpa using this
        have hknone : KM (l, n) = none := by
          cases hk : KM (l, n) with
          | none => rfl
          | some o =>
            cases o with
            | none => exact absurd hji (HK.out.no _ hk _ hmj)
            | some y => exact absurd rfl (hno _ (HK.out.all _ _ hk))
        have hres0 := HP.out.2.2.2.1
        have hOI := HP.out.2.2.2.2.2.2.2
        have hFe := HP.out.2.2.2.2.1
        have hZe := HP.out.2.2.2.2.2.1
        obtain ⟨l', hl'⟩ : ∃ l', l = l' + 1 := ⟨l - 1, by omega⟩
        rw [hl'] at hres0 hOI hFe hZe hno hknone
        have hn1 := HN.out.2.1
        rw [hl'] at hn1
        obtain ⟨o1, o2⟩ := OfInv.half hOI hno
        obtain ⟨Y, hY⟩ : ∃ Y : Int, Y = 2 ^ l' := ⟨_, rfl⟩
        have hZY : Z = 2 * Y := by rw [hZe, hY, Int.pow_succ]; omega
        have hq : Z.tdiv 2 = Y := by rw [Int.tdiv_eq_ediv_of_nonneg (by omega)]; omega
        have hf1 : F = 2 * n * Y := by rw [hFe, hY, Int.pow_succ, Int.mul_comm (2 ^ l') 2, ← Int.mul_assoc, Int.mul_comm n 2]
        have hf2 : F + Y = (2 * n + 1) * Y := by rw [Int.add_mul, Int.one_mul, ← hf1]
        have hs1 := hn_half HN.out.1 hn1
        have hkJ := KnR.mono HN.out.2.2 HKR.out
        have hH1 := (HIH.out l' hl') (2 * n) (by have := HN.out.1; omega) hs1.1 o1 hkJ HS.out
        have hH2 := fun w' (h : Sat W w' (sep (kn J) A)) => (HIH.out l' hl') (2 * n + 1) (by have := HN.out.1; omega) hs1.2 o2 hkJ h
        rw [← hY, ← hf1] at hH1
        rw [← hY, ← hf2] at hH2
        have hres : hb = joinN (compP KM l' (2 * n)) (compP KM l' (2 * n + 1)) := by rw [hres0, compP, hknone]
        have hltA : ∀ m h, compP KM l' m = some h → h < 18446744073709551616 := fun m h e => compP_lt (fun x y hx => HK.out.lt _ (HK.out.all _ _ hx)) l' m h e
        obtain ⟨ha, hha⟩ : ∃ z, z = compP KM l' (2 * n) := ⟨_, rfl⟩
        obtain ⟨hc, hhc⟩ : ∃ z, z = compP KM l' (2 * n + 1) := ⟨_, rfl⟩
        rw [← hha] at hH1 hres
        rw [← hhc] at hH2 hres
        have hlt1 : ha.getD 0 < 18446744073709551616 := by
          cases hh : ha with
          | none => simp
          | some y => exact hltA _ y (by rw [← hha]; exact hh)
        have hlt2 : hc.getD 0 < 18446744073709551616 := by
          cases hh : hc with
          | none => simp
          | some y => exact hltA _ y (by rw [← hhc]; exact hh)
        have hres2 : hb = some (nodeN (ha.getD 0) (hc.getD 0)) := by
          rw [hres] at hsome ⊢
          cases ha <;> cases hc <;> simp [joinN] at *
        obtain ⟨u1, hu1⟩ : ∃ z, z = ha.getD 0 := ⟨_, rfl⟩
        obtain ⟨u2, hu2⟩ : ∃ z, z = hc.getD 0 := ⟨_, rfl⟩
        rw [← hu1] at hH1 hlt1
        rw [← hu2] at hH2 hlt2
        rw [← hu1, ← hu2] at hres2
        have hnode : nodeN u1 u2 = sumN blockL [wrap64 (u1 : Int), wrap64 (u2 : Int)] := rfl
        obtain ⟨nd, hnd⟩ : ∃ z, z = nodeN u1 u2 := ⟨_, rfl⟩
        rw [← hnd] at hnode hres2
        obtain ⟨z1, hz1⟩ : ∃ z, wrap64 (u1 : Int) = z := ⟨_, rfl⟩
        obtain ⟨z2, hz2⟩ : ∃ z, wrap64 (u2 : Int) = z := ⟨_, rfl⟩
        rw [hz1, hz2] at hnode
        have HH1 := Lib.hid hH1
        have HH2 := Lib.hid hH2
        have HRS := Lib.hid (And.intro hnode hres2)
        have hYb : 0 ≤ Y ∧ Y ≤ 2048 := by omega
        obtain ⟨hYa, hYc⟩ := hYb
        clear hl0 hl' hY hZY hf1 hf2 hs1 hH1 hH2 hres hres0 hsome hha hhc hlt1 hlt2 hres2 hu1 hu2 hnode hnd HS hOI hFe hZe hno hknone o1 o2 hn1 hltA hkJ hj hji hlj hmj
        go_wp2_with fail
        refine HH1.out.mono ?_
        rintro e w2 ⟨rfl, h2⟩
        have HB := Lib.hid (HH2.out w2 h2)
        obtain ⟨-, d0', d1'⟩ := HQ.out w2 h2.ext
        clear HH1 HH2 h2 c0 d0 d1
        go_wp2_with fail
        refine HB.out.mono ?_
        rintro e w3 ⟨rfl, h3⟩
        obtain ⟨J2, hJ2, hri, h4⟩ := litI h3 [z1, z2] 3 (by simp [maxLen])
        obtain ⟨a', c', e', -, hc'⟩ := ints_rel.1 hri
        simp only [Value.slice.injEq] at e'
        obtain ⟨rfl, -, rfl⟩ := e'
        have e4 : (⟨#[98, 108, 111, 99, 107]⟩ : ByteArray).data.toList = blockL := rfl
        have H2a := rsum_spec ⟨#[98, 108, 111, 99, 107]⟩ (some ⟨w3.heap.size, 0, none⟩) 2 [z1, z2] h4 (by decide) (by simp) hc'
        rw [e4, ← HRS.out.1] at H2a
        have H2 := Lib.hid H2a
        have HJ := Lib.hid (Mem.le_trans HN.out.2.2 hJ2)
        clear HB h3 h4 hJ2 hri hc' e4 H2a d0' d1'
        go_wp2_with fail
        refine H2.out.mono ?_
        rintro e w4 ⟨rfl, h5⟩
        have H5 : Hid (Sat W w4 (sep (kn I) A)) := Lib.hid (h5.kn_mono HJ.out)
        clear H2 h5
        go_wp2_with fail
        go_ret2
        rw [HRS.out.2]
        exact ⟨rfl, H5.out⟩
theorem qof_all {W : World} {q : Nat} {E : KEs} {KM : KMap} (hK : KOK E KM) : ∀ l, QKs W q E KM l
  | 0 => qof_core hK 0 fun l' h => by omega
  | l + 1 => qof_core hK (l + 1) fun l' h => by
    obtain rfl : l = l' := by omega
    exact qof_all hK l
end Go.Proofs.YtcmjbjlliehdiaaDoor
/- The reference's Outside. -/
namespace Go.Proofs.YtcmjbjlliehdiaaDoor
open Go.RowKit PA
attribute [local go_sem] Oper.semAt_some
theorem infoQBlock : (Tryd.prog.info? 117).map (fun i => (i.zero, i.size, i.bytes)) = some (some (.agg #[.int .i64 0, .int .i64 0]), 2, 16) := by kernel_rfl
/-- A block's cells, as the reference has them. -/
def blkQ (x : Nat × Int) : List Value := [.int .i64 (x.2 * 2 ^ x.1), .int .i64 (2 ^ x.1)]
def blkC (xs : List (Nat × Int)) : List Value := xs.flatMap blkQ
theorem blkC_len : ∀ xs : List (Nat × Int), (blkC xs).length = xs.length * 2
  | [] => rfl
  | x :: xs => by
    have := blkC_len xs
    unfold blkC at this ⊢
    rw [List.flatMap_cons, List.length_append, this, List.length_cons]
    show 2 + _ = _
    omega
theorem blkC_append (xs ys : List (Nat × Int)) : blkC (xs ++ ys) = blkC xs ++ blkC ys := by unfold blkC; rw [List.flatMap_append]
theorem blkC_one (xs : List (Nat × Int)) : ∀ u ∈ blkC xs, u.oneCell' = true := by
  intro u hu
  unfold blkC at hu
  obtain ⟨x, -, hx⟩ := List.mem_flatMap.1 hu
  unfold blkQ at hx
  simp at hx
  rcases hx with rfl | rfl <;> rfl
theorem blkC_get : ∀ (xs : List (Nat × Int)) (i : Nat) (hi : i < xs.length), (blkC xs)[i * 2]? = some (.int .i64 (xs[i].2 * 2 ^ xs[i].1)) ∧ (blkC xs)[i * 2 + 1]? = some (.int .i64 (2 ^ xs[i].1))
  | [], i, hi => by simp at hi
  | x :: xs, 0, _ => by simp [blkC, blkQ]
  | x :: xs, i + 1, hi => by
    have ih := blkC_get xs i (by simpa using hi)
    unfold blkC at ih ⊢
    rw [List.flatMap_cons, show (i + 1) * 2 = 2 + i * 2 by omega, show 2 + i * 2 + 1 = 2 + (i * 2 + 1) by omega]
    have e : ∀ j, (blkQ x ++ List.flatMap blkQ xs)[2 + j]? = (List.flatMap blkQ xs)[j]? := fun j => by
      rw [List.getElem?_append_right (by simp [blkQ])]
      congr 1
      simp [blkQ]
    rw [e, e]
    simpa using ih
def QOs (W : World) (a b : Int) (l : Nat) : Prop := ∀ (n : Int) {w : World} {A : Assn}, inT l n → Sat W w A →
  Calls Tryd.prog 60 #[.agg #[.int .i64 (n * 2 ^ l), .int .i64 (2 ^ l)], .int .i64 a, .int .i64 b] w fun e w' => ∃ ad c, e = .returned (.slice ad (outL a b l n).length c) ∧ Sat W w' (sep (osl 117 2 ad (outL a b l n).length c (blkC (outL a b l n))) A)
set_option maxRecDepth 100000 in
set_option maxHeartbeats 8000000 in
theorem qoutside_core {W : World} {a b : Int} (hab : 0 ≤ a ∧ a ≤ b ∧ b ≤ 4095) (l : Nat) (IH : ∀ l', l = l' + 1 → QOs W a b l') : QOs W a b l := by
  intro n w A hT h
  obtain ⟨F, hF⟩ : ∃ F, F = n * 2 ^ l := ⟨_, rfl⟩
  obtain ⟨Z, hZ⟩ : ∃ Z : Int, Z = 2 ^ l := ⟨_, rfl⟩
  obtain ⟨hl12, hn0, -, hb0, -, hb1⟩ := inT_bounds hT
  have hZ1 : 1 ≤ Z := by have := pow_pos2 l; omega
  have hFZ : (n + 1) * 2 ^ l = F + Z := by rw [Int.add_mul, Int.one_mul, ← hF, ← hZ]
  have hbF : bFirst (l, n) = F := by rw [hF]; rfl
  have hbL : bLast (l, n) = F + Z - 1 := by unfold bLast; rw [hFZ]
  rw [hbF] at hb0
  rw [hbL] at hb1
  obtain ⟨x, hx⟩ : ∃ x, x = w.heap.size := ⟨_, rfl⟩
  have h1 := h.alloc (.cells #[.int .i64 F, .int .i64 Z] 117)
  obtain ⟨w1, hw1⟩ : ∃ w1, w1 = w.alloc (.cells #[.int .i64 F, .int .i64 Z] 117) := ⟨_, rfl⟩
  rw [← hx, ← hw1] at h1
  have HX := Lib.hid (And.intro hx hw1)
  rw [← hF, ← hZ]
  have c0 : w1.cell? ⟨x, 0, none⟩ = some (.int .i64 F) := h1.cell 0
  have c1 : w1.cell? ⟨x, 1, none⟩ = some (.int .i64 Z) := h1.cell 1
  obtain ⟨ha0, hab1, hb4⟩ := hab
  by_cases ho : F + Z ≤ a ∨ b < F
  · have hout : outL a b l n = [(l, n)] := outL_out (by rw [hbF, hbL]; omega)
    have h2 := (h1.alloc (.cells #[.int .i64 F, .int .i64 Z] 117)).osl_mk 1 1 2 [.int .i64 F, .int .i64 Z] rfl (Nat.le_refl _) (by unfold maxLen; omega) rfl rfl
    have H2 : Hid (Sat W (w1.alloc (.cells #[.int .i64 F, .int .i64 Z] 117)) (sep (osl 117 2 (some ⟨w1.heap.size, 0, none⟩) 1 1 (blkC [(l, n)])) A)) := Lib.hid (by
      have e : blkC [(l, n)] = [.int .i64 F, .int .i64 Z] := by rw [hF, hZ]; rfl
      rw [e]
      exact h2.p1.drop |> fun h => by simpa only [sep_comm, sep_lcomm, sep_assoc] using h)
    rw [hout]
    clear h h1 h2 hx hw1 hF hZ hFZ hbF hbL hT hout IH
    go_enter Tryd.func60, Tryd.ntmps60
    go_upto_region 1 with (fail)
    rw [← HX.out.1, ← HX.out.2]
    by_cases h1 : F + Z ≤ a
    · clear ho
      go_wp2_with fail
      go_ret
      exact ⟨_, _, rfl, H2.out⟩
    · have h2 : b < F := ho.resolve_left h1
      clear ho
      go_wp2_with fail
      go_ret
      exact ⟨_, _, rfl, H2.out⟩
  · have g1 : ¬ F + Z ≤ a := fun h => ho (.inl h)
    have g2 : ¬ b < F := fun h => ho (.inr h)
    by_cases hi : a ≤ F ∧ F + Z - 1 ≤ b
    · obtain ⟨g3, g4⟩ := hi
      have hout : outL a b l n = [] := outL_in (by rw [hbF, hbL]; omega) (by rw [hbF, hbL]; exact ⟨g3, g4⟩)
      have H2 : Hid (Sat W w1 (sep (osl 117 2 none 0 0 (blkC [])) A)) := Lib.hid (h1.drop.osl_nil 117 2)
      rw [hout]
      clear h h1 hx hw1 hF hZ hFZ hbF hbL hT hout IH ho
      go_enter Tryd.func60, Tryd.ntmps60
      go_upto_region 1 with (fail)
      rw [← HX.out.1, ← HX.out.2]
      go_wp2_with fail
      go_ret
      exact ⟨_, _, rfl, H2.out⟩
    · have hl0 : l ≠ 0 := by
        rintro rfl
        have := bzero (a := a) (b := b) (n := n) (by rw [hbF, hbL]; omega)
        rw [hbF, hbL] at this
        exact hi this
      obtain ⟨l', rfl⟩ : ∃ l', l = l' + 1 := ⟨l - 1, by omega⟩
      have hout : outL a b (l' + 1) n = outL a b l' (2 * n) ++ outL a b l' (2 * n + 1) := outL_halves (by rw [hbF, hbL]; omega) (by rw [hbF, hbL]; exact hi)
      have hlen1 := outL_length a b l' (2 * n)
      have hlen2 := outL_length a b l' (2 * n + 1)
      have hp12 : 2 ^ l' ≤ 2 ^ 12 := Nat.pow_le_pow_right (by omega) (by omega)
      obtain ⟨t1, t2⟩ := inT_half hT
      obtain ⟨Y, hY⟩ : ∃ Y : Int, Y = 2 ^ l' := ⟨_, rfl⟩
      have hZY : Z = 2 * Y := by rw [hZ, hY, Int.pow_succ]; omega
      have hq : Z.tdiv 2 = Y := by rw [Int.tdiv_eq_ediv_of_nonneg (by omega)]; omega
      have hf1 : F = 2 * n * Y := by rw [hF, hY, Int.pow_succ, Int.mul_comm (2 ^ l') 2, ← Int.mul_assoc, Int.mul_comm n 2]
      have hf2 : F + Y = (2 * n + 1) * Y := by rw [Int.add_mul, Int.one_mul, ← hf1]
      have hH1 := (IH l' rfl) (2 * n) t1 h1
      have hH2 := fun w' B (h : Sat W w' B) => (IH l' rfl) (2 * n + 1) t2 h
      rw [← hY, ← hf1] at hH1
      rw [← hY, ← hf2] at hH2
      rw [hout]
      obtain ⟨xs, hxs⟩ : ∃ xs, xs = outL a b l' (2 * n) := ⟨_, rfl⟩
      obtain ⟨ys, hys⟩ : ∃ ys, ys = outL a b l' (2 * n + 1) := ⟨_, rfl⟩
      rw [← hxs] at hH1 hlen1 ⊢
      rw [← hys] at hH2 hlen2 ⊢
      obtain ⟨nx, hnx⟩ : ∃ nx, nx = xs.length := ⟨_, rfl⟩
      obtain ⟨ny, hny⟩ : ∃ ny, ny = ys.length := ⟨_, rfl⟩
      rw [← hnx] at hH1 hlen1
      rw [← hny] at hH2 hlen2
      have hnx4 : nx ≤ 4096 := by omega
      have hny4 : ny ≤ 4096 := by omega
      have hYb : 0 ≤ Y ∧ Y ≤ 4096 := by omega
      have HH1 := Lib.hid hH1
      have HH2 := Lib.hid hH2
      have HN := Lib.hid (And.intro hnx hny)
      have ho3 : a ≤ F → ¬ F + Z - 1 ≤ b := fun h h2 => hi ⟨h, h2⟩
      clear h h1 hx hw1 hF hZ hZY hFZ hbF hbL hT hout IH ho hlen1 hlen2 hp12 hf1 hf2 hH1 hH2 hxs hys hnx hny t1 t2 hi hY
      go_enter Tryd.func60, Tryd.ntmps60
      go_upto_region 1 with (fail)
      rw [← HX.out.1, ← HX.out.2]
      go_upto_region 5 with (fail)
      all_goals
        go_wp2_with fail
        refine HH1.out.mono ?_
        rintro e w2 ⟨a1, k1, rfl, h2⟩
        have HB := Lib.hid (HH2.out w2 _ h2)
        have c0 : w2.cell? ⟨x, 0, none⟩ = some (.int .i64 F) := h2.p1.cell 0
        have c1 : w2.cell? ⟨x, 1, none⟩ = some (.int .i64 Z) := h2.p1.cell 1
        clear HH1 h2
        go_wp2_with fail
        refine HB.out.mono ?_
        rintro e w3 ⟨a2, k2, rfl, h3⟩
        have hsrc := h3.osl_Src
        have hln := h3.swf_of_osl
        have h4 : Sat W w3 (sep (osl 117 2 a1 nx k1 (blkC xs)) (sep (osl 117 2 a2 ny k2 (blkC ys)) (sep (blk x (.cells #[.int .i64 F, .int .i64 Z] 117 (0, 0))) A))) := h3.p1
        have HSRC := Lib.hid (And.intro hsrc (And.intro (show a2 = none → ny = 0 from fun e => by have := hln.2.2 e; have := hln.1; omega) h4))
        clear HB HH2 h3 h4 hsrc hln
        go_wp2_with (at_builtin; refine wpl_append_osl rfl (.tmp 46) (.tmp 59) 114 rfl 117 2 16 (.agg #[.int .i64 0, .int .i64 0]) Tryd.underlying114 infoQBlock rfl rfl HSRC.out.2.2 rfl (blkC ys) (by rw [blkC_len, HN.out.2]) HSRC.out.2.1 HSRC.out.1 (blkC_one ys) (by omega) (by unfold maxLen; omega) ?_)
        intro a5 k5 w5 h5
        have H5 : Hid (Sat W w5 (sep (osl 117 2 a5 (nx + ny) k5 (blkC (xs ++ ys))) A)) := Lib.hid (by
          rw [blkC_append]
          have h6 : Sat W w5 (sep (osl 117 2 a2 ny k2 (blkC ys)) (sep (blk x (.cells #[.int .i64 F, .int .i64 Z] 117 (0, 0))) (sep (osl 117 2 a5 (nx + ny) k5 (blkC xs ++ blkC ys)) A))) := by simpa only [sep_comm, sep_lcomm, sep_assoc] using h5
          exact h6.forget_osl.forget)
        clear HSRC h5
        go_wp2_with fail
        go_ret
        refine ⟨a5, k5, by rw [List.length_append, ← HN.out.1, ← HN.out.2]; rfl, ?_⟩
        rw [List.length_append, ← HN.out.1, ← HN.out.2]
        exact H5.out
theorem qoutside_all {W : World} {a b : Int} (hab : 0 ≤ a ∧ a ≤ b ∧ b ≤ 4095) : ∀ l, QOs W a b l
  | 0 => qoutside_core hab 0 fun l' h => by omega
  | l + 1 => qoutside_core hab (l + 1) fun l' h => by
    obtain rfl : l = l' := by omega
    exact qoutside_all hab l
end Go.Proofs.YtcmjbjlliehdiaaDoor
