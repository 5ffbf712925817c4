/- The reference's reader: length, Raw, Int. -/
import Derived.Test.YtdaknmcmjnbfeaaGreatGJournalRuns35
namespace Go.Proofs.YtdaknmcmjnbfeaaGreat
open Go.RowKit PA
theorem rruint_spec {W w : World} {A : Assn} (p : Nat) (st : RSt) (h : Sat W w (sep (isRd 100 p st) A)) (hl : RSt.small st) :
    Calls Tryz.prog 83 #[.pointer (some ⟨p, 0, none⟩)] w fun r w' => r = .returned (.int .u64 ((stU st).1 : Nat)) ∧ Sat W w' (sep (isRd 100 p (stU st).2) A) := by
  cases st with
  | ok l => exact rruint_ok p l h hl
  | error e =>
    obtain ⟨c1, he⟩ := isRd_cell_er h
    have b1 : (e == 0) = false := by simp; omega
    clear he hl
    go_enter Tryz.func83, Tryz.ntmps83
    go_wp2_with fail
    go_loop [3, 4, 5] (fun _ _ iv => iv = .int .i64 0) (fun _ _ _ => 0)
    case atStart => exact rfl
    case round =>
      obtain rfl := hrel
      go_wp2_with fail
      go_ret
      exact ⟨rfl, h⟩
theorem rrint_spec {W w : World} {A : Assn} (p : Nat) (st : RSt) (h : Sat W w (sep (isRd 100 p st) A)) (hl : RSt.small st) :
    Calls Tryz.prog 64 #[.pointer (some ⟨p, 0, none⟩)] w fun r w' => r = .returned (.int .i64 (stI st).1) ∧ Sat W w' (sep (isRd 100 p (stI st).2) A) := by
  have HU := Lib.hid (rruint_spec p st h hl)
  have HZ := Lib.hid (stU_lt st)
  obtain ⟨z, hz⟩ : ∃ z, z = (stU st).1 := ⟨_, rfl⟩
  have e1 : stI st = (unz z, (stU st).2) := by rw [hz]; rfl
  rw [← hz] at HU HZ
  have HE := Lib.hid e1
  clear e1 h hl hz
  go_enter Tryz.func64, Tryz.ntmps64
  go_wp2_with fail
  refine HU.out.mono ?_
  rintro r w2 ⟨rfl, hS⟩
  go_wp2_with fail
  refine (rback_spec z _ HZ.out).mono ?_
  rintro r w3 ⟨rfl, rfl⟩
  go_wp2_with fail
  go_ret
  rw [HE.out]
  exact ⟨rfl, hS⟩
theorem rrlen_er {W w : World} {A : Assn} (p : Nat) (st : RSt) (h : Sat W w (sep (isRd 100 p st) A)) (hl : RSt.small st) (e : Int) (he : stU st = (0, .error e)) :
    Calls Tryz.prog 81 #[.pointer (some ⟨p, 0, none⟩)] w fun r w' => r = .returned (.int .i64 0) ∧ Sat W w' (sep (isRd 100 p (.error e)) A) := by
  have hu := rruint_spec p st h hl
  rw [he] at hu
  have HU := Lib.hid hu
  clear hu he h hl
  go_enter Tryz.func81, Tryz.ntmps81
  go_wp2_with fail
  refine HU.out.mono ?_
  rintro r w2 ⟨rfl, hS⟩
  obtain ⟨c1, he⟩ := isRd_cell_er hS
  have b1 : (e == 0) = false := by simp; omega
  have b2 : (e != 0) = true := by simp; omega
  clear he
  go_wp2_with fail
  go_ret
  exact ⟨rfl, hS⟩
theorem rrlen_short {W w : World} {A : Assn} (p : Nat) (st : RSt) (h : Sat W w (sep (isRd 100 p st) A)) (hl : RSt.small st) (n : Nat) (l : List UInt8) (he : stU st = (n, .ok l)) (hn : l.length < n) :
    Calls Tryz.prog 81 #[.pointer (some ⟨p, 0, none⟩)] w fun r w' => r = .returned (.int .i64 0) ∧ Sat W w' (sep (isRd 100 p (.error 3)) A) := by
  have hu := rruint_spec p st h hl
  have hsm := stU_small hl
  rw [he] at hu hsm
  have hll : l.length ≤ 1073742900 := hsm
  have HU := Lib.hid hu
  obtain ⟨m, hm⟩ : ∃ m, m = l.length := ⟨_, rfl⟩
  rw [← hm] at hn hll
  have hwl : IntKind.u64.wrap (m : Int) = (m : Int) := wraps_u64 _ (by omega) (by omega)
  have HM := Lib.hid hm
  have hnN : m < n := hn
  clear hu he h hl hm hsm hll hn
  go_enter Tryz.func81, Tryz.ntmps81
  go_wp2_with fail
  refine HU.out.mono ?_
  rintro r w2 ⟨rfl, hS⟩
  have c1 := isRd_cell_ok hS
  obtain ⟨a, c, c0, -, -, -, herr, -, f1⟩ := isRd_read hS
  rw [← HM.out] at c0
  have hS3 := herr 3 (by omega)
  clear herr hS
  go_wp2_with fail
  go_ret
  exact ⟨rfl, hS3⟩
theorem rrlen_ok {W w : World} {A : Assn} (p : Nat) (st : RSt) (h : Sat W w (sep (isRd 100 p st) A)) (hl : RSt.small st) (n : Nat) (l : List UInt8) (he : stU st = (n, .ok l)) (hn : n ≤ l.length) :
    Calls Tryz.prog 81 #[.pointer (some ⟨p, 0, none⟩)] w fun r w' => r = .returned (.int .i64 (n : Nat)) ∧ Sat W w' (sep (isRd 100 p (.ok l)) A) := by
  have hu := rruint_spec p st h hl
  have hsm := stU_small hl
  rw [he] at hu hsm
  have hll : l.length ≤ 1073742900 := hsm
  have HU := Lib.hid hu
  obtain ⟨m, hm⟩ : ∃ m, m = l.length := ⟨_, rfl⟩
  rw [← hm] at hn hll
  have hwl : IntKind.u64.wrap (m : Int) = (m : Int) := wraps_u64 _ (by omega) (by omega)
  have HM := Lib.hid hm
  have hnN : ¬ m < n := by omega
  have hw64 : wrap64 (n : Int) = (n : Int) := by unfold wrap64; omega
  clear hu he h hl hm hsm hll hn
  go_enter Tryz.func81, Tryz.ntmps81
  go_wp2_with fail
  refine HU.out.mono ?_
  rintro r w2 ⟨rfl, hS⟩
  have c1 := isRd_cell_ok hS
  obtain ⟨a, c, c0, -⟩ := isRd_read hS
  rw [← HM.out] at c0
  go_wp2_with fail
  go_ret
  exact ⟨ret_int hw64, hS⟩
/-- 's[:k]' of bytes that are known. -/
theorem _root_.PA.Sat.bytes_take {W w : World} {A : Assn} {a : Option Addr} {n c : Nat} {l : List UInt8} (k : Nat) (hn : n = l.length) (hk : k ≤ n) (h : Sat W w (sep (rBytes.is [.slice a n c] l) A)) :
    Sat W w (sep (rBytes.is [.slice a k c] (l.take k)) A) := by
  subst hn
  refine h.wk ?_
  rintro I m ⟨x, y, h5, h6, ⟨h7, hr⟩, h9⟩
  refine ⟨x, y, h5, h6, ⟨h7, ?_⟩, h9⟩
  obtain ⟨a', c', e, hw, hc⟩ := bytes_rel.1 hr
  cases e
  have hl : (l.take k).length = k := by simp; omega
  refine bytes_rel.2 ⟨a, c, by rw [hl], ⟨by rw [hl]; have := hw.1; omega, hw.2.1, hw.2.2⟩, ?_⟩
  rcases hc with hc | ⟨b', o', cs, t, f, e1, e2, e3⟩
  · left
    have : l = [] := by simpa using hc
    rw [this]; simp
  · right
    refine ⟨b', o', cs, t, f, e1, e2, fun i u hu => e3 i u ?_⟩
    rw [List.map_take, List.getElem?_take] at hu
    split at hu
    · exact hu
    · cases hu
theorem rd_split {W w : World} {A : Assn} {T p b o n m c : Nat} {l : List UInt8} (hm : m = l.length) (hn : n ≤ m)
    (h : Sat W w (sep (blk p (.cells #[.slice (if c = n then some ⟨b, o, none⟩ else some ⟨b, o + n, none⟩) (m - n) (c - n), .int .i64 0] T (0, 0))) (sep (rBytes.is [.slice (some ⟨b, o, none⟩) m c] l) A))) :
    Sat W w (sep (rBytes.is [.slice (some ⟨b, o, none⟩) n c] (l.take n)) (sep (isRd T p (.ok (l.drop n))) A)) := by
  have h1 : Sat W w (sep (rBytes.is [.slice (some ⟨b, o, none⟩) m c] l) (sep (rBytes.is [.slice (some ⟨b, o, none⟩) m c] l) _)) := h.p1.dup
  have h2 := h1.bytes_take n hm hn
  have h3 := h2.p1.bytes_drop n hm hn
  have h4 : Sat W w (sep (blk p (.cells #[.slice (if c = n then some ⟨b, o, none⟩ else some ⟨b, o + n, none⟩) (m - n) (c - n), .int .i64 0] T (0, 0))) (sep (rBytes.is [.slice (if c = n then some ⟨b, o, none⟩ else some ⟨b, o + n, none⟩) (m - n) (c - n)] (l.drop n)) (sep (rBytes.is [.slice (some ⟨b, o, none⟩) n c] (l.take n)) A))) := by
    simpa only [sep_comm, sep_lcomm, sep_assoc] using h3
  exact (isRd_okmk (by rw [List.length_drop, hm]) h4).p1
theorem rd_split_nil {W w : World} {A : Assn} {T p : Nat} {a a2 : Option Addr} {c c2 : Nat} (hw : Swf a2 0 c2)
    (h : Sat W w (sep (blk p (.cells #[.slice a2 0 c2, .int .i64 0] T (0, 0))) (sep (rBytes.is [.slice a 0 c] []) A))) :
    Sat W w (sep (rBytes.is [.slice a 0 c] []) (sep (isRd T p (.ok [])) A)) := by
  have h2 := (h.rsl_nil a2).bytes_mk (bs := []) hw
  exact (isRd_okmk (T := T) (p := p) (l := []) rfl (h2.p1)).p1
theorem rrraw_spec {W w : World} {A : Assn} (p : Nat) (st : RSt) (h : Sat W w (sep (isRd 100 p st) A)) (hl : RSt.small st) :
    Calls Tryz.prog 63 #[.pointer (some ⟨p, 0, none⟩)] w fun r w' => ∃ v, r = .returned v ∧ Sat W w' (sep (rBytes.is [v] (stR st).1) (sep (isRd 100 p (stR st).2) A)) := by
  have bad : ∀ e : Int, stR st = ([], .error e) → Calls Tryz.prog 81 #[.pointer (some ⟨p, 0, none⟩)] w (fun r w' => r = .returned (.int .i64 0) ∧ Sat W w' (sep (isRd 100 p (.error e)) A)) →
      Calls Tryz.prog 63 #[.pointer (some ⟨p, 0, none⟩)] w fun r w' => ∃ v, r = .returned v ∧ Sat W w' (sep (rBytes.is [v] (stR st).1) (sep (isRd 100 p (stR st).2) A)) := by
    intro e he hc
    have HC := Lib.hid hc
    have HE := Lib.hid he
    clear h hl he hc
    go_enter Tryz.func63, Tryz.ntmps63
    go_wp2_with fail
    refine HC.out.mono ?_
    rintro r w2 ⟨rfl, hS⟩
    obtain ⟨c1, he⟩ := isRd_cell_er hS
    have b1 : (e == 0) = false := by simp; omega
    have b2 : (e != 0) = true := by simp; omega
    clear he
    go_wp2_with fail
    go_ret
    rw [HE.out]
    exact ⟨_, rfl, hS.bytes_nil⟩
  rcases stU_cases st with ⟨e, he⟩ | ⟨n, l, he⟩
  · exact bad e (stR_er he) (rrlen_er p st h hl e he)
  · by_cases hlt : l.length < n
    · exact bad 3 (by rw [stR_ok he, if_pos hlt]) (rrlen_short p st h hl n l he hlt)
    · have hr : stR st = (l.take n, .ok (l.drop n)) := by rw [stR_ok he, if_neg hlt]
      have HC := Lib.hid (rrlen_ok p st h hl n l he (by omega))
      have hsm := stU_small hl
      rw [he] at hsm
      have hll : l.length ≤ 1073742900 := hsm
      have HR := Lib.hid hr
      obtain ⟨m, hm⟩ : ∃ m, m = l.length := ⟨_, rfl⟩
      have hnm : n ≤ m := by omega
      have hmI : (m : Int) ≤ 1073742900 := by omega
      have HM := Lib.hid hm
      clear h hl he hr hsm hll bad hlt hm
      go_enter Tryz.func63, Tryz.ntmps63
      go_wp2_with fail
      refine HC.out.mono ?_
      rintro r w2 ⟨rfl, hS⟩
      have c1 := isRd_cell_ok hS
      obtain ⟨a, c, hw, h1⟩ := isRd_ok hS
      rw [← HM.out] at h1 hw
      have c0 : w2.cell? ⟨p, 0, none⟩ = some (.slice a m c) := h1.cell 0
      have f0 : w2.frozen? ⟨p, 0, none⟩ = false := h1.unfrozen 0
      have h2 : ∀ v, Sat W (w2.setCell ⟨p, 0, none⟩ v) (sep (blk p (.cells #[v, .int .i64 0] 100 (0, 0))) (sep (rBytes.is [.slice a m c] l) A)) := fun v => h1.setCell 0 v
      have hmc : m ≤ c := hw.1
      have hcm : (c : Int) ≤ 9223372036854775807 := by have := hw.2.1; unfold maxLen at this; omega
      have hw3 := hw.2.2
      have H2 := Lib.hid h2
      have HW := Lib.hid hw
      clear h1 h2 hS hw
      cases a with
      | none =>
        have hc0 := hw3 rfl
        subst hc0
        obtain rfl : m = 0 := by omega
        obtain rfl : n = 0 := by omega
        clear hw3
        go_wp2_with fail
        go_ret
        rw [HR.out]
        have hl0 : l = [] := List.eq_nil_of_length_eq_zero HM.out.symm
        rw [hl0] at H2 ⊢
        exact ⟨_, rfl, rd_split_nil ⟨Nat.le_refl _, Nat.zero_le _, fun _ => rfl⟩ (H2.out _)⟩
      | some ad =>
        obtain ⟨b, o, sp⟩ := ad
        by_cases hl0 : l = []
        · have hm0 : m = 0 := by rw [HM.out, hl0]; rfl
          subst hm0
          obtain rfl : n = 0 := by omega
          rw [hl0] at H2 HR
          clear hw3 hnm hl0
          by_cases hc0 : c = 0
          · subst hc0
            go_wp2_with fail
            go_ret
            rw [HR.out]
            exact ⟨_, rfl, rd_split_nil ⟨Nat.zero_le _, by have := HW.out.2.1; omega, fun e => by cases e⟩ (H2.out _)⟩
          · go_wp2_with fail
            go_ret
            rw [HR.out]
            exact ⟨_, rfl, rd_split_nil ⟨Nat.zero_le _, by have := HW.out.2.1; omega, fun e => by cases e⟩ (H2.out _)⟩
        · obtain ⟨-, -, -, hc⟩ := (H2.out (.int .i64 0)).p1.bytes_src
          obtain ⟨b', o', e, -⟩ := hc 0 (List.length_pos_iff.2 hl0)
          cases e
          clear hc hw3
          have h3 := rd_split HM.out hnm (H2.out (.slice (if c = n then some ⟨b, o, none⟩ else some ⟨b, o + n, none⟩) (m - n) (c - n)))
          have H3 := Lib.hid h3
          clear h3 hl0
          by_cases hcn : c = n
          · have h4 := H3.out
            rw [if_pos hcn] at h4
            have H4 := Lib.hid h4
            clear h4
            subst hcn
            obtain rfl : c = m := by omega
            go_wp2_with fail
            go_ret
            rw [HR.out]
            have h5 := H4.out
            rw [Nat.sub_self] at h5
            exact ⟨_, rfl, h5⟩
          · have h4 := H3.out
            rw [if_neg hcn] at h4
            have H4 := Lib.hid h4
            clear h4
            go_wp2_with fail
            go_ret
            rw [HR.out]
            exact ⟨_, rfl, H4.out⟩
end Go.Proofs.YtdaknmcmjnbfeaaGreat
