/- made: a disk and its model after some operations. -/
import Derived.Test.YtbniekblkbdidaaRc
namespace Go.Proofs.Ytbniekblkbdidaa
open Go.RowKit PA
/-- One operation of a known slice of operations. -/
theorem op_el {I : Mem} {a : Option Addr} {n c : Nat} {xs : List OpD} (h : (rOp.slice 5).rel I [.slice a n c] xs) (i : Nat) (hi : i < xs.length) :
    ∃ b o vb vk, a = some ⟨b, o, none⟩ ∧ rBytes.rel I [vb] xs[i].b ∧ (rInt.slice 1).rel I [vk] xs[i].keep ∧ ∀ w, Ext I w → w.cell? ⟨b, o + i * 5, none⟩ = some (.int .i64 xs[i].kind) ∧ w.cell? ⟨b, o + i * 5 + 1, none⟩ = some (.int .i64 xs[i].file) ∧ w.cell? ⟨b, o + i * 5 + 2, none⟩ = some (.int .i64 xs[i].n) ∧ w.cell? ⟨b, o + i * 5 + 3, none⟩ = some vb ∧ w.cell? ⟨b, o + i * 5 + 4, none⟩ = some vk := by
  obtain ⟨a', c', cells, e, hw, hc, css, rfl, hall⟩ := h
  simp only [List.cons.injEq, Value.slice.injEq, and_true] at e
  obtain ⟨rfl, rfl, rfl⟩ := e
  have hl := hall.length
  have hi' : i < css.length := by omega
  obtain ⟨⟨vb, vk, hv, hb, hk⟩, -⟩ := hall.get i hi' hi
  have hf : ∀ j, j < 5 → css.flatten[i * 5 + j]? = css[i][j]? := fun j hj => flatten_get (k := 5) css (fun c hc => (hall.mem c hc).choose_spec.2) i hi' j hj
  have hne : css.flatten ≠ [] := fun e => by
    have := hf 0 (by omega)
    rw [e, hv] at this; simp at this
  obtain ⟨b, o, e, h2⟩ := cells_ext hc hne
  refine ⟨b, o, vb, vk, e, hb, hk, fun w he => ?_⟩
  have g : ∀ j v, j < 5 → css[i][j]? = some v → w.cell? ⟨b, o + i * 5 + j, none⟩ = some v := fun j v hj hv => by
    rw [Nat.add_assoc]
    exact h2 w he (i * 5 + j) v (by rw [hf j hj, hv])
  refine ⟨?_, ?_, ?_, ?_, ?_⟩
  · exact g 0 _ (by omega) (by rw [hv]; rfl)
  · exact g 1 _ (by omega) (by rw [hv]; rfl)
  · exact g 2 _ (by omega) (by rw [hv]; rfl)
  · exact g 3 _ (by omega) (by rw [hv]; rfl)
  · exact g 4 _ (by omega) (by rw [hv]; rfl)
set_option maxRecDepth 100000 in
set_option maxHeartbeats 8000000 in
theorem made29_spec {W w : World} {A : Assn} {I : Mem} (room : Int) (a0 : Option Addr) (n0 c0 : Nat) (l : List Int) (h : Sat W w (sep (kn I) A)) (hroom : I64' room) (hv : (rInt.slice 1).rel I [.slice a0 n0 c0] l) (h64 : ∀ x ∈ l, I64' x) :
    Calls Try.prog 27 #[.int .i64 room, .slice a0 n0 c0] w fun e w' => ∃ p q s J, Mem.le I J ∧ e = .returned (.tuple #[.pointer (some ⟨p, 0, none⟩), .pointer (some ⟨q, 0, none⟩)]) ∧ Sat W w' (sep (isDisk p s) (sep (isRD q s) (sep (kn J) A))) := by
  have HV := Lib.hid (And.intro hv h64)
  have H := Lib.hid h
  have HR := Lib.hid hroom
  clear h hv h64 hroom
  go_enter Try.func27, Try.ntmps27
  go_wp2_with fail
  refine (around_spec room 40 w HR.out.1 HR.out.2 (by omega) (by omega)).mono ?_
  rintro e w' ⟨rfl, rfl⟩
  have hq := aroundI_lt room 40 (by omega)
  obtain ⟨k, hk⟩ : ∃ k : Nat, aroundI room 40 = (k : Int) := ⟨(aroundI room 40).toNat, by omega⟩
  rw [hk] at hq ⊢
  have hk40 : k < 40 := by omega
  obtain ⟨rm, hrm⟩ : ∃ rm, rm = 12 + k := ⟨_, rfl⟩
  have hrI : 12 + (k : Int) = (rm : Int) := by omega
  have hrb : rm ≤ 60 := by omega
  have HN := Lib.hid (dnew_ok rm H.out (by omega))
  clear hq hk hrm
  go_wp2_with fail
  refine HN.out.mono ?_
  rintro e w2 ⟨p, rfl, h2⟩
  have HRN := Lib.hid (rdnew_spec rm h2 (by omega))
  clear HN h2
  go_wp2_with fail
  refine HRN.out.mono ?_
  rintro e w3 ⟨q, rfl, h3⟩
  have HO := Lib.hid (rdops_spec a0 n0 c0 l h3.p2 HV.out.1 HV.out.2)
  clear HRN h3
  go_wp2_with fail
  refine HO.out.mono ?_
  rintro e w4 ⟨J, oa, oc, ops, hIJ, rfl, hol, hor, hok, h4⟩
  obtain ⟨m, hm⟩ : ∃ m, m = ops.length := ⟨_, rfl⟩
  rw [← hm] at hor hol ⊢
  have HOP := Lib.hid (And.intro hm (And.intro hor (And.intro hok hIJ)))
  clear HO hm hor hok hIJ
  go_wp2_with fail
  go_loopw [11] (fun iv' wr => ∃ (i : Nat) (s : DSt), i ≤ m ∧ iv' = .int .i64 (i : Nat) ∧ Sat W wr (sep (isDisk p s) (sep (isRD q s) (sep (kn J) A)))) (fun iv' _ => m - (intOf iv').toNat)
  case atStart => exact ⟨0, newD rm, by omega, rfl, (h4.p1).p2⟩
  case round =>
    clear h4
    obtain ⟨i, s, hi, rfl, hS⟩ := hrel
    by_cases him : i < m
    · have hio : i < ops.length := by rw [← HOP.out.1]; exact him
      obtain ⟨b, o, vb, vk, rfl, hvb, hvk, hcell⟩ := op_el HOP.out.2.1 i hio
      obtain ⟨op, hop⟩ : ∃ op, op = ops[i] := ⟨_, rfl⟩
      rw [← hop] at hvb hvk
      have hcell2 := hcell
      simp only [← hop] at hcell2
      have hopk : opOK op := by rw [hop]; exact HOP.out.2.2.1 _ (List.getElem_mem hio)
      obtain ⟨g0, g1, g2, g3, g4⟩ := hcell2 wr hS.p2.ext
      have HD := Lib.hid (do29_spec p s op vb vk hS.p2.p1 hvb hvk hopk)
      have HC := Lib.hid hcell2
      have HB := Lib.hid (And.intro hvb (And.intro hvk hopk))
      have himI : (i : Int) < (m : Int) := by omega
      clear hcell hcell2 hio hvb hvk hop hopk hS him
      go_wp2_with fail
      refine HD.out.mono ?_
      rintro e w5 ⟨rfl, h5⟩
      clear HD g0 g1 g2 g3 g4
      obtain ⟨g0, g1, g2, g3, g4⟩ := HC.out w5 h5.p1.ext
      have HD := Lib.hid (rdo_spec q s op vb vk (h5.p1.p2) HB.out.1 HB.out.2.1 HB.out.2.2)
      clear h5
      go_wp2_with fail
      refine HD.out.mono ?_
      rintro e w6 ⟨rfl, h6⟩
      have h7 : Sat W w6 (sep (isDisk p (doD s op).2) (sep (isRD q (doD s op).2) (sep (kn J) A))) := by
        simpa only [sep_comm, sep_lcomm, sep_assoc] using h6
      obtain ⟨s2, hs2⟩ : ∃ s2, s2 = (doD s op).2 := ⟨_, rfl⟩
      rw [← hs2] at h7
      have H7 := Lib.hid h7
      clear HD h6 h7 hs2 g0 g1 g2 g3 g4
      go_wp2_with fail
      go_roundw
      case rel => exact ⟨i + 1, s2, by omega, rfl, H7.out⟩
      case measure => simp only [intOf]; omega
    · have himI : ¬ (i : Int) < (m : Int) := by omega
      have HS := Lib.hid hS
      clear hS
      go_wp2_with fail
      go_ret2
      exact ⟨p, q, s, J, HOP.out.2.2.2, rfl, HS.out⟩
end Go.Proofs.Ytbniekblkbdidaa
