/- Package acts: Sort (slices.Clone, SortStableFunc) of 1 to 39 acts. -/
import Derived.Test.YtfapiopnjllnnaaGreatDoorGTitleStays29
import Derived.Test.YtfapiopnjllnnaaGreatDoorUtil
import Derived.Lib.SliceRun
namespace Go.Proofs.YtfapiopnjllnnaaGreatDoor
open Go.RowKit PA
theorem infoAct : (Tryz.prog.info? 57).map (fun i => (i.zero, i.size, i.bytes)) = some (some (.agg Ac.zero.cells.toArray), 19, 248) := by kernel_rfl
theorem cloneActs_spec {W w : World} {A : Assn} {I : Mem} (b : Addr) (n c : Nat) (xs : List Ac) (hn : xs.length = n) (h40 : n ≤ 65536) (hw : Swf (some b) n c) (hc : cellsAt (some b) (acs xs) I) (h : Sat W w (sep (kn I) A)) :
    Calls Tryz.prog 38 #[.slice (some b) n c] w fun e w' => ∃ a' c', e = .returned (.slice a' n c') ∧ Sat W w' (sep (osl 57 19 a' n c' (acs xs)) (sep (kn I) A)) := by
  obtain ⟨hw1, hw2, hw3⟩ := hw
  have hq := fun w a n c => Lib.run_eql_slice_nil (P := Tryz.prog) w 29 57 a n c 0 0 Tryz.underlying29
  have hS := (h.alloc (.cells #[] 57)).osl_mk 0 0 19 [] rfl (by omega) (by unfold maxLen; omega) rfl rfl
  have hsrc := src_ext hc h.ext b rfl
  have hc2 := Lib.hid (old_src hsrc (.cells #[] 57))
  have hl : (acs xs).length = n * 19 := by rw [acs_len, hn]
  have h1 := acs_one xs
  obtain ⟨vs, hvs⟩ : ∃ vs, vs = acs xs := ⟨_, rfl⟩
  rw [← hvs] at hc2 hl h1 ⊢
  have HW2 := Lib.hid hw2
  have HL := Lib.hid hl
  have H1 := Lib.hid h1
  have h40I : (n : Int) ≤ 65536 := by omega
  clear hsrc hw1 hw2 hw3 hc hvs hl h1 h hn
  go_enter Tryz.func38, Tryz.ntmps38
  go_wp2_with (at_builtin; refine wpl_append_osl rfl _ _ 29 rfl 57 19 248 _ Tryz.underlying29 infoAct rfl rfl hS rfl vs HL.out (by simp) (by intro b' hb; cases hb; exact hc2.out) H1.out (by omega) (by unfold maxLen; omega) ?_)
  intro a' c' w' hS'
  go_wp2
  go_ret
  refine ⟨a', c', ?_, ?_⟩
  · simp
  · simpa using hS'
theorem osl_arow {W w : World} {A : Assn} {a : Option Addr} {n c : Nat} {xs : List Ac} (hn : xs.length = n) (h0 : 0 < n) (h : Sat W w (sep (osl 57 19 a n c (acs xs)) A)) :
    ∃ g tl, a = some ⟨g, 0, none⟩ ∧ n ≤ c ∧ c ≤ maxLen ∧ (n * 19 + tl.length = c * 19) ∧ Sat W w (sep (arow g n (fun i => xs.getD i default) tl) A) := by
  rcases h.osl_cases with ⟨-, rfl, -, -, -⟩ | ⟨g, cur, rfl, h1, h2, h3, h4, h5, h6⟩
  · omega
  · have hle : n * 19 ≤ c * 19 := Nat.mul_le_mul_right _ h2
    refine ⟨g, cur.toList.drop (n * 19), rfl, h2, h3, by rw [List.length_drop, Array.length_toList, h4]; omega, ?_⟩
    unfold arow
    subst hn
    rw [list_of_fn, ← h5, List.take_append_drop, Array.toArray_toList]
    exact h6
theorem arow_osl {W w : World} {A : Assn} {g n c : Nat} {f : Nat → Ac} {tl : List Value} (h2 : n ≤ c) (h3 : c ≤ maxLen) (h4 : n * 19 + tl.length = c * 19) (h : Sat W w (sep (arow g n f tl) A)) :
    Sat W w (sep (osl 57 19 (some ⟨g, 0, none⟩) n c (acs ((List.range n).map f))) A) := by
  have hl : (acs ((List.range n).map f)).length = n * 19 := by rw [acs_len]; simp
  refine h.osl_mk n c 19 _ hl h2 h3 (by simp [hl]; omega) ?_
  show (acs ((List.range n).map f) ++ tl).take (n * 19) = _
  rw [← hl, List.take_left]
set_option maxHeartbeats 1000000 in
theorem sort_spec {W w : World} {A A0 : Assn} {D : Ac → Ac → Prop} {c : Ac → Ac → Int} {I : Mem} (hT : Total c) (hC : CmpOK W A0 D c) (hsy : ∀ x y, D x y → D y x) (b : Addr) (n cp : Nat) (xs : List Ac) (hn : xs.length = n) (hD : xs.Pairwise D) (h0 : 0 < n) (h40 : n < 40)
    (hw : Swf (some b) n cp) (hc : cellsAt (some b) (acs xs) I) (h : Sat W w (sep (kn I) (sep A0 A))) :
    Calls Tryz.prog 22 #[.slice (some b) n cp] w fun e w' => ∃ ys g c' J, e = .returned (.slice (some ⟨g, 0, none⟩) n c') ∧ ys.Perm xs ∧ Asc c ys ∧ Mem.le I J ∧ n ≤ c' ∧ c' ≤ maxLen ∧ cellsAt (some ⟨g, 0, none⟩) (acs ys) J ∧ Sat W w' (sep (kn J) (sep A0 A)) := by
  have hcl := Lib.hid (cloneActs_spec b n cp xs hn (by omega) hw hc h)
  have HN := Lib.hid hn
  have HD : Hid (DF D n fun i => xs.getD i default) := Lib.hid (by have := DF.of_list hsy hD; rw [hn] at this; exact this)
  have HTC := Lib.hid (And.intro hT hC)
  clear hn hD hsy hc hw hT hC h
  go_enter Tryz.func22, Tryz.ntmps22
  go_wp2_with fail
  refine hcl.out.mono ?_
  rintro e w2 ⟨a', c', rfl, h2⟩
  obtain ⟨g, tl, rfl, hc1, hc2, hc3, h3⟩ := osl_arow HN.out h0 h2
  have hst := stable_spec (A := sep (kn I) A) HTC.out.1 HTC.out.2 HD.out h40 c' (show Sat W w2 (sep (arow g n (fun i => xs.getD i default) tl) (sep A0 (sep (kn I) A))) by simpa only [sep_comm, sep_lcomm, sep_assoc] using h3)
  have HST := Lib.hid hst
  have HCC := Lib.hid (And.intro hc1 (And.intro hc2 hc3))
  clear hcl h2 h3 hst hc1 hc2 hc3
  go_wp2_with (first | (go_at_call 61; refine HST.out.mono ?_) | go_in)
  rintro e w4 ⟨rfl, f', r1, r2, r3⟩
  have h5 := (arow_osl HCC.out.1 HCC.out.2.1 HCC.out.2.2 r3).osl_settle
  have hp := r1.perm
  have hl := r2.list
  have HPL := Lib.hid (And.intro hp hl)
  have HF : Hid (Sat W w4 (sep (rsl (some ⟨g, 0, none⟩) (acs ((List.range n).map f'))) (sep (kn I) (sep A0 A)))) := Lib.hid (by simpa only [sep_comm, sep_lcomm, sep_assoc] using h5)
  clear r1 r2 r3 h5 hp hl HST
  go_wp2
  go_end0
  go_wp2
  go_ret
  obtain ⟨J, hle, hJ, hS⟩ := HF.out.learn
  refine ⟨_, g, c', J, rfl, ?_, HPL.out.2, hle, HCC.out.1, HCC.out.2.1, hJ, hS⟩
  refine HPL.out.1.trans ?_
  have := HN.out
  subst this
  rw [list_of_fn]
theorem cmpK_total : Total cmpK := ⟨fun _ _ _ => cmpK_trans, cmpK_flip⟩
theorem cmpK_ok (W : World) : CmpOK W emp KeyNe cmpK := fun x y w B hne h => by
  rw [emp_sep] at h
  refine (compareK_spec x y hne h).mono ?_
  rintro e w' ⟨rfl, h2⟩
  exact ⟨rfl, by rw [emp_sep]; exact h2⟩
end Go.Proofs.YtfapiopnjllnnaaGreatDoor
