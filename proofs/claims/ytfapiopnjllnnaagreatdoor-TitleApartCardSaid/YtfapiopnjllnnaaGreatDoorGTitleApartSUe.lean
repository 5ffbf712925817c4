/- Package title: its errors; sorts of nothing. -/
import Derived.Test.YtfapiopnjllnnaaGreatDoorGTitleApartSTx
import Derived.Test.YtfapiopnjllnnaaGreatDoorGTitleApart32
import Derived.Test.YtfapiopnjllnnaaGreatDoorGTitleApartSUf
namespace Go.Proofs.YtfapiopnjllnnaaGreatDoor
open Go.RowKit PA
theorem ins_none {W w : World} {A : Assn} (v fv : Value) (h : Sat W w A) : Calls Tryz.prog 83 #[v, .int .i64 0, .int .i64 0, fv] w fun e w' => e = .returned (.tuple #[]) ∧ Sat W w' A := by
  go_enter Tryz.func83, Tryz.ntmps83
  go_wp2
  go_loopw [8] (fun iv wr => iv = .int .i64 1 ∧ Sat W wr A) (fun _ _ => 0)
  case atStart => exact ⟨rfl, h⟩
  case round =>
    obtain ⟨rfl, hS⟩ := hrel
    go_wp2
    go_end0
    exact ⟨rfl, hS⟩
theorem stable_none {W w : World} {A : Assn} (v fv : Value) (h : Sat W w A) : Calls Tryz.prog 61 #[v, .int .i64 0, fv] w fun e w' => e = .returned (.tuple #[]) ∧ Sat W w' A := by
  have HI := Lib.hid (fun w (h : Sat W w A) => ins_none v fv h)
  go_enter Tryz.func61, Tryz.ntmps61
  go_wp2
  go_loopw [7, 8] (fun av iv wr => av = .int .i64 0 ∧ iv = .int .i64 20 ∧ Sat W wr A) (fun _ _ _ => 0)
  case atStart => exact ⟨rfl, rfl, h⟩
  case round =>
    obtain ⟨rfl, rfl, hS⟩ := hrel
    go_wp2_with fail
    refine (HI.out _ hS).mono ?_
    rintro e w2 ⟨rfl, h2⟩
    go_wp2
    go_loopw [6] (fun iv wr => iv = .int .i64 20 ∧ Sat W wr A) (fun _ _ => 0)
    case atStart => exact ⟨rfl, h2⟩
    case round =>
      obtain ⟨rfl, hS3⟩ := hrel
      go_wp2
      go_end0
      exact ⟨rfl, hS3⟩
theorem clone_none (w : World) : Calls Tryz.prog 38 #[.slice none 0 0] w fun e w' => e = .returned (.slice none 0 0) ∧ w = w' := by
  have hq := fun w a n c => Lib.run_eql_slice_nil (P := Tryz.prog) w 29 57 a n c 0 0 Tryz.underlying29
  go_enter Tryz.func38, Tryz.ntmps38
  go_wp2
  go_ret
  exact ⟨rfl, rfl⟩
/-- Sort of nothing. -/
theorem sort_none {W w : World} {A : Assn} (h : Sat W w A) : Calls Tryz.prog 22 #[.slice none 0 0] w fun e w' => e = .returned (.slice none 0 0) ∧ Sat W w' A := by
  have HS := Lib.hid (fun w (h : Sat W w A) => stable_none (.slice none 0 0) (.func (.func 40) #[] #[]) h)
  go_enter Tryz.func22, Tryz.ntmps22
  go_wp2_with fail
  refine (clone_none w).mono ?_
  rintro e w1 ⟨rfl, rfl⟩
  go_wp2_with (first | (go_at_call 61; refine (HS.out _ h).mono ?_) | go_in)
  rintro e w2 ⟨rfl, h2⟩
  go_wp2
  go_end0
  go_wp2
  go_ret
  exact ⟨rfl, h2⟩
/-- Sort of a slice that is empty, but not nil. -/
theorem sort_empty {W w : World} {A : Assn} {I : Mem} (b : Addr) (c : Nat) (hw : Swf (some b) 0 c) (h : Sat W w (sep (kn I) A)) : Calls Tryz.prog 22 #[.slice (some b) 0 c] w fun e w' => ∃ a' c', e = .returned (.slice a' 0 c') ∧ Sat W w' (sep (kn I) A) := by
  have hcl := Lib.hid (cloneActs_spec b 0 c [] rfl (by omega) hw (.inl rfl) h)
  have HS := Lib.hid (fun v w (h : Sat W w (sep (kn I) A)) => stable_none v (.func (.func 40) #[] #[]) h)
  clear h
  go_enter Tryz.func22, Tryz.ntmps22
  go_wp2_with fail
  refine hcl.out.mono ?_
  rintro e w1 ⟨a', c', rfl, h1⟩
  have H1 := Lib.hid h1.forget_osl
  clear h1 hcl
  go_wp2_with (first | (go_at_call 61; refine (HS.out _ _ H1.out).mono ?_) | go_in)
  rintro e w2 ⟨rfl, h2⟩
  go_wp2
  go_end0
  go_wp2
  go_ret
  exact ⟨_, _, rfl, h2⟩
/-- Sorted acts, settled. -/
def ActS (J : Mem) (u : Value) (ys : List Ac) : Prop := (∃ g c, u = .slice (some ⟨g, 0, none⟩) ys.length c ∧ 0 < ys.length ∧ cellsAt (some ⟨g, 0, none⟩) (acs ys) J) ∨ (ys = [] ∧ ∃ a c, u = .slice a 0 c)
theorem sort_any {W w : World} {A : Assn} {I : Mem} (v : Value) (xs : List Ac) (hD : xs.Pairwise KeyNe) (h40 : xs.length < 40) (hv : ActL I v xs) (h : Sat W w (sep (kn I) A)) :
    Calls Tryz.prog 22 #[v] w fun e w' => ∃ (u : Value) (J : Mem), e = .returned u ∧ Mem.le I J ∧ ActS J u (sortK xs) ∧ Sat W w' (sep (kn J) A) := by
  obtain ⟨a, n, c, rfl, hn, hsw, hc⟩ := hv
  rcases Nat.eq_zero_or_pos n with h0 | h0
  · have hx : xs = [] := List.eq_nil_of_length_eq_zero (by omega)
    subst h0 hx
    cases a with
    | none =>
      obtain rfl := hsw.2.2 rfl
      refine (sort_none h).mono ?_
      rintro e w' ⟨rfl, h2⟩
      exact ⟨_, I, rfl, Mem.le_refl _, .inr ⟨by simp [sortK], _, _, rfl⟩, h2⟩
    | some b =>
      refine (sort_empty b c hsw h).mono ?_
      rintro e w' ⟨a', c', rfl, h2⟩
      exact ⟨_, I, rfl, Mem.le_refl _, .inr ⟨by simp [sortK], _, _, rfl⟩, h2⟩
  · have hne : acs xs ≠ [] := fun e => by have := congrArg List.length e; rw [acs_len, List.length_nil] at this; omega
    obtain ⟨b, o, rfl, -⟩ := cells_ext hc hne
    refine (sortK_spec ⟨b, o, none⟩ n c xs hn.symm hD h0 (by omega) hsw hc h).mono ?_
    rintro e w' ⟨g, c', J, rfl, hle, h1, h2, h3, h4⟩
    have hl := sortK_len xs
    exact ⟨_, J, rfl, hle, .inl ⟨g, c', by rw [hl, ← hn], by rw [hl]; omega, h3⟩, h4⟩
theorem index_any {W w : World} {A : Assn} {J : Mem} (file : Int) (Bf : Nat) (hJ : J Bf = some (.cells #[.int .i64 file] 3 (0, 0))) (u : Value) (ys : List Ac) (h40 : ys.length ≤ 65536) (hu : ActS J u ys) (h : Sat W w (sep (kn J) A)) :
    Calls Tryz.prog 75 #[u, .func (.func 76) #[] #[.pointer (some ⟨Bf, 0, none⟩)]] w fun e w' => e = .returned (.int .i64 (idxF file ys)) ∧ Sat W w' (sep (kn J) A) := by
  rcases hu with ⟨g, c, rfl, -, hc⟩ | ⟨rfl, a, c, rfl⟩
  · exact indexActs_spec file Bf hJ g _ c ys rfl h40 hc h
  · go_enter Tryz.func75, Tryz.ntmps75
    go_wp2
    go_loopw [8] (fun kv wr => kv = .int .i64 0 ∧ Sat W wr (sep (kn J) A)) (fun _ _ => 0)
    case atStart => exact ⟨rfl, h⟩
    case round =>
      obtain ⟨rfl, hS⟩ := hrel
      go_wp2
      go_ret
      exact ⟨rfl, hS⟩
theorem idxF_none {file : Int} {ys : List Ac} (h : filedT file ys = none) : idxF file ys = -1 := by
  unfold filedT at h
  rw [List.find?_eq_none] at h
  unfold idxF
  have : ys.findIdx? (isFiling file) = none := by rw [List.findIdx?_eq_none_iff]; intro x hx; have := h x hx; simpa using this
  rw [this]
attribute [local go_sem ↓] storeAt_act loadAt_act
attribute [local go_sem] st_lit
set_option maxHeartbeats 2000000 in
theorem filed_err {W w : World} {A : Assn} {J : Mem} (file day : Int) (u : Value) (ys : List Ac) (h40 : ys.length ≤ 65536) (hu : ActS J u ys) (hr : titleErr file day ys ≠ 0) (h : Sat W w (sep (kn J) A)) :
    Calls Tryz.prog 53 #[.int .i64 file, .int .i64 day, u] w fun e w' => e = .returned (.tuple #[.agg #[.int .i64 0, .int .i64 0, .int .i64 0, .int .i64 0, .int .i64 0, .int .i64 0, .int .i64 0, .int .i64 0, .int .i64 0, .int .i64 0, .int .i64 0, .slice none 0 0, .slice none 0 0, .slice none 0 0, .slice none 0 0, .int .i64 0, .int .i64 0, .slice none 0 0, .slice none 0 0], .int .i64 (titleErr file day ys)]) ∧ ∃ J', Mem.le J J' ∧ Sat W w' (sep (kn J') A) := by
  obtain ⟨J2, hle, hJ2, h1⟩ := (h.alloc (.cells #[.int .i64 file] 3)).settle.learn
  have h2 := h1.alloc (.cells #[.int .i64 0, .int .i64 0, .int .i64 0, .int .i64 0, .int .i64 0, .int .i64 0, .int .i64 0, .int .i64 0, .int .i64 0, .int .i64 0, .int .i64 0, .slice none 0 0, .slice none 0 0, .slice none 0 0, .slice none 0 0, .int .i64 0, .int .i64 0, .slice none 0 0, .slice none 0 0] 57)
  rw [World.size_alloc] at h2
  obtain ⟨B, hB⟩ : ∃ B, B = w.heap.size := ⟨_, rfl⟩
  obtain ⟨w1, hw1⟩ : ∃ w1, w1 = (w.alloc (.cells #[.int .i64 file] 3)).alloc (.cells #[.int .i64 0, .int .i64 0, .int .i64 0, .int .i64 0, .int .i64 0, .int .i64 0, .int .i64 0, .int .i64 0, .int .i64 0, .int .i64 0, .int .i64 0, .slice none 0 0, .slice none 0 0, .slice none 0 0, .slice none 0 0, .int .i64 0, .int .i64 0, .slice none 0 0, .slice none 0 0] 57) := ⟨_, rfl⟩
  rw [← hB] at hJ2
  rw [← hB, ← hw1] at h2
  have hu2 : ActS J2 u ys := by
    rcases hu with ⟨g, c, e, e0, hc⟩ | e
    · exact .inl ⟨g, c, e, e0, cellsAt_mono hle hc⟩
    · exact .inr e
  have hix := fun w' A' (h' : Sat W w' (sep (kn J2) A')) => index_any file B hJ2 u ys h40 hu2 h'
  have c0 : w1.cell? ⟨B, 0, none⟩ = some (.int .i64 file) := by rw [cell_of_row _ B 0 _ _ _ (h2.p1.ext _ _ hJ2)]; rfl
  obtain ⟨er, her⟩ : ∃ er, er = titleErr file day ys := ⟨_, rfl⟩
  rw [← her] at hr ⊢
  have HER := Lib.hid her
  have HIX := Lib.hid hix
  have HB := Lib.hid hB
  have HW1 := Lib.hid hw1
  have HU := Lib.hid hu2
  have HLE := Lib.hid hle
  have H2 := Lib.hid h2
  have HN0 := Lib.hid hr
  have hmf : ∀ (fn : Fn) (first cap : Array Value) (w : World), (Instr.makeFunc fn first cap).run Tryz.prog w = .ok (.func fn first cap) w := fun _ _ _ _ => rfl
  have hst := run_stAct H2.out.blk_heap rfl Ac.zero
  have h2b := H2.out.setRow Ac.zero.cells.toArray
  obtain ⟨wb, hwb⟩ : ∃ z, z = w1.setRow (B + 1) Ac.zero.cells.toArray := ⟨_, rfl⟩
  rw [← hwb] at hst h2b
  replace hst : Sem.run Tryz.prog (stAct (.pointer (some ⟨B + 1, 0, none⟩)) (.agg #[.int .i64 0, .int .i64 0, .int .i64 0, .int .i64 0, .int .i64 0, .int .i64 0, .int .i64 0, .int .i64 0, .int .i64 0, .int .i64 0, .int .i64 0, .slice none 0 0, .slice none 0 0, .slice none 0 0, .slice none 0 0, .int .i64 0, .int .i64 0, .slice none 0 0, .slice none 0 0])) w1 = .ok () wb := hst
  have hres : Sem.run Tryz.prog (loadCellsFrom ⟨B + 1, 0, none⟩ 0 kA #[]) wb = .ok #[.int .i64 0, .int .i64 0, .int .i64 0, .int .i64 0, .int .i64 0, .int .i64 0, .int .i64 0, .int .i64 0, .int .i64 0, .int .i64 0, .int .i64 0, .slice none 0 0, .slice none 0 0, .slice none 0 0, .slice none 0 0, .int .i64 0, .int .i64 0, .slice none 0 0, .slice none 0 0] wb := act_rd (x := Ac.zero) h2b
  have HF := Lib.hid h2b.forget
  clear h2b hwb
  clear hu h hr hle hJ2 h1 h2 hB hw1 hix hu2 her h40
  by_cases hrange : file < 0 ∨ 4095 < file ∨ day < 0 ∨ 131072 < day
  · have he5 : er = 5 := by rw [HER.out]; unfold titleErr; rw [if_pos hrange]
    have HE5 := Lib.hid he5
    clear he5
    have hcases : file < 0 ∨ (¬ file < 0 ∧ 4095 < file) ∨ (¬ file < 0 ∧ ¬ 4095 < file ∧ day < 0) ∨ (¬ file < 0 ∧ ¬ 4095 < file ∧ ¬ day < 0 ∧ 131072 < day) := by omega
    clear hrange
    rcases hcases with q1 | ⟨q1, q2⟩ | ⟨q1, q2, q3⟩ | ⟨q1, q2, q3, q4⟩
    all_goals
      go_enter Tryz.func53, Tryz.ntmps53
      go_upto_region 1 with (fail)
      simp only [← HB.out]
      rw [← HW1.out]
      go_wp2
      exact bodyPost_ret (v := .tuple #[.agg #[.int .i64 0, .int .i64 0, .int .i64 0, .int .i64 0, .int .i64 0, .int .i64 0, .int .i64 0, .int .i64 0, .int .i64 0, .int .i64 0, .int .i64 0, .slice none 0 0, .slice none 0 0, .slice none 0 0, .slice none 0 0, .int .i64 0, .int .i64 0, .slice none 0 0, .slice none 0 0], .int .i64 5]) (by simp [results, Tryz.results53, go_sem, ↓sizeAct, hres]) rfl ⟨by rw [HE5.out], J2, HLE.out, HF.out⟩
  · have f1 : ¬ file < 0 := fun e => hrange (.inl e)
    have f2 : ¬ 4095 < file := fun e => hrange (.inr (.inl e))
    have d1 : ¬ day < 0 := fun e => hrange (.inr (.inr (.inl e)))
    have d2 : ¬ 131072 < day := fun e => hrange (.inr (.inr (.inr e)))
    have he := HER.out
    unfold titleErr at he
    rw [if_neg hrange] at he
    clear hrange
    cases hf : filedT file ys with
    | none =>
      rw [hf] at he
      have he7 : er = 7 := he
      have HE7 := Lib.hid he7
      have hidx := idxF_none hf
      have HIX2 : Hid (∀ w' A', Sat W w' (sep (kn J2) A') → Calls Tryz.prog 75 #[u, .func (.func 76) #[] #[.pointer (some ⟨B, 0, none⟩)]] w' fun e w'' => e = .returned (.int .i64 (-1)) ∧ Sat W w'' (sep (kn J2) A')) := Lib.hid (by rw [← hidx]; exact HIX.out)
      clear he he7 hf hidx HIX hres hst
      go_enter Tryz.func53, Tryz.ntmps53
      go_upto_region 1 with (fail)
      simp only [← HB.out]
      rw [← HW1.out]
      go_wp2_with fail
      refine (HIX2.out _ _ H2.out.p1).mono ?_
      rintro e w3 ⟨rfl, h3⟩
      have h3b : Sat W w3 (sep (blk (B + 1) (.cells #[.int .i64 0, .int .i64 0, .int .i64 0, .int .i64 0, .int .i64 0, .int .i64 0, .int .i64 0, .int .i64 0, .int .i64 0, .int .i64 0, .int .i64 0, .slice none 0 0, .slice none 0 0, .slice none 0 0, .slice none 0 0, .int .i64 0, .int .i64 0, .slice none 0 0, .slice none 0 0] 57 (0, 0))) (sep (kn J2) A)) := h3.p1
      have hst := run_stAct h3b.blk_heap rfl Ac.zero
      have h3c := h3b.setRow Ac.zero.cells.toArray
      obtain ⟨wc, hwc⟩ : ∃ z, z = w3.setRow (B + 1) Ac.zero.cells.toArray := ⟨_, rfl⟩
      rw [← hwc] at hst h3c
      replace hst : Sem.run Tryz.prog (stAct (.pointer (some ⟨B + 1, 0, none⟩)) (.agg #[.int .i64 0, .int .i64 0, .int .i64 0, .int .i64 0, .int .i64 0, .int .i64 0, .int .i64 0, .int .i64 0, .int .i64 0, .int .i64 0, .int .i64 0, .slice none 0 0, .slice none 0 0, .slice none 0 0, .slice none 0 0, .int .i64 0, .int .i64 0, .slice none 0 0, .slice none 0 0])) w3 = .ok () wc := hst
      have hres : Sem.run Tryz.prog (loadCellsFrom ⟨B + 1, 0, none⟩ 0 kA #[]) wc = .ok #[.int .i64 0, .int .i64 0, .int .i64 0, .int .i64 0, .int .i64 0, .int .i64 0, .int .i64 0, .int .i64 0, .int .i64 0, .int .i64 0, .int .i64 0, .slice none 0 0, .slice none 0 0, .slice none 0 0, .slice none 0 0, .int .i64 0, .int .i64 0, .slice none 0 0, .slice none 0 0] wc := act_rd (x := Ac.zero) h3c
      have HF2 := Lib.hid h3c.forget
      clear h3 h3b h3c hwc HIX2
      go_wp2
      exact bodyPost_ret (v := .tuple #[.agg #[.int .i64 0, .int .i64 0, .int .i64 0, .int .i64 0, .int .i64 0, .int .i64 0, .int .i64 0, .int .i64 0, .int .i64 0, .int .i64 0, .int .i64 0, .slice none 0 0, .slice none 0 0, .slice none 0 0, .slice none 0 0, .int .i64 0, .int .i64 0, .slice none 0 0, .slice none 0 0], .int .i64 7]) (by simp [results, Tryz.results53, go_sem, ↓sizeAct, hres]) rfl ⟨by rw [HE7.out], J2, HLE.out, HF2.out⟩
    | some f =>
      rw [hf] at he
      have hfd : day < f.d := by
        by_cases hq : day < f.d
        · exact hq
        · simp only [if_neg hq] at he
          exact absurd he HN0.out
      have he7 : er = 7 := by simp only [if_pos hfd] at he; exact he
      have HE7 := Lib.hid he7
      obtain ⟨i, hi, hidx, hif⟩ := idxF_of hf
      rcases HU.out with ⟨g, c, rfl, hpos, hc⟩ | ⟨hnil, -⟩
      · have hHI := HIX.out
        rw [hidx] at hHI
        have HIX2 := Lib.hid hHI
        have hin : (i : Int) < (ys.length : Int) := by omega
        obtain ⟨n, hn⟩ : ∃ n, n = ys.length := ⟨_, rfl⟩
        rw [← hn] at hin HIX2 ⊢
        have hif2 : ys[i]? = some f := by rw [List.getElem?_eq_getElem hi, hif]
        have HC := Lib.hid (And.intro hc hif2)
        clear hif2
        obtain ⟨fd, hfd'⟩ : ∃ z, z = f.d := ⟨_, rfl⟩
        rw [← hfd'] at hfd
        have HFD := Lib.hid hfd'
        have hfdz : day < fd := hfd
        clear he he7 hf hidx hHI HIX hres hst hc hif hn hfd hfd' hpos HU
        go_enter Tryz.func53, Tryz.ntmps53
        go_upto_region 1 with (fail)
        simp only [← HB.out]
        rw [← HW1.out]
        go_wp2_with fail
        refine (HIX2.out _ _ H2.out.p1).mono ?_
        rintro e w3 ⟨rfl, h3⟩
        have hcd : w3.cell? ⟨g, i * 19 + 1, none⟩ = some (.int .i64 fd) := by
          obtain ⟨hi, hif⟩ := List.getElem?_eq_some_iff.1 HC.out.2
          have hne : acs ys ≠ [] := fun e => by have := congrArg List.length e; rw [acs_len, List.length_nil] at this; omega
          obtain ⟨b, o, e, hcell⟩ := cells_ext HC.out.1 hne
          cases e
          have := hcell w3 h3.ext (i * 19 + 1) (.int .i64 fd) (by rw [acs_at ys i hi 1 (by omega), hif, HFD.out]; rfl)
          rwa [Nat.zero_add] at this
        have h3b : Sat W w3 (sep (blk (B + 1) (.cells #[.int .i64 0, .int .i64 0, .int .i64 0, .int .i64 0, .int .i64 0, .int .i64 0, .int .i64 0, .int .i64 0, .int .i64 0, .int .i64 0, .int .i64 0, .slice none 0 0, .slice none 0 0, .slice none 0 0, .slice none 0 0, .int .i64 0, .int .i64 0, .slice none 0 0, .slice none 0 0] 57 (0, 0))) (sep (kn J2) A)) := h3.p1
        have hst := run_stAct h3b.blk_heap rfl Ac.zero
        have h3c := h3b.setRow Ac.zero.cells.toArray
        obtain ⟨wc, hwc⟩ : ∃ z, z = w3.setRow (B + 1) Ac.zero.cells.toArray := ⟨_, rfl⟩
        rw [← hwc] at hst h3c
        replace hst : Sem.run Tryz.prog (stAct (.pointer (some ⟨B + 1, 0, none⟩)) (.agg #[.int .i64 0, .int .i64 0, .int .i64 0, .int .i64 0, .int .i64 0, .int .i64 0, .int .i64 0, .int .i64 0, .int .i64 0, .int .i64 0, .int .i64 0, .slice none 0 0, .slice none 0 0, .slice none 0 0, .slice none 0 0, .int .i64 0, .int .i64 0, .slice none 0 0, .slice none 0 0])) w3 = .ok () wc := hst
        have hres : Sem.run Tryz.prog (loadCellsFrom ⟨B + 1, 0, none⟩ 0 kA #[]) wc = .ok #[.int .i64 0, .int .i64 0, .int .i64 0, .int .i64 0, .int .i64 0, .int .i64 0, .int .i64 0, .int .i64 0, .int .i64 0, .int .i64 0, .int .i64 0, .slice none 0 0, .slice none 0 0, .slice none 0 0, .slice none 0 0, .int .i64 0, .int .i64 0, .slice none 0 0, .slice none 0 0] wc := act_rd (x := Ac.zero) h3c
        have HF2 := Lib.hid h3c.forget
        clear h3 h3b h3c hwc HIX2
        go_wp2
        exact bodyPost_ret (v := .tuple #[.agg #[.int .i64 0, .int .i64 0, .int .i64 0, .int .i64 0, .int .i64 0, .int .i64 0, .int .i64 0, .int .i64 0, .int .i64 0, .int .i64 0, .int .i64 0, .slice none 0 0, .slice none 0 0, .slice none 0 0, .slice none 0 0, .int .i64 0, .int .i64 0, .slice none 0 0, .slice none 0 0], .int .i64 7]) (by simp [results, Tryz.results53, go_sem, ↓sizeAct, hres]) rfl ⟨by rw [HE7.out], J2, HLE.out, HF2.out⟩
      · rw [hnil] at hi; simp at hi
theorem titleErr_57 (file day : Int) (ys : List Ac) : titleErr file day ys = 0 ∨ titleErr file day ys = 5 ∨ titleErr file day ys = 7 := by
  unfold titleErr
  split
  · exact .inr (.inl rfl)
  · cases filedT file ys with
    | none => exact .inr (.inr rfl)
    | some f =>
      by_cases h : day < f.d
      · exact .inr (.inr (by simp only [if_pos h]))
      · exact .inl (by simp only [if_neg h])
/-- The walk of a file that has no title. -/
theorem walk_err {W w : World} {A : Assn} {I : Mem} (file day : Int) (v fv : Value) (xs : List Ac) (hD : xs.Pairwise KeyNe) (h40 : xs.length < 40) (hv : ActL I v xs) (hr : titleErr file day (sortK xs) ≠ 0) (h : Sat W w (sep (kn I) A)) :
    Calls Tryz.prog 33 #[.int .i64 file, .int .i64 day, v, fv] w fun e w' => e = .returned (.tuple #[.pointer none, .int .i64 (titleErr file day (sortK xs))]) ∧ ∃ J, Mem.le I J ∧ Sat W w' (sep (kn J) A) := by
  have hso := sort_any v xs hD h40 hv h
  have hl := sortK_len xs
  have hfe := fun u J w' (hu : ActS J u (sortK xs)) (h' : Sat W w' (sep (kn J) A)) => filed_err file day u (sortK xs) (by omega) hu hr h'
  obtain ⟨er, her⟩ : ∃ er, er = titleErr file day (sortK xs) := ⟨_, rfl⟩
  have h57 := titleErr_57 file day (sortK xs)
  rw [← her] at h57 hr hfe ⊢
  have hc : er = 5 ∨ er = 7 := by omega
  have HSO := Lib.hid hso
  have HFE := Lib.hid hfe
  clear hso hfe her h57 hr hl hD h40 hv h
  rcases hc with rfl | rfl
  · go_enter Tryz.func33, Tryz.ntmps33
    go_wp2_with fail
    refine HSO.out.mono ?_
    rintro e w2 ⟨u, J, rfl, hle, hu, h2⟩
    go_wp2_with fail
    refine (HFE.out u J w2 hu h2).mono ?_
    rintro e w3 ⟨rfl, J2, hle2, h3⟩
    have H3 := Lib.hid (And.intro (Mem.le_trans hle hle2) (h3.alloc0 (.cells #[.int .i64 0, .int .i64 0, .int .i64 0, .int .i64 0, .int .i64 0, .int .i64 0, .int .i64 0, .int .i64 0, .int .i64 0, .int .i64 0, .int .i64 0, .slice none 0 0, .slice none 0 0, .slice none 0 0, .slice none 0 0, .int .i64 0, .int .i64 0, .slice none 0 0, .slice none 0 0] 57)))
    clear h2 h3 hle hle2 hu
    go_wp2
    exact bodyPost_ret (v := .tuple #[.pointer none, .int .i64 5]) (by simp [results, Tryz.results33, go_sem]) rfl ⟨rfl, J2, H3.out.1, H3.out.2⟩
  · go_enter Tryz.func33, Tryz.ntmps33
    go_wp2_with fail
    refine HSO.out.mono ?_
    rintro e w2 ⟨u, J, rfl, hle, hu, h2⟩
    go_wp2_with fail
    refine (HFE.out u J w2 hu h2).mono ?_
    rintro e w3 ⟨rfl, J2, hle2, h3⟩
    have H3 := Lib.hid (And.intro (Mem.le_trans hle hle2) (h3.alloc0 (.cells #[.int .i64 0, .int .i64 0, .int .i64 0, .int .i64 0, .int .i64 0, .int .i64 0, .int .i64 0, .int .i64 0, .int .i64 0, .int .i64 0, .int .i64 0, .slice none 0 0, .slice none 0 0, .slice none 0 0, .slice none 0 0, .int .i64 0, .int .i64 0, .slice none 0 0, .slice none 0 0] 57)))
    clear h2 h3 hle hle2 hu
    go_wp2
    exact bodyPost_ret (v := .tuple #[.pointer none, .int .i64 7]) (by simp [results, Tryz.results33, go_sem]) rfl ⟨rfl, J2, H3.out.1, H3.out.2⟩
end Go.Proofs.YtfapiopnjllnnaaGreatDoor
