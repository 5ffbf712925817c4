/- The scripts of the title laws: four lists of acts, settled. -/
import Derived.Test.YtfapiopnjllnnaaGreatDoorGTitleApartSGi
import Derived.Test.YtfapiopnjllnnaaGreatDoorGTitleApartSTg
namespace PA
open Go
/-- A list of acts as an argument: settled cells. -/
def ActL (I : Mem) (v : Value) (xs : List Ac) : Prop := ∃ (a : Option Addr) (n c : Nat), v = .slice a n c ∧ n = xs.length ∧ Swf a n c ∧ cellsAt a (acs xs) I
theorem ActL.mono {I J : Mem} {v : Value} {xs : List Ac} (hl : Mem.le I J) (h : ActL I v xs) : ActL J v xs := by
  obtain ⟨a, n, c, h1, h2, h3, h4⟩ := h
  exact ⟨a, n, c, h1, h2, h3, cellsAt_mono hl h4⟩
/-- Acts that the generator of chapter 18 made. -/
def Gen18 (J : Mem) (zl : List Ac) : Prop := ∃ ps, All2 (IsA J) zl ps ∧ Made ps
theorem All2_mono {I J : Mem} (hl : Mem.le I J) {zl : List Ac} {ps : List Pa} (h : All2 (IsA I) zl ps) : All2 (IsA J) zl ps := h.wk fun _ _ hh => hh.mono hl
theorem Gen18.mono {I J : Mem} {zl : List Ac} (hl : Mem.le I J) (h : Gen18 I zl) : Gen18 J zl := by
  obtain ⟨ps, h1, h2⟩ := h
  exact ⟨ps, All2_mono hl h1, h2⟩
theorem acts_settle {W w : World} {A : Assn} {J : Mem} {E : Nat} {a : Option Addr} {n c : Nat} {xs : List Ac} (hn : n = xs.length) (h : Sat W w (sep (osl E 19 a n c (acs xs)) (sep (kn J) A))) :
    ∃ J', Mem.le J J' ∧ ActL J' (.slice a n c) xs ∧ Sat W w (sep (kn J') A) := by
  have hsw := h.swf_of_osl
  obtain ⟨J', hle, hJ, h9⟩ := h.osl_settle.learn
  exact ⟨J', hle, ⟨a, n, c, rfl, hn, hsw, hJ⟩, h9⟩
end PA
namespace Go.Proofs.YtfapiopnjllnnaaGreatDoor
open Go.RowKit PA
theorem infoActs : (Tryz.prog.info? 29).map (fun i => (i.zero, i.size, i.bytes)) = some (some (.slice none 0 0), 1, 24) := by kernel_rfl
def bsSs (n : Nat) (p : Array (Nat × Value)) : Sem Value := Instr.buildSlice 23 n p
theorem buildSlice_ss (n : Nat) (p : Array (Nat × Value)) : Instr.buildSlice 23 n p = bsSs n p := rfl
theorem bs_ss (w : World) (a b c : Option Addr) (n1 n2 n3 c1 c2 c3 : Nat) : (bsSs 4 #[(0, .slice a n1 c1), (1, .slice b n2 c2), (2, .slice c n3 c3), (3, .slice none 0 0)]).run Tryz.prog w = .ok (.slice (some ⟨w.heap.size, 0, none⟩) 4 4) (w.alloc (.cells #[.slice a n1 c1, .slice b n2 c2, .slice c n3 c3, .slice none 0 0] 29)) := by
  obtain ⟨i, h1, h2, h3, h4⟩ := info_parts infoActs
  exact run_buildSlice w 23 29 4 _ _ i _ Tryz.underlying23 h1 h2 (by rw [h3]; omega) (by rw [h3]; omega) (by rw [h3]; kernel_rfl)
attribute [local go_sem ↓] buildSlice_ss
attribute [local go_sem] bs_ss
set_option maxRecDepth 100000 in
set_option maxHeartbeats 8000000 in
theorem scripts_spec {W w : World} {A : Assn} {I : Mem} (va vb : Value) (l m : List Int) (hva : MkV I va l) (hvb : MkV I vb m) (h : Sat W w (sep (kn I) A)) :
    Calls Tryz.prog 11 #[va, vb] w fun e w' => ∃ (L : Nat) (v1 v2 v3 : Value) (z2 z3 : List Ac) (J : Mem), e = .returned (.slice (some ⟨L, 0, none⟩) 4 4) ∧ Mem.le I J ∧ cellsAt (some ⟨L, 0, none⟩) [v1, v2, v3, .slice none 0 0] J ∧ ActL J v1 (scrP l) ∧ ActL J v2 z2 ∧ ActL J v3 (z3 ++ scrP l) ∧ Gen18 J z2 ∧ Gen18 J z3 ∧ z2.length ≤ 14 ∧ z3.length ≤ 8 ∧ Sat W w' (sep (kn J) A) := by
  have hsl : 2 ≤ (scrP l).length := by simp [scrP]
  have hsl2 : (scrP l).length ≤ 14 := by simp only [scrP, List.length_append, List.length_map, List.length_range, List.length_cons, List.length_nil]; unfold scrN; omega
  have H25 : Hid (∀ (K : Mem) (w0 : World) (A0 : Assn), Mem.le I K → Sat W w0 (sep (kn K) A0) → Calls Tryz.prog 21 #[va] w0 fun e w' => ∃ (v : Value) (J : Mem), e = .returned v ∧ Mem.le K J ∧ ActL J v (scrP l) ∧ Sat W w' (sep (kn J) A0)) := Lib.hid (by
    intro K w0 A0 hK h0
    obtain ⟨⟨a, c, rfl⟩, h2, h3⟩ := hva.mono hK
    refine (script25_own a c l h2 h3 h0).mono ?_
    rintro e w' ⟨a', n, c', rfl, hn, h4⟩
    obtain ⟨J, h5, h6, h7⟩ := acts_settle hn h4
    exact ⟨_, J, rfl, h5, h6, h7⟩)
  have H18 : Hid (∀ (K : Mem) (most : Nat) (w0 : World) (A0 : Assn), most ≤ 14 → Mem.le I K → Sat W w0 (sep (kn K) A0) → Calls Tryz.prog 32 #[vb, .int .i64 most] w0 fun e w' => ∃ (v : Value) (zl : List Ac) (J : Mem), e = .returned v ∧ Mem.le K J ∧ ActL J v zl ∧ Gen18 J zl ∧ zl.length ≤ most ∧ Sat W w' (sep (kn J) A0)) := Lib.hid (by
    intro K most w0 A0 hmo hK h0
    refine (script18_own vb m most hmo (hvb.mono hK) h0).mono ?_
    rintro e w' ⟨a, n, c, zl, ps, J, rfl, hn, hnm, hn0, hle, h1, h2, h4⟩
    obtain ⟨J', h5, h6, h7⟩ := acts_settle hn h4
    exact ⟨_, zl, J', rfl, Mem.le_trans hle h5, h6, ⟨ps, All2_mono h5 h1, h2⟩, by omega, h7⟩)
  have H := Lib.hid h
  have HSL := Lib.hid (And.intro hsl hsl2)
  clear hva hvb h hsl hsl2
  go_enter Tryz.func11, Tryz.ntmps11
  go_wp2_with fail
  refine (H25.out I _ _ (Mem.le_refl I) H.out).mono ?_
  rintro e w1 ⟨v1, J1, rfl, hle1, hv1, h1⟩
  go_wp2_with fail
  refine (H18.out J1 14 _ _ (Nat.le_refl _) hle1 h1).mono ?_
  rintro e w2 ⟨v2, z2, J2, rfl, hle2, hv2, hg2, hl2, h2⟩
  have h2e := (h2.alloc (.cells #[] 57)).osl_mk 0 0 19 [] rfl (by omega) (by unfold maxLen; omega) rfl rfl
  obtain ⟨E, hE⟩ : ∃ E, E = w2.heap.size := ⟨_, rfl⟩
  rw [← hE] at h2e
  have H2 := Lib.hid (And.intro hle1 (And.intro hv1 (And.intro hle2 (And.intro hv2 (And.intro hg2 hl2)))))
  have H2E := Lib.hid (And.intro h2e hE)
  clear h1 h2 h2e hle1 hv1 hle2 hv2 hg2 hl2 hE H
  go_wp2_with fail
  refine (H18.out J2 8 _ _ (by omega) (Mem.le_trans H2.out.1 H2.out.2.2.1) (show Sat W _ (sep (kn J2) (sep (osl 57 19 (some ⟨E, 0, none⟩) 0 0 (acs [])) A)) from by have h9 := H2E.out.1.p1; exact h9)).mono ?_
  rintro e w3 ⟨v3, z3, J3, rfl, hle3, ⟨a3, n3, c3, rfl, hn3, hsw3, hc3⟩, hg3, hl3, h3⟩
  have h3b : Sat W w3 (sep (osl 57 19 (some ⟨E, 0, none⟩) 0 0 []) (sep (kn J3) A)) := h3.p1
  have hsrc3 := src_ext hc3 h3.ext
  have hl3' : (acs z3).length = n3 * 19 := by rw [acs_len, hn3]
  have ho3 := acs_one z3
  obtain ⟨vs, hvs⟩ : ∃ vs, vs = acs z3 := ⟨_, rfl⟩
  rw [← hvs] at hsrc3 hl3' ho3
  have hn8 : n3 ≤ 8 := by omega
  have hz3 : a3 = none → n3 = 0 := fun e => by have := hsw3.2.2 e; have := hsw3.1; omega
  have HZ3 := Lib.hid hz3
  clear hz3
  have HN8 := Lib.hid hn8
  have H3 := Lib.hid (And.intro hsrc3 (And.intro hl3' (And.intro ho3 h3b)))
  have HG3 := Lib.hid (And.intro hle3 (And.intro hg3 (And.intro hl3 (And.intro hvs hn3))))
  clear h3 h3b hsrc3 hl3' ho3 hle3 hg3 hl3 hvs hn3 hsw3 hc3 hn8
  rw [← H2E.out.2]
  clear H18
  go_wp2_with (at_builtin; go_loud (refine wpl_append_osl rfl _ _ 29 rfl 57 19 248 _ Tryz.underlying29 infoAct rfl rfl H3.out.2.2.2 rfl vs H3.out.2.1 HZ3.out H3.out.1 H3.out.2.2.1 (by have := HN8.out; omega) (by unfold maxLen; have := HN8.out; omega) ?_))
  intro a4 c4 w4 h4
  have h4b : Sat W w4 (sep (osl 57 19 a4 n3 c4 vs) (sep (kn J3) A)) := by
    have h9 := h4
    try simp only [Nat.zero_add, List.nil_append] at h9
    exact h9
  have H4 := Lib.hid h4b
  clear h4 h4b H3 H2E
  go_wp2_with fail
  refine (H25.out J3 _ _ (Mem.le_trans (Mem.le_trans H2.out.1 H2.out.2.2.1) HG3.out.1) H4.out.p1).mono ?_
  rintro e w5 ⟨v5, J5, rfl, hle5, ⟨a5, n5, c5, rfl, hn5, hsw5, hc5⟩, h5⟩
  have h5b : Sat W w5 (sep (osl 57 19 a4 n3 c4 vs) (sep (kn J5) A)) := h5.p1
  have hsrc5 := src_ext hc5 h5.ext
  have hl5' : (acs (scrP l)).length = n5 * 19 := by rw [acs_len, hn5]
  have ho5 := acs_one (scrP l)
  obtain ⟨us, hus⟩ : ∃ us, us = acs (scrP l) := ⟨_, rfl⟩
  rw [← hus] at hsrc5 hl5' ho5
  have hz5 : a5 = none → n5 = 0 := fun e => by have := hsw5.2.2 e; have := hsw5.1; omega
  have HZ5 := Lib.hid hz5
  clear hz5
  have hn14 : n5 ≤ 14 := by have := HSL.out.2; omega
  have HN14 := Lib.hid (And.intro HN8.out hn14)
  have H5 := Lib.hid (And.intro hsrc5 (And.intro hl5' (And.intro ho5 h5b)))
  have HG5 := Lib.hid (And.intro hle5 (And.intro hus hn5))
  clear h5 h5b hsrc5 hl5' ho5 hle5 hus hn5 hsw5 hc5 hn14 H4 H25
  go_wp2_with (at_builtin; go_loud (refine wpl_append_osl rfl _ _ 29 rfl 57 19 248 _ Tryz.underlying29 infoAct rfl rfl H5.out.2.2.2 rfl us H5.out.2.1 HZ5.out H5.out.1 H5.out.2.2.1 (by have := HN14.out; omega) (by unfold maxLen; have := HN14.out; omega) ?_))
  intro a6 c6 w6 h6
  have e6 : vs ++ us = acs (z3 ++ scrP l) := by rw [acs_append, HG3.out.2.2.2.1, HG5.out.2.1]
  rw [e6] at h6
  have hn6 : n3 + n5 = (z3 ++ scrP l).length := by rw [List.length_append, HG3.out.2.2.2.2, HG5.out.2.2]
  obtain ⟨J6, hle6, hv6, h6b⟩ := acts_settle hn6 h6
  obtain ⟨a6', n6', c6', e6', -, -, -⟩ := id hv6
  have h7 := (h6b.alloc (.cells #[v1, v2, .slice a6 (n3 + n5) c6, .slice none 0 0] 29)).settle
  obtain ⟨L, hL⟩ : ∃ L, L = w6.heap.size := ⟨_, rfl⟩
  rw [← hL] at h7
  obtain ⟨J7, hle7, hJ7, h8⟩ := (show Sat W _ (sep (imm L (.cells #[v1, v2, .slice a6 (n3 + n5) c6, .slice none 0 0] 29)) (sep (kn J6) A)) from h7).learn
  have HF := Lib.hid (And.intro hle6 (And.intro hv6 (And.intro hle7 (And.intro hJ7 (And.intro h8 hL)))))
  obtain ⟨a1, n1, c1, rfl, -⟩ := id H2.out.2.1
  obtain ⟨a2, n2, c2, rfl, -⟩ := id H2.out.2.2.2.1
  clear h6 h7 h8 hle6 hv6 hle7 hJ7 hL e6 hn6 h6b e6' H5
  go_wp2
  rw [← HF.out.2.2.2.2.2]
  go_ret
  have hle5 := HG5.out.1
  have hle3 := HG3.out.1
  have l67 := Mem.le_trans HF.out.1 HF.out.2.2.1
  have l57 := Mem.le_trans hle5 l67
  have l37 := Mem.le_trans hle3 l57
  refine ⟨L, _, _, _, z2, z3, J7, rfl, Mem.le_trans (Mem.le_trans H2.out.1 H2.out.2.2.1) l37, .inr ⟨L, 0, _, 29, (0, 0), rfl, HF.out.2.2.2.1, fun i u hu => by simpa using hu⟩, H2.out.2.1.mono (Mem.le_trans H2.out.2.2.1 l37), H2.out.2.2.2.1.mono l37, HF.out.2.1.mono HF.out.2.2.1, H2.out.2.2.2.2.1.mono l37, HG3.out.2.1.mono l57, H2.out.2.2.2.2.2, HG3.out.2.2.1, HF.out.2.2.2.2.1⟩
end Go.Proofs.YtfapiopnjllnnaaGreatDoor
