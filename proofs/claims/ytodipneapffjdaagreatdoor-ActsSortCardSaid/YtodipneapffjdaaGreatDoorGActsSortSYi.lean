/- The reference's Encode of acts. -/
import Derived.Test.YtodipneapffjdaaGreatDoorGActsSort23
import Derived.Test.YtodipneapffjdaaGreatDoorGActsSortSVr
namespace PA
open Go Go.RowKit
theorem take_flat {e : Int → List UInt8} {l : List Int} {j : Nat} {g : Int} (h : l[j]? = some g) : ((l.take (j + 1)).map e).flatten = ((l.take j).map e).flatten ++ e g := by
  rw [List.take_add_one, h]; simp
end PA
namespace Go.Proofs.YtodipneapffjdaaGreatDoor
open Go.RowKit PA
def bsI11 (p : Array (Nat × Value)) : Sem Value := Instr.buildSlice 22 11 p
theorem buildSlice_i11 (p : Array (Nat × Value)) : Instr.buildSlice 22 11 p = bsI11 p := rfl
theorem bs_i11 (w : World) (a b c d e f g h i j k : Int) : (bsI11 #[(0, .int .i64 a), (1, .int .i64 b), (2, .int .i64 c), (3, .int .i64 d), (4, .int .i64 e), (5, .int .i64 f), (6, .int .i64 g), (7, .int .i64 h), (8, .int .i64 i), (9, .int .i64 j), (10, .int .i64 k)]).run Tryz.prog w = .ok (.slice (some ⟨w.heap.size, 0, none⟩) 11 11) (w.alloc (.cells #[.int .i64 a, .int .i64 b, .int .i64 c, .int .i64 d, .int .i64 e, .int .i64 f, .int .i64 g, .int .i64 h, .int .i64 i, .int .i64 j, .int .i64 k] 3)) := by
  obtain ⟨i, h1, h2, h3, h4⟩ := info_parts infoIntY
  exact run_buildSlice w 22 3 11 _ _ i _ Tryz.underlying22 h1 h2 (by rw [h3]; omega) (by rw [h3]; omega) (by rw [h3]; kernel_rfl)
attribute [local go_sem ↓] storeAt_act loadAt_act sizeAct buildSlice_i11
set_option maxRecDepth 100000 in
set_option maxHeartbeats 16000000 in
theorem encode18_spec {W w : World} {A : Assn} {I : Mem} (z : Ac) (x : Pa) (hA : IsA I z x) (hz : SzA x) (hE : EncOK x) (h : Sat W w (sep (kn I) A)) :
    Calls Tryz.prog 16 #[.agg z.cells.toArray] w fun e w' => ∃ (b : Option Addr) (m d : Nat) (J : Mem), e = .returned (.tuple #[.slice b m d, .int .i64 (if validA x = true then 0 else 1)]) ∧ Mem.le I J ∧ rBytes.rel J [.slice b m d] (encA x) ∧ Sat W w' (sep (kn J) A) := by
  have h1 := (h.alloc (.cells z.cells.toArray 37)).p1
  obtain ⟨B, hB⟩ : ∃ B, B = w.heap.size := ⟨_, rfl⟩
  obtain ⟨w1, hw1⟩ : ∃ y, y = w.alloc (.cells z.cells.toArray 37) := ⟨_, rfl⟩
  rw [← hB, ← hw1] at h1
  have HB := Lib.hid (And.intro hB hw1)
  have hld := ld_cs h1.p1
  obtain ⟨X, hX⟩ : ∃ X, X = sep (blk B (.cells z.cells.toArray 37 (0, 0))) A := ⟨_, rfl⟩
  have HXP : Hid (∀ w' J Y, Sat W w' (sep Y (sep (kn J) X)) → Sat W w' (sep (blk B (.cells z.cells.toArray 37 (0, 0))) (sep Y (sep (kn J) A)))) := Lib.hid fun w' J Y h' => by rw [hX] at h'; simpa only [sep_comm, sep_lcomm, sep_assoc] using h'
  have HXQ : Hid (∀ w' J, Sat W w' (sep (kn J) X) → Sat W w' (sep (blk B (.cells z.cells.toArray 37 (0, 0))) (sep (kn J) A))) := Lib.hid fun w' J h' => by rw [hX] at h'; simpa only [sep_comm, sep_lcomm, sep_assoc] using h'
  have h1' : Sat W w1 (sep (kn I) X) := by rw [hX]; simpa only [sep_comm, sep_lcomm, sep_assoc] using h1
  obtain ⟨rv, hrv⟩ : ∃ y : Int, y = if validA x = true then 0 else 1 := ⟨_, rfl⟩
  obtain ⟨E, hEE⟩ : ∃ y, y = encA x := ⟨_, rfl⟩
  obtain ⟨F, hF⟩ : ∃ y, y = encW x := ⟨_, rfl⟩
  have HE0 : Hid ((rv = 0 ∧ E = F) ∨ (rv = 1 ∧ E = [])) := Lib.hid (by
    rw [hrv, hEE, hF]; unfold encA
    by_cases hv : validA x = true
    · rw [if_pos hv, if_pos hv]; exact .inl ⟨rfl, rfl⟩
    · rw [if_neg hv, if_neg hv]; exact .inr ⟨rfl, rfl⟩)
  have HCV : Hid (∀ w' A', Sat W w' (sep (kn I) A') → Calls Tryz.prog 29 #[.agg z.cells.toArray] w' fun e w'' => ∃ J, e = .returned (.int .i64 rv) ∧ Mem.le I J ∧ Sat W w'' (sep (kn J) A')) := Lib.hid fun w' A' h' => by rw [hrv]; exact valid18_spec z x hA hz h'
  obtain ⟨te, hte⟩ : ∃ y, y = txE x.td x.tc := ⟨_, rfl⟩
  obtain ⟨T, hT⟩ : ∃ y, y = encTx0 x.td x.tc := ⟨_, rfl⟩
  obtain ⟨fe, hfe⟩ : ∃ y, y = fmE x.fx := ⟨_, rfl⟩
  obtain ⟨G, hG⟩ : ∃ y, y = encF0 x.fx := ⟨_, rfl⟩
  obtain ⟨ce, hce⟩ : ∃ y, y = clE x.cl := ⟨_, rfl⟩
  obtain ⟨C, hC⟩ : ∃ y, y = encCls0 x.cl := ⟨_, rfl⟩
  have HCT : Hid (∀ w' A' J, Mem.le I J → Sat W w' (sep (kn J) A') → Calls Tryz.prog 31 #[.agg #[.slice z.td.a z.td.n z.td.c, .slice z.tc.a z.tc.n z.tc.c]] w' fun e w'' => ∃ (b : Option Addr) (m d : Nat) (J2 : Mem), e = .returned (.tuple #[.slice b m d, .int .i64 te]) ∧ Mem.le J J2 ∧ rBytes.rel J2 [.slice b m d] T ∧ Sat W w'' (sep (kn J2) A')) := Lib.hid fun w' A' J hl h' => by
    rw [hte, hT]; exact r12encode_spec _ _ _ _ _ _ x.td x.tc ((rF.slice 4).mono hl hA.td) ((rCl.slice 5).mono hl hA.tc) hz.td hz.tc hE.td hE.tc hE.lt hE.ltc h'
  have HCF : Hid (∀ w' A' J, Mem.le I J → Sat W w' (sep (kn J) A') → Calls Tryz.prog 33 #[.agg #[.int .i64 z.fo, .int .i64 z.fn, .slice z.fi.a z.fi.n z.fi.c, .slice z.fk.a z.fk.n z.fk.c]] w' fun e w'' => ∃ (b : Option Addr) (m d : Nat) (J2 : Mem), e = .returned (.tuple #[.slice b m d, .int .i64 fe]) ∧ Mem.le J J2 ∧ rBytes.rel J2 [.slice b m d] G ∧ Sat W w'' (sep (kn J2) A')) := Lib.hid fun w' A' J hl h' => by
    rw [hfe, hG]; exact r07encode_spec x.fx _ _ _ _ _ _ _ _ (rF.mono hl hA.fx) hz.fx hE.fx.b64 (by have := hE.fx.bl; omega) h'
  have HCC : Hid (∀ w' A' J, Mem.le I J → Sat W w' (sep (kn J) A') → Calls Tryz.prog 34 #[.slice z.cl.a z.cl.n z.cl.c] w' fun e w'' => ∃ (b : Option Addr) (m d : Nat) (J2 : Mem), e = .returned (.tuple #[.slice b m d, .int .i64 ce]) ∧ Mem.le J J2 ∧ rBytes.rel J2 [.slice b m d] C ∧ Sat W w'' (sep (kn J2) A')) := Lib.hid fun w' A' J hl h' => by
    rw [hce, hC]; exact r11encode_spec _ _ _ x.cl ((rCl.slice 5).mono hl hA.cl) hz.cl hE.cl hE.lcl h'
  obtain ⟨L, hL⟩ : ∃ L, L = actNs x := ⟨_, rfl⟩
  have hLz : L = [z.k, z.d, z.n, z.f, z.o, z.p, z.q, z.u, z.m, z.sn, z.sd] := by rw [hL, hA.k, hA.d, hA.n, hA.f, hA.o, hA.p, hA.q, hA.u, hA.m, hA.sn, hA.sd]; rfl
  have hL64 : ∀ r ∈ L, -9223372036854775808 ≤ r ∧ r ≤ 9223372036854775807 := by rw [hL]; exact hE.n64
  obtain ⟨V, hV⟩ : ∃ V : Nat → List UInt8, V = fun j => ((L.take j).map PA.encI).flatten := ⟨_, rfl⟩
  have hV0 : V 0 = [] := by rw [hV]; simp
  have hVs : ∀ j g, L[j]? = some g → V (j + 1) = V j ++ PA.encI g := fun j g hg => by rw [hV]; simp only; rw [take_flat hg]
  have hLl : L.length = 11 := by rw [hL]; rfl
  have hVl : ∀ j, (V j).length ≤ 10 * j := by
    intro j
    induction j with
    | zero => rw [hV0]; simp
    | succ j ih =>
      cases hg : L[j]? with
      | none => rw [hV] at ih ⊢; simp only at ih ⊢; rw [List.take_add_one, hg]; simp at ih ⊢; omega
      | some g =>
        rw [hVs j g hg, List.length_append]
        have := encI_le (hL64 g (List.mem_of_getElem? hg)).1 (hL64 g (List.mem_of_getElem? hg)).2
        omega
  obtain ⟨K, hK⟩ : ∃ y, y = encKd x := ⟨_, rfl⟩
  obtain ⟨Q, hQ⟩ : ∃ y, y = encAc x := ⟨_, rfl⟩
  have hFe : F = V 11 ++ K ++ Q := by rw [hF, hV, hK, hQ]; simp only; rw [← hLl, List.take_length, hL]; rfl
  have hFl : F.length ≤ 1073741824 := by rw [hF]; exact hE.lw
  have hTl : T.length ≤ 268435456 := by rw [hT]; exact encTx0_le hE.lt
  have hGl : G.length ≤ 16777216 := by rw [hG]; exact encF0_le hE.fx.bl
  have hCl : C.length ≤ 134217728 := by rw [hC]; exact encCls0_le hE.lcl
  have hea := (slice_len hA.ea).1
  have hea63 := (slice_len hA.ea).2.2
  have hK1 : z.k = 0 → K = encR T ++ PA.encI z.ea.n ++ encEas x.ea := fun h0 => by rw [hK, hT, hea]; unfold encKd; rw [if_pos (by rw [← hA.k]; exact h0)]
  have hK2 : ¬ z.k = 0 → z.k = 19 → K = encR G := fun h0 h1 => by rw [hK, hG]; unfold encKd; rw [if_neg (by rw [← hA.k]; exact h0), if_pos (by rw [← hA.k]; exact h1)]
  have hK3 : ¬ z.k = 0 → ¬ z.k = 19 → K = [] := fun h0 h1 => by rw [hK]; unfold encKd; rw [if_neg (by rw [← hA.k]; exact h0), if_neg (by rw [← hA.k]; exact h1)]
  have hcn := (slice_len hA.cl).1
  have hcn63 := (slice_len hA.cl).2.2
  have hQ0 : z.cl.n = 0 → Q = [] := fun h0 => by rw [hQ]; unfold encAc; rw [if_pos (List.length_eq_zero_iff.1 (by rw [← hcn]; exact h0))]
  have hQ1 : z.cl.n ≠ 0 → Q = encR C := fun h0 => by rw [hQ, hC]; unfold encAc; rw [if_neg (fun hh => h0 (by rw [hcn, hh]; rfl))]
  have HL := Lib.hid (And.intro hLl (And.intro hLz hL64))
  have HV := Lib.hid (And.intro hV0 (And.intro hVs hVl))
  have HK := Lib.hid (And.intro hK1 (And.intro hK2 hK3))
  have HQ := Lib.hid (And.intro hQ0 hQ1)
  have HFE := Lib.hid (And.intro hFe hFl)
  have HTL := Lib.hid (And.intro hTl (And.intro hGl hCl))
  have HEA := Lib.hid (And.intro hA.ea (And.intro hE.ea hea))
  have H1 := Lib.hid h1'
  rw [← hrv, ← hEE]
  obtain ⟨Po, hPo⟩ : ∃ P : Ending → World → Prop, P = fun e w' => ∃ (b : Option Addr) (m d : Nat) (J : Mem), e = .returned (.tuple #[.slice b m d, .int .i64 rv]) ∧ Mem.le I J ∧ rBytes.rel J [.slice b m d] E ∧ Sat W w' (sep (kn J) A) := ⟨_, rfl⟩
  rw [← hPo]
  have HPO := Lib.hid hPo
  clear hA hz hE h h1 h1' hB hw1 hX hrv hEE hF hte hT hfe hG hce hC hL hLz hL64 hV hV0 hVs hLl hVl hK hQ hFe hFl hTl hGl hCl hea hK1 hK2 hK3 hcn hQ0 hQ1 hPo
  go_enter Tryz.func16, Tryz.ntmps16
  go_upto_region 1 with (fail)
  rw [← HB.out.1, ← HB.out.2]
  go_wp2_with fail
  refine (HCV.out _ _ H1.out).mono ?_
  rintro e w2 ⟨J, rfl, hle, h2⟩
  have h2' := HXQ.out _ _ h2
  have k0 := (act_fr h2' 0 _ rfl).1
  have k1 := (act_fr h2' 1 _ rfl).1
  have k2 := (act_fr h2' 2 _ rfl).1
  have k3 := (act_fr h2' 3 _ rfl).1
  have k4 := (act_fr h2' 4 _ rfl).1
  have k5 := (act_fr h2' 5 _ rfl).1
  have k6 := (act_fr h2' 6 _ rfl).1
  have k7 := (act_fr h2' 7 _ rfl).1
  have k8 := (act_fr h2' 8 _ rfl).1
  have k9 := (act_fr h2' 9 _ rfl).1
  have k10 := (act_fr h2' 10 _ rfl).1
  have H2 := Lib.hid h2
  have HJ := Lib.hid hle
  clear h2 h2' hle hld H1 HCV
  rcases HE0.out with ⟨h0, hEF⟩ | ⟨h0, hEF⟩
  case inr =>
    subst h0
    have HEF := Lib.hid hEF
    have HF := Lib.hid (HXQ.out _ _ H2.out).drop
    clear hEF k0 k1 k2 k3 k4 k5 k6 k7 k8 k9 k10 H2
    go_wp2
    rw [HPO.out]
    exact ⟨none, 0, 0, J, rfl, HJ.out, by rw [HEF.out]; exact bytes_nilY J, HF.out⟩
  case inl =>
  subst h0
  have HEF := Lib.hid hEF
  clear hEF HE0
  have hbs := bs_i11 w2 z.k z.d z.n z.f z.o z.p z.q z.u z.m z.sn z.sd
  have hA2 := H2.out.alloc (.cells #[.int .i64 z.k, .int .i64 z.d, .int .i64 z.n, .int .i64 z.f, .int .i64 z.o, .int .i64 z.p, .int .i64 z.q, .int .i64 z.u, .int .i64 z.m, .int .i64 z.sn, .int .i64 z.sd] 3)
  obtain ⟨N, hN⟩ : ∃ N, N = w2.heap.size := ⟨_, rfl⟩
  obtain ⟨w3, hw3⟩ : ∃ y, y = w2.alloc (.cells #[.int .i64 z.k, .int .i64 z.d, .int .i64 z.n, .int .i64 z.f, .int .i64 z.o, .int .i64 z.p, .int .i64 z.q, .int .i64 z.u, .int .i64 z.m, .int .i64 z.sn, .int .i64 z.sd] 3) := ⟨_, rfl⟩
  rw [← hN, ← hw3] at hbs hA2
  obtain ⟨Y, hY⟩ : ∃ Y, Y = sep (blk N (.cells #[.int .i64 z.k, .int .i64 z.d, .int .i64 z.n, .int .i64 z.f, .int .i64 z.o, .int .i64 z.p, .int .i64 z.q, .int .i64 z.u, .int .i64 z.m, .int .i64 z.sn, .int .i64 z.sd] 3 (0, 0))) (sep (kn J) X) := ⟨_, rfl⟩
  have HYD : Hid (∀ w' Z, Sat W w' (sep Z Y) → Sat W w' (sep Z (sep (kn J) X))) := Lib.hid fun w' Z h' => by
    rw [hY] at h'
    exact Sat.drop (by simpa only [sep_comm, sep_lcomm, sep_assoc] using h' : Sat W w' (sep (blk N (.cells #[.int .i64 z.k, .int .i64 z.d, .int .i64 z.n, .int .i64 z.f, .int .i64 z.o, .int .i64 z.p, .int .i64 z.q, .int .i64 z.u, .int .i64 z.m, .int .i64 z.sn, .int .i64 z.sd] 3 (0, 0))) (sep Z (sep (kn J) X))))
  have HYC : Hid (∀ w' Z k r, Sat W w' (sep Z Y) → L[k]? = some r → w'.cell? ⟨N, k, none⟩ = some (.int .i64 r)) := Lib.hid fun w' Z k r h' hr => by
    rw [hY] at h'
    rw [h'.p1.cell k]
    rw [HL.out.2.1] at hr
    match k, hr with
    | 0, hr | 1, hr | 2, hr | 3, hr | 4, hr | 5, hr | 6, hr | 7, hr | 8, hr | 9, hr | 10, hr => simp at hr; subst hr; rfl
    | k + 11, hr => simp at hr
  rw [← hY] at hA2
  have H3 := Lib.hid (hA2.osl_nil 5 1)
  clear hN hA2 hY H2
  go_upto_region 4 with (fail)
  try rw [← hw3]
  clear hbs hw3 k0 k1 k2 k3 k4 k5 k6 k7 k8 k9 k10
  go_wp2_with fail
  go_loopw [5, 6] (fun ov kv wr => ∃ (k : Nat) (a' : Option Addr) (n' c' : Nat) (vs : List Value), ov = .slice a' n' c' ∧ kv = .int .i64 k ∧ k ≤ 11 ∧ Hid (n' = (V k).length ∧ vs = (V k).map bv) ∧ Sat W wr (sep (osl 5 1 a' n' c' vs) Y)) (fun _ kv _ => 11 - (intOf kv).toNat)
  case atStart => exact ⟨0, none, 0, 0, [], rfl, rfl, by omega, Lib.hid ⟨by rw [HV.out.1]; rfl, by rw [HV.out.1]; rfl⟩, H3.out⟩
  case round =>
    obtain ⟨k, a', n', c', vs', rfl, rfl, hk, HVV, hS⟩ := hrel
    clear H3
    by_cases hlt : k < 11
    · have hltz : (k : Int) < 11 := by omega
      obtain ⟨r, hr⟩ : ∃ r, L[k]? = some r := ⟨_, List.getElem?_eq_getElem (by have := HL.out.1; omega)⟩
      have j0 := HYC.out _ _ k r hS hr
      have hr64 := HL.out.2.2 r (List.mem_of_getElem? hr)
      have hb2 : (PA.encI r).length ≤ 10 := encI_le hr64.1 hr64.2
      have hb1 : n' ≤ 110 := by rw [HVV.out.1]; have := HV.out.2.2 k; omega
      have HR64 := Lib.hid hr64
      obtain ⟨m2, hm2⟩ : ∃ m, m = (PA.encI r).length := ⟨_, rfl⟩
      obtain ⟨us, hus⟩ : ∃ us, us = (PA.encI r).map bv := ⟨_, rfl⟩
      rw [← hm2] at hb2
      have HU := Lib.hid (And.intro hm2 hus)
      have HNX : Hid (V (k + 1) = V k ++ PA.encI r ∧ k < 11) := Lib.hid ⟨HV.out.2.1 k r hr, hlt⟩
      have HBD := Lib.hid (And.intro hb1 hb2)
      have HS := Lib.hid hS
      clear hr hr64 hb1 hb2 hm2 hus hS hlt hk
      go_wp2_with fail
      refine (rint_spec r HR64.out.1 HR64.out.2 HS.out).mono ?_
      rintro e w4 ⟨a2, c2, rfl, h3⟩
      rw [← HU.out.1, ← HU.out.2] at h3
      rw [← HU.out.1]
      have HSO : Hid (SrcOw w4 a2 m2 us) := Lib.hid (by rw [HU.out.2, HU.out.1] at h3 ⊢; exact osl_ow h3)
      have h4 := h3.drop
      clear h3 HS j0
      go_wp2_with (at_builtin; (refine wpl_append_osl rfl (.tmp 48) (.tmp 53) 50 rfl 5 1 1 (.int .u8 0) Tryz.underlying50 infoU8w rfl rfl h4 rfl us HSO.out.len HSO.out.nil HSO.out.src HSO.out.one (by have := HBD.out; omega) (by have := HBD.out; unfold maxLen; omega) ?_))
      intro a4 c4 w5 h5
      have H5 := Lib.hid h5
      clear h4 h5 HSO
      go_wp2_with fail
      go_roundw
      case rel =>
        refine ⟨k + 1, a4, n' + m2, c4, _, rfl, by go_num, by have := HNX.out.2; omega, Lib.hid ⟨?_, ?_⟩, H5.out⟩
        · rw [HNX.out.1, List.length_append, HVV.out.1, HU.out.1]
        · rw [HNX.out.1, List.map_append, HVV.out.2, HU.out.2]
      case measure => simp [intOf]; have := HNX.out.2; omega
    · obtain rfl : k = 11 := by omega
      have hS2 := HYD.out _ _ hS
      have hp := HXP.out _ _ _ hS2
      have k0 := (act_fr hp 0 _ rfl).1
      have k11 := (act_fr hp 11 _ rfl).1
      have k12 := (act_fr hp 12 _ rfl).1
      have k15 := (act_fr hp 15 _ rfl).1
      have k16 := (act_fr hp 16 _ rfl).1
      have k17 := (act_fr hp 17 _ rfl).1
      have k18 := (act_fr hp 18 _ rfl).1
      have HS := Lib.hid hS2
      obtain ⟨P1, hP1⟩ : ∃ P, P = V 11 := ⟨_, rfl⟩
      have HP1 : Hid (n' = P1.length ∧ vs' = P1.map bv ∧ F = P1 ++ K ++ Q ∧ P1.length + K.length + Q.length ≤ 1073741824) := Lib.hid (by
        have h1 := HFE.out.1
        have h2 := HFE.out.2
        rw [← hP1] at h1
        refine ⟨by rw [hP1]; exact HVV.out.1, by rw [hP1]; exact HVV.out.2, h1, ?_⟩
        rw [h1, List.length_append, List.length_append] at h2; exact h2)
      have hltz : ¬ ((11 : Nat) : Int) < 11 := by omega
      clear hS hS2 hp hlt hk HVV hP1 HYC HYD HV HFE
      go_upto_block 2 with (fail)
      obtain ⟨b0, hb0⟩ : ∃ b, (z.k == 0) = b := ⟨_, rfl⟩
      obtain ⟨b19, hb19⟩ : ∃ b, (z.k == 19) = b := ⟨_, rfl⟩
      have HB0 : Hid ((b0 = true → z.k = 0) ∧ (b0 = false → ¬ z.k = 0) ∧ (b19 = true → z.k = 19) ∧ (b19 = false → ¬ z.k = 19)) := Lib.hid (by rw [← hb0, ← hb19]; simp)
      go_cut [5] from 57 to 111 (fun ov wx => ∃ (a2 : Option Addr) (n2 c2 : Nat) (vs2 : List Value) (J2 : Mem), ov = .slice a2 n2 c2 ∧ Hid (n2 = P1.length + K.length ∧ vs2 = (P1 ++ K).map bv ∧ Mem.le I J2) ∧ Sat W wx (sep (osl 5 1 a2 n2 c2 vs2) (sep (kn J2) X)))
      case first =>
        as_aux_lemma =>
        /-DEV1-/
        cases b0 with
        | true =>
          have HK1 := Lib.hid (HK.out.1 (HB0.out.1 rfl))
          clear k15 k16 k17 k18 hb19
          have hS3 : Sat W wr (sep (kn J) (sep (osl 5 1 a' n' c' vs') X)) := by have := HS.out; simpa only [sep_comm, sep_lcomm, sep_assoc] using this
          have HS3 := Lib.hid hS3
          clear hS3 HS
          go_wp2_with fail
          refine (HCT.out _ _ _ HJ.out HS3.out).mono ?_
          rintro e w4 ⟨b4, m4, d4, J4, rfl, hle4, hr4, h4⟩
          have HJ4 := Lib.hid (And.intro hle4 hr4)
          have H4 := Lib.hid h4
          clear h4 hle4 hr4 HCT k0 k11 k12 HS3
          go_upto_region 12 with (fail)
          go_wp2_with fail
          refine (rraw_spec (.slice b4 m4 d4) T H4.out HJ4.out.2 (by have := HTL.out.1; omega)).mono ?_
          rintro e w5 ⟨a5, c5, rfl, h5⟩
          obtain ⟨m2, hm2⟩ : ∃ z, z = (encR T).length := ⟨_, rfl⟩
          obtain ⟨v2, hv2⟩ : ∃ z, z = (encR T).map bv := ⟨_, rfl⟩
          rw [← hm2, ← hv2] at h5
          rw [← hm2]
          have HM2 := Lib.hid (And.intro hm2 hv2)
          have HSO : Hid (SrcOw w5 a5 m2 v2) := Lib.hid (by rw [hv2, hm2] at h5 ⊢; exact osl_ow h5)
          have h6 : Sat W w5 (sep (osl 5 1 a' n' c' vs') (sep (kn J4) X)) := by have := h5.drop; simpa only [sep_comm, sep_lcomm, sep_assoc] using this
          have hbd1 : n' + m2 ≤ 1073741824 := by
            have h1 := HP1.out
            rw [HK1.out, List.length_append, List.length_append, ← hm2] at h1; omega
          have HBD1 := Lib.hid hbd1
          clear h5 H4 hm2 hv2 hbd1
          go_wp2_with (at_builtin; (refine wpl_append_osl rfl (.tmp 65) (.tmp 67) 50 rfl 5 1 1 (.int .u8 0) Tryz.underlying50 infoU8w rfl rfl h6 rfl v2 HSO.out.len HSO.out.nil HSO.out.src HSO.out.one (by have := HBD1.out; omega) (by have := HBD1.out; unfold maxLen; omega) ?_))
          intro a7 c7 w7 h7
          have H7 := Lib.hid h7
          have k14 := (act_fr (HXP.out _ _ _ h7) 14 _ rfl).1
          clear h6 h7 HSO
          go_upto_region 13 with (fail)
          go_wp2_with fail
          have hbn : (z.ea.n : Int) ≤ 9223372036854775807 := hea63
          refine (rint_spec (z.ea.n : Int) (by omega) hbn H7.out).mono ?_
          rintro e w8 ⟨a8, c8, rfl, h8⟩
          obtain ⟨m8, hm8⟩ : ∃ m, m = (PA.encI z.ea.n).length := ⟨_, rfl⟩
          obtain ⟨v8, hv8⟩ : ∃ vs, vs = (PA.encI z.ea.n).map bv := ⟨_, rfl⟩
          rw [← hm8, ← hv8] at h8
          rw [← hm8]
          have HM8 := Lib.hid (And.intro hm8 hv8)
          have HSO : Hid (SrcOw w8 a8 m8 v8) := Lib.hid (by rw [hv8, hm8] at h8 ⊢; exact osl_ow h8)
          have h9 := h8.drop
          have hbd2 : n' + m2 + m8 ≤ 1073741824 := by
            have h1 := HP1.out
            rw [HK1.out, List.length_append, List.length_append, ← HM2.out.1, ← hm8] at h1; omega
          have HBD2 := Lib.hid hbd2
          clear h8 hm8 hv8 H7 hbd2 k14 HBD1
          go_wp2_with (at_builtin; (refine wpl_append_osl rfl (.tmp 69) (.tmp 73) 50 rfl 5 1 1 (.int .u8 0) Tryz.underlying50 infoU8w rfl rfl h9 rfl v8 HSO.out.len HSO.out.nil HSO.out.src HSO.out.one (by have := HBD2.out; omega) (by have := HBD2.out; unfold maxLen; omega) ?_))
          intro a10 c10 w10 h10
          have H10 := Lib.hid h10
          clear h9 h10 HSO
          obtain ⟨U, hU⟩ : ∃ U : Nat → List UInt8, U = fun j => P1 ++ encR T ++ PA.encI z.ea.n ++ encEas (x.ea.take j) := ⟨_, rfl⟩
          have hU0 : U 0 = P1 ++ encR T ++ PA.encI z.ea.n := by rw [hU]; simp [encEas]
          have hUs : ∀ j g, x.ea[j]? = some g → U (j + 1) = U j ++ PA.encI g.file ++ PA.encI g.day := fun j g hg => by rw [hU]; simp only; unfold encEas; rw [flat_take encEa hg]; unfold encEa; simp only [List.append_assoc]
          have hUe : U z.ea.n = P1 ++ K := by rw [hU, HK1.out]; simp only; rw [HEA.out.2.2, List.take_length]; simp only [List.append_assoc]
          have hUl : ∀ j, (U j).length ≤ 1073741824 := fun j => by
            have h1 := HP1.out
            rw [HK1.out] at h1
            rw [hU]; simp only [List.length_append] at h1 ⊢
            have h2 := flat_le encEa x.ea j
            unfold encEas at h1 ⊢; omega
          have HU := Lib.hid (And.intro hU0 (And.intro hUs (And.intro hUe hUl)))
          have HUS : Hid (n' + m2 + m8 = (U 0).length ∧ vs' ++ (v2 ++ v8) = (U 0).map bv) := Lib.hid (by
            rw [hU0, HP1.out.1, HP1.out.2.1, HM2.out.1, HM2.out.2, HM8.out.1, HM8.out.2]
            exact ⟨by simp only [List.length_append], by simp only [List.map_append, List.append_assoc]⟩)
          obtain ⟨ne, hne⟩ : ∃ y, y = z.ea.n := ⟨_, rfl⟩
          have HNE := Lib.hid hne
          clear hU hU0 hUs hUe hUl
          go_wp2_with fail
          go_loopw [5, 9] (fun ov kv wr => ∃ (k : Nat) (a' : Option Addr) (n' c' : Nat) (vs : List Value), ov = .slice a' n' c' ∧ kv = .int .i64 k ∧ k ≤ ne ∧ Hid (n' = (U k).length ∧ vs = (U k).map bv) ∧ Sat W wr (sep (osl 5 1 a' n' c' vs) (sep (kn J4) X))) (fun _ kv _ => ne - (intOf kv).toNat)
          case atStart => exact ⟨0, a10, _, c10, _, rfl, rfl, by omega, HUS, H10.out⟩
          case round =>
            obtain ⟨t, a'', n'', c'', vs'', rfl, rfl, hj, HUU, hS⟩ := hrel
            clear H10
            have k14 := (act_fr (HXP.out _ _ _ hS) 14 _ rfl).1
            rw [← hne] at k14
            by_cases hlt : t < ne
            · have hltz : (t : Int) < (ne : Int) := by omega
              obtain ⟨g, hg⟩ : ∃ g, x.ea[t]? = some g := ⟨_, List.getElem?_eq_getElem (by rw [← HEA.out.2.2, ← hne]; exact hlt)⟩
              obtain ⟨b, o, hba, hcell⟩ := ea_elem HEA.out.1 hg
              have hg64 := HEA.out.2.1 g (List.mem_of_getElem? hg)
              obtain ⟨mf, hmf⟩ : ∃ m, m = (PA.encI g.file).length := ⟨_, rfl⟩
              obtain ⟨vf, hvf⟩ : ∃ m, m = (PA.encI g.file).map bv := ⟨_, rfl⟩
              obtain ⟨md, hmd⟩ : ∃ m, m = (PA.encI g.day).length := ⟨_, rfl⟩
              obtain ⟨vd, hvd⟩ : ∃ m, m = (PA.encI g.day).map bv := ⟨_, rfl⟩
              have hbd3 : n'' + mf + md ≤ 1073741824 := by
                have h1 := HU.out.2.2.2 (t + 1)
                rw [HU.out.2.1 t g hg, List.length_append, List.length_append, ← HUU.out.1, ← hmf, ← hmd] at h1; exact h1
              have HNX : Hid (U (t + 1) = U t ++ PA.encI g.file ++ PA.encI g.day ∧ t < ne) := Lib.hid ⟨HU.out.2.1 t g hg, hlt⟩
              have HC := Lib.hid hcell
              have hle4 : Mem.le I J4 := Mem.le_trans HJ.out HJ4.out.1
              have HL4 := Lib.hid hle4
              obtain ⟨j0, j1⟩ := hcell wr (ext_le hle4 hS.p1.ext)
              have HG := Lib.hid hg64
              have HMF := Lib.hid (And.intro hmf (And.intro hvf (And.intro hmd hvd)))
              have HBD3 := Lib.hid hbd3
              rw [hba] at k14
              have HS := Lib.hid hS
              have HBA := Lib.hid hba
              clear hg hcell hg64 hmf hvf hmd hvd hbd3 hle4 hlt hj hS hba
              go_upto_region 17 with (fail)
              go_wp2_with fail
              refine (rint_spec g.file HG.out.1.1 HG.out.1.2 HS.out).mono ?_
              rintro e w11 ⟨a11, c11, rfl, h11⟩
              rw [← HMF.out.1, ← HMF.out.2.1] at h11
              rw [← HMF.out.1]
              have HSO : Hid (SrcOw w11 a11 mf vf) := Lib.hid (by rw [HMF.out.1, HMF.out.2.1] at h11 ⊢; exact osl_ow h11)
              have h12 := h11.drop
              clear h11 HS k14 j0 j1
              go_wp2_with (at_builtin; (refine wpl_append_osl rfl (.tmp 82) (.tmp 89) 50 rfl 5 1 1 (.int .u8 0) Tryz.underlying50 infoU8w rfl rfl h12 rfl vf HSO.out.len HSO.out.nil HSO.out.src HSO.out.one (by have := HBD3.out; omega) (by have := HBD3.out; unfold maxLen; omega) ?_))
              intro a13 c13 w13 h13
              have H13 := Lib.hid h13
              have k14 := (act_fr (HXP.out _ _ _ h13) 14 _ rfl).1
              rw [← hne, HBA.out] at k14
              obtain ⟨j0, j1⟩ := HC.out w13 (ext_le HL4.out h13.p1.ext)
              clear h12 h13 HSO
              go_upto_region 18 with (fail)
              go_wp2_with fail
              refine (rint_spec g.day HG.out.2.1 HG.out.2.2 H13.out).mono ?_
              rintro e w14 ⟨a14, c14, rfl, h14⟩
              rw [← HMF.out.2.2.1, ← HMF.out.2.2.2] at h14
              rw [← HMF.out.2.2.1]
              have HSO : Hid (SrcOw w14 a14 md vd) := Lib.hid (by rw [HMF.out.2.2.1, HMF.out.2.2.2] at h14 ⊢; exact osl_ow h14)
              have h15 := h14.drop
              clear h14 H13 k14 j0 j1
              go_wp2_with (at_builtin; (refine wpl_append_osl rfl (.tmp 91) (.tmp 98) 50 rfl 5 1 1 (.int .u8 0) Tryz.underlying50 infoU8w rfl rfl h15 rfl vd HSO.out.len HSO.out.nil HSO.out.src HSO.out.one (by have := HBD3.out; omega) (by have := HBD3.out; unfold maxLen; omega) ?_))
              intro a16 c16 w16 h16
              have H16 := Lib.hid h16
              clear h15 h16 HSO
              go_wp2_with fail
              go_roundw
              case rel =>
                refine ⟨t + 1, a16, n'' + mf + md, c16, _, rfl, by go_num, by have := HNX.out.2; omega, Lib.hid ⟨?_, ?_⟩, H16.out⟩
                · rw [HNX.out.1, List.length_append, List.length_append, HUU.out.1, HMF.out.1, HMF.out.2.2.1]
                · rw [HNX.out.1, List.map_append, List.map_append, HUU.out.2, HMF.out.2.1, HMF.out.2.2.2, List.append_assoc]
              case measure => simp [intOf]; have := HNX.out.2; omega
            · obtain rfl : t = ne := by omega
              have HF : Hid (n'' = P1.length + K.length ∧ vs'' = (P1 ++ K).map bv) := Lib.hid (by
                have h1 := HU.out.2.2.1
                rw [← HNE.out] at h1
                rw [← List.length_append, ← h1]; exact HUU.out)
              have HS := Lib.hid hS
              clear hS hlt hj HUU
              go_wp2
              go_meet
              case rel => exact ⟨a'', n'', c'', vs'', J4, rfl, Lib.hid ⟨HF.out.1, HF.out.2, Mem.le_trans HJ.out HJ4.out.1⟩, HS.out⟩
        | false =>
          cases b19 with
          | true =>
            have HK2 := Lib.hid (HK.out.2.1 (HB0.out.2.1 rfl) (HB0.out.2.2.1 rfl))
            clear k11 k12
            have hS3 : Sat W wr (sep (kn J) (sep (osl 5 1 a' n' c' vs') X)) := by have := HS.out; simpa only [sep_comm, sep_lcomm, sep_assoc] using this
            have HS3 := Lib.hid hS3
            clear hS3 HS
            go_wp2_with fail
            refine (HCF.out _ _ _ HJ.out HS3.out).mono ?_
            rintro e w4 ⟨b4, m4, d4, J4, rfl, hle4, hr4, h4⟩
            have HJ4 := Lib.hid (And.intro hle4 hr4)
            have H4 := Lib.hid h4
            clear h4 hle4 hr4 HCF k0 k15 k16 k17 k18 HS3
            go_upto_region 21 with (fail)
            go_wp2_with fail
            refine (rraw_spec (.slice b4 m4 d4) G H4.out HJ4.out.2 (by have := HTL.out.2.1; omega)).mono ?_
            rintro e w5 ⟨a5, c5, rfl, h5⟩
            obtain ⟨m2, hm2⟩ : ∃ z, z = (encR G).length := ⟨_, rfl⟩
            obtain ⟨v2, hv2⟩ : ∃ z, z = (encR G).map bv := ⟨_, rfl⟩
            rw [← hm2, ← hv2] at h5
            rw [← hm2]
            have HM2 := Lib.hid (And.intro hm2 hv2)
            have HSO : Hid (SrcOw w5 a5 m2 v2) := Lib.hid (by rw [hv2, hm2] at h5 ⊢; exact osl_ow h5)
            have h6 : Sat W w5 (sep (osl 5 1 a' n' c' vs') (sep (kn J4) X)) := by have := h5.drop; simpa only [sep_comm, sep_lcomm, sep_assoc] using this
            have hbd1 : n' + m2 ≤ 1073741824 := by
              have h1 := HP1.out
              rw [HK2.out, ← hm2] at h1; omega
            have HBD1 := Lib.hid hbd1
            clear h5 H4 hm2 hv2 hbd1
            go_wp2_with (at_builtin; (refine wpl_append_osl rfl (.tmp 108) (.tmp 110) 50 rfl 5 1 1 (.int .u8 0) Tryz.underlying50 infoU8w rfl rfl h6 rfl v2 HSO.out.len HSO.out.nil HSO.out.src HSO.out.one (by have := HBD1.out; omega) (by have := HBD1.out; unfold maxLen; omega) ?_))
            intro a7 c7 w7 h7
            have H7 := Lib.hid h7
            clear h6 h7 HSO
            go_wp2
            go_meet
            case rel => exact ⟨a7, n' + m2, c7, _, J4, rfl, Lib.hid ⟨by rw [HP1.out.1, HM2.out.1, HK2.out], by rw [HP1.out.2.1, HM2.out.2, HK2.out, List.map_append], Mem.le_trans HJ.out HJ4.out.1⟩, H7.out⟩
          | false =>
            have HK3 := Lib.hid (HK.out.2.2 (HB0.out.2.1 rfl) (HB0.out.2.2.2 rfl))
            clear k11 k12 k15 k16 k17 k18
            go_wp2
            go_meet
            case rel => exact ⟨a', n', c', vs', J, rfl, Lib.hid ⟨by rw [HP1.out.1, HK3.out]; simp, by rw [HP1.out.2.1, HK3.out, List.append_nil], HJ.out⟩, HS.out⟩
        /-VED1-/
      clear k0 k11 k12 k15 k16 k17 k18 hb0 hb19 HB0 HS
      obtain ⟨a2, n2, c2, vs2, J2, rfl, H22, h22⟩ := hcut
      have k13 := (act_fr (HXP.out _ _ _ h22) 13 _ rfl).1
      by_cases hc0 : z.cl.n = 0
      · have hc1 : ¬ (0 : Int) < (z.cl.n : Int) := by omega
        have HQ0 := Lib.hid (HQ.out.1 hc0)
        have h23 : Sat W wc (sep (osl 5 1 a2 n2 c2 (F.map bv)) (sep (kn J2) X)) := by
          rw [HP1.out.2.2.1, HQ0.out, List.append_nil, ← H22.out.2.1]; exact h22
        obtain ⟨J3, hle3, hr3, h24⟩ := osl_learnY h23 (by rw [HP1.out.2.2.1, HQ0.out, List.append_nil, H22.out.1, List.length_append])
        have HF := Lib.hid (And.intro hle3 (And.intro hr3 (HXQ.out _ _ h24).drop))
        clear h22 h23 h24 hle3 hr3 hc0
        go_wp2
        rw [HPO.out]
        exact ⟨a2, n2, c2, J3, rfl, Mem.le_trans H22.out.2.2 HF.out.1, by rw [HEF.out]; exact HF.out.2.1, HF.out.2.2⟩
      · have hc1 : (0 : Int) < (z.cl.n : Int) := by omega
        have HQ1 := Lib.hid (HQ.out.2 hc0)
        have h23 : Sat W wc (sep (kn J2) (sep (osl 5 1 a2 n2 c2 vs2) X)) := by simpa only [sep_comm, sep_lcomm, sep_assoc] using h22
        have H23 := Lib.hid h23
        clear h22 h23 hc0
        go_wp2_with fail
        refine (HCC.out _ _ _ H22.out.2.2 H23.out).mono ?_
        rintro e w4 ⟨b4, m4, d4, J4, rfl, hle4, hr4, h4⟩
        have HJ4 := Lib.hid (And.intro hle4 hr4)
        have H4 := Lib.hid h4
        clear h4 hle4 hr4 HCC k13 H23 hc1
        go_upto_region 24 with (fail)
        go_wp2_with fail
        refine (rraw_spec (.slice b4 m4 d4) C H4.out HJ4.out.2 (by have := HTL.out.2.2; omega)).mono ?_
        rintro e w5 ⟨a5, c5, rfl, h5⟩
        obtain ⟨m2, hm2⟩ : ∃ z, z = (encR C).length := ⟨_, rfl⟩
        obtain ⟨v2, hv2⟩ : ∃ z, z = (encR C).map bv := ⟨_, rfl⟩
        rw [← hm2, ← hv2] at h5
        rw [← hm2]
        have HM2 := Lib.hid (And.intro hm2 hv2)
        have HSO : Hid (SrcOw w5 a5 m2 v2) := Lib.hid (by rw [hv2, hm2] at h5 ⊢; exact osl_ow h5)
        have h6 : Sat W w5 (sep (osl 5 1 a2 n2 c2 vs2) (sep (kn J4) X)) := by have := h5.drop; simpa only [sep_comm, sep_lcomm, sep_assoc] using this
        have hbd1 : n2 + m2 ≤ 1073741824 := by
          have h1 := HP1.out.2.2.2
          have h2 := H22.out.1
          rw [HQ1.out, ← hm2] at h1; omega
        have HBD1 := Lib.hid hbd1
        clear h5 H4 hm2 hv2 hbd1
        go_wp2_with (at_builtin; (refine wpl_append_osl rfl (.tmp 122) (.tmp 124) 50 rfl 5 1 1 (.int .u8 0) Tryz.underlying50 infoU8w rfl rfl h6 rfl v2 HSO.out.len HSO.out.nil HSO.out.src HSO.out.one (by have := HBD1.out; omega) (by have := HBD1.out; unfold maxLen; omega) ?_))
        intro a7 c7 w7 h7
        have h23 : Sat W w7 (sep (osl 5 1 a7 (n2 + m2) c7 (F.map bv)) (sep (kn J4) X)) := by
          rw [HP1.out.2.2.1, HQ1.out, List.map_append, ← H22.out.2.1, ← HM2.out.2]; exact h7
        obtain ⟨J3, hle3, hr3, h24⟩ := osl_learnY h23 (by rw [HP1.out.2.2.1, HQ1.out, List.length_append, List.length_append, H22.out.1, HM2.out.1])
        have HF := Lib.hid (And.intro hle3 (And.intro hr3 (HXQ.out _ _ h24).drop))
        clear h6 h7 h23 h24 hle3 hr3 HSO
        go_wp2
        rw [HPO.out]
        exact ⟨a7, n2 + m2, c7, J3, rfl, Mem.le_trans H22.out.2.2 (Mem.le_trans HJ4.out.1 HF.out.1), by rw [HEF.out]; exact HF.out.2.1, HF.out.2.2⟩
end Go.Proofs.YtodipneapffjdaaGreatDoor
