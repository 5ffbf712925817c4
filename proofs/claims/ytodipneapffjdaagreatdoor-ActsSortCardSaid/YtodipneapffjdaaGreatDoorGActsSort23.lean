/- The reference's Encode of texts. -/
import Derived.Test.YtodipneapffjdaaGreatDoorGActsSort13
import Derived.Test.YtodipneapffjdaaGreatDoorGActsSortSVm
import Derived.Test.YtodipneapffjdaaGreatDoorGActsSort5
namespace Go.Proofs.YtodipneapffjdaaGreatDoor
open Go.RowKit PA
set_option maxHeartbeats 4000000 in
theorem r12encode_spec {W w : World} {A : Assn} {I : Mem} (ta : Option Addr) (tn tc : Nat) (ca : Option Addr) (cn cc : Nat) (td : List Fm) (cl : List Cl) (ht : (rF.slice 4).rel I [.slice ta tn tc] td) (hc : (rCl.slice 5).rel I [.slice ca cn cc] cl) (hT : ∀ f ∈ td, f.size ≤ FmB) (hB : ∀ x ∈ cl, x.body.size ≤ FmB)
    (hTO : ∀ f ∈ td, FmOK f) (hCO : ∀ x ∈ cl, ClOK x) (hlen : (encTx td cl).length ≤ 268435456) (hlc : (encCls cl).length ≤ 134217728) (h : Sat W w (sep (kn I) A)) :
    Calls Tryz.prog 31 #[.agg #[.slice ta tn tc, .slice ca cn cc]] w fun e w' => ∃ (b : Option Addr) (m d : Nat) (J : Mem), e = .returned (.tuple #[.slice b m d, .int .i64 (txE td cl)]) ∧ Mem.le I J ∧ rBytes.rel J [.slice b m d] (encTx0 td cl) ∧ Sat W w' (sep (kn J) A) := by
  have htn := (slice_len ht).1
  have ht63 := (slice_len ht).2.2
  have h1 := h.alloc (.cells #[.slice ta tn tc, .slice ca cn cc] 31)
  obtain ⟨B, hBb⟩ : ∃ B, B = w.heap.size := ⟨_, rfl⟩
  obtain ⟨w1, hw1⟩ : ∃ z, z = w.alloc (.cells #[.slice ta tn tc, .slice ca cn cc] 31) := ⟨_, rfl⟩
  rw [← hBb, ← hw1] at h1
  have HBB := Lib.hid (And.intro hBb hw1)
  have k0 : w1.cell? ⟨B, 0, none⟩ = some (.slice ta tn tc) := by rw [h1.cell 0]; rfl
  have k1 : w1.cell? ⟨B, 1, none⟩ = some (.slice ca cn cc) := by rw [h1.cell 1]; rfl
  obtain ⟨X, hX⟩ : ∃ X, X = sep (blk B (.cells #[.slice ta tn tc, .slice ca cn cc] 31 (0, 0))) A := ⟨_, rfl⟩
  have HX : Hid (∀ w' J Y, Sat W w' (sep Y (sep (kn J) X)) → w'.cell? ⟨B, 0, none⟩ = some (.slice ta tn tc) ∧ w'.cell? ⟨B, 1, none⟩ = some (.slice ca cn cc)) := Lib.hid fun w' J Y h' => by
    rw [hX] at h'
    have h2 := h'.drop.p1
    exact ⟨by rw [h2.cell 0]; rfl, by rw [h2.cell 1]; rfl⟩
  have HXD : Hid (∀ w' J, Sat W w' (sep (kn J) X) → Sat W w' (sep (kn J) A) ∧ w'.cell? ⟨B, 0, none⟩ = some (.slice ta tn tc) ∧ w'.cell? ⟨B, 1, none⟩ = some (.slice ca cn cc)) := Lib.hid fun w' J h' => by
    rw [hX] at h'
    have h2 := h'.p1
    exact ⟨h2.drop, by rw [h2.cell 0]; rfl, by rw [h2.cell 1]; rfl⟩
  have h1' : Sat W w1 (sep (kn I) X) := by rw [hX]; simpa only [sep_comm, sep_lcomm, sep_assoc] using h1
  obtain ⟨rv, hrv⟩ : ∃ z, z = txE td cl := ⟨_, rfl⟩
  obtain ⟨E, hE⟩ : ∃ z, z = encTx td cl := ⟨_, rfl⟩
  obtain ⟨E0, hE0⟩ : ∃ z, z = encTx0 td cl := ⟨_, rfl⟩
  obtain ⟨ce, hce⟩ : ∃ z, z = clE cl := ⟨_, rfl⟩
  obtain ⟨F, hF⟩ : ∃ z, z = encCls0 cl := ⟨_, rfl⟩
  have HVS : Hid (∀ w' A', Sat W w' (sep (kn I) A') → Calls Tryz.prog 56 #[.agg #[.slice ta tn tc, .slice ca cn cc]] w' fun e w'' => ∃ J, e = .returned (.int .i64 rv) ∧ Mem.le I J ∧ Sat W w'' (sep (kn J) A')) := Lib.hid fun w' A' h' => by rw [hrv]; exact r12valid_spec ta tn tc ca cn cc td cl ht hc hT hB h'
  have HCE : Hid (∀ w' A' J, Mem.le I J → Sat W w' (sep (kn J) A') → Calls Tryz.prog 34 #[.slice ca cn cc] w' fun e w'' => ∃ (b : Option Addr) (m d : Nat) (J2 : Mem), e = .returned (.tuple #[.slice b m d, .int .i64 ce]) ∧ Mem.le J J2 ∧ rBytes.rel J2 [.slice b m d] F ∧ Sat W w'' (sep (kn J2) A')) := Lib.hid fun w' A' J hl h' => by rw [hce, hF]; exact r11encode_spec ca cn cc cl ((rCl.slice 5).mono hl hc) hB hCO hlc h'
  have HE0 : Hid ((rv = 0 → E0 = E) ∧ (rv ≠ 0 → E0 = [])) := Lib.hid ⟨fun h0 => by rw [hE0, hE]; unfold encTx0; rw [if_pos (by rw [← hrv]; exact h0)], fun h0 => by rw [hE0]; unfold encTx0; rw [if_neg (by rw [← hrv]; exact h0)]⟩
  have hFl : F.length ≤ 134217728 := by rw [hF]; exact encCls0_le hlc
  obtain ⟨V, hV⟩ : ∃ V : Nat → List UInt8, V = fun j => PA.encI tn ++ encTd (td.take j) := ⟨_, rfl⟩
  have hV0 : V 0 = PA.encI tn := by rw [hV]; simp [encTd]
  have hVs : ∀ j g, td[j]? = some g → V (j + 1) = V j ++ encR (encF0 g) := fun j g hg => by
    rw [hV]; simp only; unfold encTd; rw [flat_take (fun f => encR (encF0 f)) hg]; simp only [List.append_assoc]
  have hVe : V tn ++ encR F = E := by rw [hV, hE, hF]; simp only; rw [htn, List.take_length]; rfl
  have hEl : E.length ≤ 268435456 := by rw [hE]; exact hlen
  have hVl : ∀ j, (V j).length ≤ 268435456 := fun j => by
    rw [hV]; simp only [List.length_append]
    have := flat_le (fun f => encR (encF0 f)) td j
    unfold encTx at hlen; rw [List.length_append, List.length_append, ← htn] at hlen
    unfold encTd at hlen ⊢; omega
  have htn31 : tn ≤ 268435456 := by
    have key : ∀ l : List Fm, l.length ≤ (encTd l).length := by
      intro l
      induction l with
      | nil => simp
      | cons g l ih =>
        unfold encTd at ih ⊢
        rw [List.map_cons, List.flatten_cons, List.length_append, List.length_cons]
        have : 1 ≤ (encR (encF0 g)).length := by
          unfold encR; simp only [List.length_append]
          have := uvarint_pos (encF0 g).length
          omega
        omega
    have := key td
    unfold encTx at hlen; rw [List.length_append, List.length_append] at hlen
    omega
  have hb0 := encI_le (r := (tn : Int)) (by omega) (by omega)
  have HVL := Lib.hid (And.intro hVl hEl)
  have HV := Lib.hid (And.intro hV0 (And.intro hVs hVe))
  have HTT := Lib.hid (And.intro ht (And.intro hT hTO))
  have HN := Lib.hid htn
  have HFL := Lib.hid hFl
  have H1 := Lib.hid h1'
  rw [← hrv, ← hE0]
  obtain ⟨Po, hPo⟩ : ∃ P : Ending → World → Prop, P = fun e w' => ∃ (b : Option Addr) (m d : Nat) (J : Mem), e = .returned (.tuple #[.slice b m d, .int .i64 rv]) ∧ Mem.le I J ∧ rBytes.rel J [.slice b m d] E0 ∧ Sat W w' (sep (kn J) A) := ⟨_, rfl⟩
  rw [← hPo]
  have HPO := Lib.hid hPo
  clear ht hc hT hB hTO hCO hlen hlc h h1 h1' hBb hw1 hX hrv hE hE0 hce hF hFl hV hV0 hVs hVe hEl hVl htn hPo
  by_cases hr0 : rv = 0
  · subst hr0
    have HEE := Lib.hid (HE0.out.1 rfl)
    clear HE0
    go_enter Tryz.func31, Tryz.ntmps31
    go_upto_region 1 with (fail)
    rw [← HBB.out.1, ← HBB.out.2]
    go_wp2_with fail
    refine (HVS.out _ _ H1.out).mono ?_
    rintro e w2 ⟨J, rfl, hle, h2⟩
    have HJ := Lib.hid hle
    have H2 := Lib.hid h2
    clear h2 hle HVS k0 k1 H1
    obtain ⟨-, k0, k1⟩ := HXD.out _ _ H2.out
    go_upto_region 4 with (fail)
    go_wp2_with fail
    refine (rint_spec (tn : Int) (by omega) (by omega) H2.out).mono ?_
    rintro e w3 ⟨a1, c1, rfl, h3⟩
    obtain ⟨m, hm⟩ : ∃ m, m = (PA.encI tn).length := ⟨_, rfl⟩
    obtain ⟨vs, hvs⟩ : ∃ vs, vs = (PA.encI tn).map bv := ⟨_, rfl⟩
    rw [← hm, ← hvs] at h3
    rw [← hm]
    have HM := Lib.hid (And.intro hm hvs)
    have H3 := Lib.hid h3
    clear hm hvs h3 H2 hb0 k0 k1
    go_wp2_with fail
    go_loopw [5, 6] (fun ov kv wr => ∃ (k : Nat) (a' : Option Addr) (n' c' : Nat) (vs : List Value) (J : Mem), ov = .slice a' n' c' ∧ kv = .int .i64 k ∧ k ≤ tn ∧ Hid (n' = (V k).length ∧ vs = (V k).map bv ∧ Mem.le I J) ∧ Sat W wr (sep (osl 5 1 a' n' c' vs) (sep (kn J) X))) (fun _ kv _ => tn - (intOf kv).toNat)
    case atStart => exact ⟨0, a1, m, c1, vs, J, rfl, rfl, by omega, Lib.hid ⟨by rw [HM.out.1, HV.out.1], by rw [HM.out.2, HV.out.1], HJ.out⟩, H3.out⟩
    case round =>
      obtain ⟨k, a', n', c', vs', J', rfl, rfl, hk, HVV, hS⟩ := hrel
      clear H3
      obtain ⟨k0, k1⟩ := HX.out _ _ _ hS
      by_cases hlt : k < tn
      · have hltz : (k : Int) < (tn : Int) := by omega
        obtain ⟨g, hg⟩ : ∃ g, td[k]? = some g := ⟨_, List.getElem?_eq_getElem (by have := HN.out; omega)⟩
        have hgm : g ∈ td := List.mem_of_getElem? hg
        obtain ⟨b, o, p, q, x1, n1, d1, x2, n2, d2, rfl, hrb, hcell⟩ := fm_elem HTT.out.1 hg
        obtain ⟨j0, j1, j2, j3⟩ := hcell wr (ext_le HVV.out.2.2 hS.p1.ext)
        obtain ⟨fe, hfe⟩ : ∃ z, z = fmE g := ⟨_, rfl⟩
        obtain ⟨G, hG⟩ : ∃ z, z = encF0 g := ⟨_, rfl⟩
        have hcall := r07encode_spec (W := W) (w := wr) (A := sep (osl 5 1 a' n' c' vs') X) (I := J') g p q x1 n1 d1 x2 n2 d2 (rF.mono HVV.out.2.2 hrb) (HTT.out.2.1 g hgm) (HTT.out.2.2 g hgm).b64 (by have := (HTT.out.2.2 g hgm).bl; omega) (by simpa only [sep_comm, sep_lcomm, sep_assoc] using hS)
        rw [← hfe, ← hG] at hcall
        have hGl : G.length ≤ 16777216 := by rw [hG]; exact encF0_le (HTT.out.2.2 g hgm).bl
        obtain ⟨m2, hm2⟩ : ∃ z, z = (encR G).length := ⟨_, rfl⟩
        obtain ⟨v2, hv2⟩ : ∃ z, z = (encR G).map bv := ⟨_, rfl⟩
        have hb1 : n' + m2 ≤ 268435456 := by
          have h1 := HVL.out.1 (k + 1)
          rw [HV.out.2.1 k g hg, List.length_append, ← HVV.out.1, ← hG, ← hm2] at h1
          exact h1
        have HNX : Hid (V (k + 1) = V k ++ encR G ∧ k < tn) := Lib.hid ⟨by rw [hG]; exact HV.out.2.1 k g hg, hlt⟩
        have HM2 := Lib.hid (And.intro hm2 hv2)
        have HCL := Lib.hid hcall
        have HB1 := Lib.hid (And.intro hb1 hGl)
        clear hg hgm hrb hcell hfe hG hcall hGl hm2 hv2 hb1 hlt hk hS
        go_upto_region 8 with (fail)
        go_wp2_with fail
        refine HCL.out.mono ?_
        rintro e w4 ⟨b4, m4, d4, J2, rfl, hle2, hr2, h4⟩
        have HJ2 := Lib.hid (And.intro hle2 hr2)
        have H4 := Lib.hid h4
        clear h4 hle2 hr2 HCL k0 k1 j0 j1 j2 j3
        go_upto_region 9 with (fail)
        go_wp2_with fail
        refine (rraw_spec (.slice b4 m4 d4) G H4.out HJ2.out.2 (by have := HB1.out; omega)).mono ?_
        rintro e w5 ⟨a5, c5, rfl, h5⟩
        rw [← HM2.out.1, ← HM2.out.2] at h5
        rw [← HM2.out.1]
        have HSO : Hid (SrcOw w5 a5 m2 v2) := Lib.hid (by rw [HM2.out.2, HM2.out.1] at h5 ⊢; exact osl_ow h5)
        have h6 : Sat W w5 (sep (osl 5 1 a' n' c' vs') (sep (kn J2) X)) := by have := h5.drop; simpa only [sep_comm, sep_lcomm, sep_assoc] using this
        clear h5 H4
        go_wp2_with (at_builtin; (refine wpl_append_osl rfl (.tmp 36) (.tmp 38) 50 rfl 5 1 1 (.int .u8 0) Tryz.underlying50 infoU8w rfl rfl h6 rfl v2 HSO.out.len HSO.out.nil HSO.out.src HSO.out.one (by have := HB1.out; omega) (by have := HB1.out; unfold maxLen; omega) ?_))
        intro a7 c7 w7 h9
        have H9 := Lib.hid h9
        clear h6 h9 HSO
        go_wp2_with fail
        go_roundw
        case rel =>
          refine ⟨k + 1, a7, n' + m2, c7, _, J2, rfl, by go_num, by have := HNX.out.2; omega, Lib.hid ⟨?_, ?_, Mem.le_trans HVV.out.2.2 HJ2.out.1⟩, H9.out⟩
          · rw [HNX.out.1, List.length_append, HVV.out.1, HM2.out.1]
          · rw [HNX.out.1, List.map_append, HVV.out.2.1, HM2.out.2]
        case measure => simp [intOf]; have := HNX.out.2; omega
      · obtain rfl : k = tn := by omega
        have hb1 : n' + (encR F).length = E.length := by rw [HVV.out.1, ← List.length_append, HV.out.2.2]
        have hb2 : vs' ++ (encR F).map bv = E.map bv := by rw [HVV.out.2.1, ← List.map_append, HV.out.2.2]
        obtain ⟨m2, hm2⟩ : ∃ z, z = (encR F).length := ⟨_, rfl⟩
        obtain ⟨v2, hv2⟩ : ∃ z, z = (encR F).map bv := ⟨_, rfl⟩
        rw [← hm2] at hb1
        rw [← hv2] at hb2
        have HM2 := Lib.hid (And.intro hm2 (And.intro hv2 (And.intro hb1 hb2)))
        have hS2 : Sat W wr (sep (kn J') (sep (osl 5 1 a' n' c' vs') X)) := by simpa only [sep_comm, sep_lcomm, sep_assoc] using hS
        have HJL := Lib.hid HVV.out.2.2
        have HS2 := Lib.hid hS2
        clear hS hS2 hb1 hb2 hm2 hv2 hlt hk HVV
        go_upto_region 10 with (fail)
        go_wp2_with fail
        refine (HCE.out _ _ _ HJL.out HS2.out).mono ?_
        rintro e w4 ⟨b4, m4, d4, J2, rfl, hle2, hr2, h4⟩
        have HJ2 := Lib.hid (And.intro hle2 hr2)
        have H4 := Lib.hid h4
        clear h4 hle2 hr2 HCE k0 k1 HS2
        go_upto_region 11 with (fail)
        go_wp2_with fail
        refine (rraw_spec (.slice b4 m4 d4) F H4.out HJ2.out.2 (by have := HFL.out; omega)).mono ?_
        rintro e w5 ⟨a5, c5, rfl, h5⟩
        rw [← HM2.out.1, ← HM2.out.2.1] at h5
        rw [← HM2.out.1]
        have HSO : Hid (SrcOw w5 a5 m2 v2) := Lib.hid (by rw [HM2.out.2.1, HM2.out.1] at h5 ⊢; exact osl_ow h5)
        have h6 : Sat W w5 (sep (osl 5 1 a' n' c' vs') (sep (kn J2) X)) := by have := h5.drop; simpa only [sep_comm, sep_lcomm, sep_assoc] using this
        clear h5 H4
        go_wp2_with (at_builtin; (refine wpl_append_osl rfl (.tmp 46) (.tmp 48) 50 rfl 5 1 1 (.int .u8 0) Tryz.underlying50 infoU8w rfl rfl h6 rfl v2 HSO.out.len HSO.out.nil HSO.out.src HSO.out.one (by have := HM2.out.2.2.1; have := HVL.out.2; omega) (by have := HM2.out.2.2.1; have := HVL.out.2; unfold maxLen; omega) ?_))
        intro a7 c7 w7 h9
        have h10 : Sat W w7 (sep (osl 5 1 a7 (n' + m2) c7 (E.map bv)) (sep (kn J2) X)) := by rw [← HM2.out.2.2.2]; exact h9
        obtain ⟨J3, hle3, hr3, h11⟩ := osl_learnY h10 HM2.out.2.2.1
        have HF := Lib.hid (And.intro hle3 (And.intro hr3 (HXD.out _ _ h11).1))
        clear h6 h9 h10 h11 hle3 hr3 HSO
        go_wp2
        rw [HPO.out]
        exact ⟨a7, n' + m2, c7, J3, rfl, Mem.le_trans HJL.out (Mem.le_trans HJ2.out.1 HF.out.1), by rw [HEE.out]; exact HF.out.2.1, HF.out.2.2⟩
  · have HEE := Lib.hid (HE0.out.2 hr0)
    have hb1 : (rv != 0) = true := by simpa using hr0
    have hb2 : (rv == 0) = false := by simpa using hr0
    clear HE0 hr0
    go_enter Tryz.func31, Tryz.ntmps31
    go_upto_region 1 with (fail)
    rw [← HBB.out.1, ← HBB.out.2]
    go_wp2_with fail
    refine (HVS.out _ _ H1.out).mono ?_
    rintro e w2 ⟨J, rfl, hle, h2⟩
    have HF := Lib.hid (And.intro hle (HXD.out _ _ h2).1)
    clear h2 hle HVS k0 k1 H1
    go_wp2
    rw [HPO.out]
    exact ⟨none, 0, 0, J, rfl, HF.out.1, by rw [HEE.out]; exact bytes_nilY J, HF.out.2⟩
end Go.Proofs.YtodipneapffjdaaGreatDoor
/- Package title in plain: shares, transfers, the walk through sorted acts. No program in sight. -/
namespace PA
open Go
abbrev Shs := Int → Option Rt
def shareP (S : Shs) (p : Int) : Rt := (S p).getD ⟨0, 1⟩
def setSh (S : Shs) (p : Int) (r : Rt) : Shs := fun x => if x = p then some r else S x
def first1 (p : Int) : Shs := setSh (fun _ => none) p ⟨1, 1⟩
/-- All shares are in lowest terms, and not below 0. -/
def ShOk (S : Shs) : Prop := ∀ p r, S p = some r → okR r = true ∧ 0 ≤ r.n
theorem okR_one : okR ⟨1, 1⟩ = true := by decide
theorem okR_zero : okR ⟨0, 1⟩ = true := by decide
theorem ShOk.first (p : Int) : ShOk (first1 p) := by
  intro q r h
  unfold first1 setSh at h
  split at h
  · cases h; exact ⟨okR_one, by decide⟩
  · cases h
theorem ShOk.share {S : Shs} (h : ShOk S) (p : Int) : okR (shareP S p) = true ∧ 0 ≤ (shareP S p).n := by
  unfold shareP
  cases e : S p with
  | none => exact ⟨okR_zero, by decide⟩
  | some r => exact h p r e
end PA
