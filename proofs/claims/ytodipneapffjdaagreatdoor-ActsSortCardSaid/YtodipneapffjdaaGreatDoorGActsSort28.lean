/- slices.symMergeCmpFunc at acts: many before many; all. -/
import Derived.Test.YtodipneapffjdaaGreatDoorGActsSort27
import Derived.Deep.CutBlock
namespace Go.Proofs.YtodipneapffjdaaGreatDoor
open Go.RowKit PA
attribute [local go_sem ↓] sizeAct
/-- What a merge of two sorted parts of a row yields. -/
def SymOK (W : World) (A0 A : Assn) (c : Ac → Ac → Int) (g N cp : Nat) (tl : List Value) (a m b : Nat) (f : Nat → Ac) (w : World) : Prop :=
  Calls Tryz.prog 49 #[.slice (some ⟨g, 0, none⟩) N cp, .int .i64 a, .int .i64 m, .int .i64 b, .func (.func 9) #[] #[]] w fun e w' => e = .returned (.tuple #[]) ∧ ∃ f', Sw a b f f' ∧ SrtF c a b f' ∧ Sat W w' (sep (arow g N f' tl) (sep A0 A))
structure SymN (a m b lo hi mid n : Nat) : Prop where
  e1 : mid = (a + b) / 2
  e2 : n = mid + m
  e3 : lo = if mid < m then n - b else a
  e4 : hi = if mid < m then mid else m
theorem SymN.facts {a m b lo hi mid n : Nat} (h : SymN a m b lo hi mid n) (h1 : a < m) (h2 : m < b) : lo ≤ hi ∧ a ≤ lo ∧ hi ≤ mid ∧ hi ≤ m ∧ n - lo ≤ b ∧ m + hi ≤ n ∧ (lo = a ∨ n - lo = b) ∧ (hi = m ∨ n - hi = m) := by
  obtain ⟨e1, e2, e3, e4⟩ := h
  by_cases c : mid < m
  · rw [if_pos c] at e3 e4; omega
  · rw [if_neg c] at e3 e4; omega
set_option maxRecDepth 100000 in
set_option maxHeartbeats 8000000 in
theorem sym_c {W w : World} {A A0 : Assn} {D : Ac → Ac → Prop} {c : Ac → Ac → Int} {g N : Nat} {f : Nat → Ac} {tl : List Value} (hT : Total c) (hC : CmpOK W A0 D c) (hD : DF D N f) (hN : N ≤ 65536) (cp : Nat) (a m b : Nat) (h1 : a < m) (h2 : m < b) (h3 : b ≤ N)
    (h4 : m ≠ a + 1) (h5 : b ≠ m + 1) (IH : ∀ (a' m' b' : Nat) (f' : Nat → Ac) (w' : World), b' - a' < b - a → a' < m' → m' < b' → b' ≤ N → SrtF c a' m' f' → SrtF c m' b' f' → DF D N f' → Sat W w' (sep (arow g N f' tl) (sep A0 A)) → SymOK W A0 A c g N cp tl a' m' b' f' w')
    (hs1 : SrtF c a m f) (hs2 : SrtF c m b f) (h : Sat W w (sep (arow g N f tl) (sep A0 A))) : SymOK W A0 A c g N cp tl a m b f w := by
  unfold SymOK
  have HC := Lib.hid hC
  have HT := Lib.hid hT
  have HD := Lib.hid hD
  have HS := Lib.hid (And.intro hs1 hs2)
  have H := Lib.hid h
  have HIH := Lib.hid IH
  have hq0 : ((m : Int) - (a : Int) == 1) = false := by simp; omega
  have hq1 : ((b : Int) - (m : Int) == 1) = false := by simp; omega
  obtain ⟨mid, hmid⟩ : ∃ x, x = (a + b) / 2 := ⟨_, rfl⟩
  obtain ⟨n, hn⟩ : ∃ x, x = mid + m := ⟨_, rfl⟩
  obtain ⟨lo, hlo⟩ : ∃ x, x = if mid < m then n - b else a := ⟨_, rfl⟩
  obtain ⟨hi, hhi⟩ : ∃ x, x = if mid < m then mid else m := ⟨_, rfl⟩
  have hsn : SymN a m b lo hi mid n := ⟨hmid, hn, hlo, hhi⟩
  have HF := Lib.hid (hsn.facts h1 h2)
  have HSN := Lib.hid hsn
  have x1 : ((a : Int) + (b : Int)) / 2 = (mid : Int) := by omega
  have x2 : (mid : Int) + (m : Int) = (n : Int) := by omega
  obtain ⟨p, hp⟩ : ∃ p, p = n - 1 := ⟨_, rfl⟩
  have x3 : (n : Int) - 1 = (p : Int) := by omega
  have HP := Lib.hid hp
  have hp65 : p < 131074 := by omega
  have bN : b < 65537 := by omega
  have hmidb : mid < b := by omega
  have hamid : a < mid := by omega
  clear hC hT hD hs1 hs2 h IH h4 h5 hsn hmid hn hlo hhi hp
  go_enter Tryz.func49, Tryz.ntmps49
  go_upto_if 140 with (fail)
  clear hq0 hq1 x1 x2
  go_cut [20, 21] (fun sv rv wx => sv = .int .i64 (lo : Nat) ∧ rv = .int .i64 (hi : Nat) ∧ wx = w)
  case first =>
   as_aux_lemma =>
    have e3 := HSN.out.e3
    have e4 := HSN.out.e4
    have e2 := HSN.out.e2
    have e1 := HSN.out.e1
    have hloN : lo < 65537 := by have := HF.out; omega
    by_cases cm : mid < m
    · have cmz : (mid : Int) < (m : Int) := by omega
      rw [if_pos cm] at e3 e4
      have x4 : (n : Int) - (b : Int) = (lo : Int) := by omega
      clear e3 e4 e2 e1
      go_wp2
      go_meet
      case rel => exact ⟨rfl, by rw [HSN.out.e4, if_pos cm], rfl⟩
    · have cmz : ¬ (mid : Int) < (m : Int) := by omega
      rw [if_neg cm] at e3 e4
      clear e2 e1
      go_wp2
      go_meet
      case rel => exact ⟨by rw [e3], by rw [e4], rfl⟩
  case rest =>
   as_aux_lemma =>
    obtain ⟨rfl, rfl, rfl⟩ := hcut
    clear hamid hmidb
    go_upto_region 32 with (fail)
    go_wp2
    go_loopw [20, 21] (fun sv rv wr => ∃ (s r : Nat), sv = .int .i64 s ∧ rv = .int .i64 r ∧ lo ≤ s ∧ s ≤ r ∧ r ≤ hi ∧ Hid ((s = lo ∨ c (f (s - 1)) (f (n - s)) ≤ 0) ∧ (r = hi ∨ c (f (n - 1 - r)) (f r) ≤ 0)) ∧ Sat W wr (sep (arow g N f tl) (sep A0 A))) (fun sv rv _ => (intOf rv).toNat - (intOf sv).toNat)
    case atStart => exact ⟨lo, hi, rfl, rfl, Nat.le_refl _, HF.out.1, Nat.le_refl _, Lib.hid ⟨.inl rfl, .inl rfl⟩, H.out⟩
    case round =>
     as_aux_lemma =>
      obtain ⟨s, r, rfl, rfl, hs1, hs2, hs3, HR, hS⟩ := hrel
      have hr65 : r < 65537 := by have := HF.out; omega
      by_cases hlt : s < r
      · have hltz : (s : Int) < (r : Int) := by omega
        obtain ⟨x, hx⟩ : ∃ x, x = (s + r) / 2 := ⟨_, rfl⟩
        obtain ⟨y, hy⟩ : ∃ y, y = p - x := ⟨_, rfl⟩
        have hxy : x < m ∧ m ≤ y ∧ y < b ∧ x ≤ p ∧ x < r ∧ s ≤ x := by have := HF.out; have := HP.out; omega
        have ex : ((s : Int) + (r : Int)) / 2 = (x : Int) := by omega
        have ey : IntKind.i64.wrap ((p : Int) - (x : Int)) = (y : Int) := by rw [IntWalk.i64_in _ (by omega)]; omega
        have jx : (x : Int) < (N : Int) := by omega
        have jy : (y : Int) < (N : Int) := by omega
        have hd := hS.drew
        obtain ⟨wd, hwd⟩ : ∃ wd, wd = wr.drew := ⟨_, rfl⟩
        rw [← hwd] at hd
        have l1 := arow_ld hd y (by omega)
        have l2 := arow_ld hd x (by omega)
        have hcc := HC.out (f y) (f x) wd _ (HD.out y x (by omega) (by omega) (by omega)) hd.p1
        obtain ⟨cv, hcv⟩ : ∃ cv, cv = c (f y) (f x) := ⟨_, rfl⟩
        rw [← hcv] at hcc
        have hfl := HT.out.flip (f y) (f x)
        rw [← hcv] at hfl
        have HFL := Lib.hid hfl
        have HCV := Lib.hid hcv
        have HCC := Lib.hid hcc
        have HWD := Lib.hid hwd
        have HXY := Lib.hid (And.intro hx (And.intro hy hxy))
        have hxr : x < r := hxy.2.2.2.2.1
        have hsx : s ≤ x := hxy.2.2.2.2.2
        clear hd hwd hS hcc hcv hx hy hfl hxy
        go_upto_region 35 with (fail)
        clear ex
        refine wp_region_canon rfl (fun _ => True) [(0, .p), (1, .p), (2, .p), (3, .p), (4, .p), (5, .p), (6, .t), (7, .p), (8, .p), (9, .p), (10, .t), (11, .e false), (12, .p), (13, .p)] (by kernel_rfl) ?_
        have hS0 : True := trivial
        rw [← HWD.out]
        (repeat ((first | (refine C_p (v := ?_) rfl rfl (fun w' => ?_) ?_; rotate_left; (go_simp; with_reducible rfl)) | (refine C_s (v := ?_) rfl rfl hS0 (fun w' hS => ?_) ?_; rotate_left; ((try dsimp only at hS); go_simp; with_reducible rfl)) | (refine C_t (v := ?_) rfl rfl ?_ ?_; rotate_left; (go_simp; with_reducible rfl)) | (refine C_po rfl rfl ?_) | (refine C_so rfl rfl hS0 ?_) | (refine C_to rfl rfl ?_)); simp only [Act.put, List.setIfInBounds_toArray, List.set_cons_zero, List.set_cons_succ]))
        clear l1 l2
        (refine C_e rfl rfl (fun K hK => ?_); go_simp)
        refine HCC.out.mono ?_
        rintro e w3 ⟨rfl, h3⟩
        (refine hK _ _ (fun h => by cases h) ?_; clear hK K; (try simp only [Act.put, List.setIfInBounds_toArray, List.set_cons_zero, List.set_cons_succ]))
        clear HCC HWD ey
        have H3 := Lib.hid h3.p1
        clear h3
        by_cases hlv : cv < 0
        · (repeat ((first | (refine C_p (v := ?_) rfl rfl (fun w' => ?_) ?_; rotate_left; (go_simp; with_reducible rfl)) | (refine C_s (v := ?_) rfl rfl hS0 (fun w' hS => ?_) ?_; rotate_left; ((try dsimp only at hS); go_simp; with_reducible rfl)) | (refine C_t (v := ?_) rfl rfl ?_ ?_; rotate_left; (go_simp; with_reducible rfl)) | (refine C_po rfl rfl ?_) | (refine C_so rfl rfl hS0 ?_) | (refine C_to rfl rfl ?_)); simp only [Act.put, List.setIfInBounds_toArray, List.set_cons_zero, List.set_cons_succ]))
          refine C_nil ?_
          go_wp2
          go_roundw
          case rel =>
            refine ⟨s, x, rfl, rfl, hs1, hsx, by omega, Lib.hid ⟨HR.out.1, .inr ?_⟩, H3.out⟩
            have : n - 1 - x = y := by rw [HXY.out.2.1, HP.out]
            rw [this, ← HCV.out]; omega
          case measure => simp [intOf]; omega
        · (repeat ((first | (refine C_p (v := ?_) rfl rfl (fun w' => ?_) ?_; rotate_left; (go_simp; with_reducible rfl)) | (refine C_s (v := ?_) rfl rfl hS0 (fun w' hS => ?_) ?_; rotate_left; ((try dsimp only at hS); go_simp; with_reducible rfl)) | (refine C_t (v := ?_) rfl rfl ?_ ?_; rotate_left; (go_simp; with_reducible rfl)) | (refine C_po rfl rfl ?_) | (refine C_so rfl rfl hS0 ?_) | (refine C_to rfl rfl ?_)); simp only [Act.put, List.setIfInBounds_toArray, List.set_cons_zero, List.set_cons_succ]))
          refine C_nil ?_
          go_wp2
          go_roundw
          case rel =>
            refine ⟨x + 1, r, by go_num, rfl, by omega, by omega, hs3, Lib.hid ⟨.inr ?_, HR.out.2⟩, H3.out⟩
            have : n - (x + 1) = y := by rw [HXY.out.2.1, HP.out]; omega
            rw [this, Nat.add_sub_cancel, HFL.out]; omega
          case measure => simp [intOf]; omega
      · obtain rfl : s = r := by omega
        obtain ⟨en, hen⟩ : ∃ en, en = n - s := ⟨_, rfl⟩
        have hfen : m ≤ en ∧ en ≤ b ∧ s ≤ m ∧ a ≤ s ∧ s ≤ mid ∧ en + s = mid + m ∧ s ≤ n := by have h6 := HF.out; have h7 := HSN.out.e2; omega
        have een : (n : Int) - (s : Int) = (en : Int) := by omega
        have HHR : Hid ((s = a ∨ en = b ∨ c (f (s - 1)) (f en) ≤ 0) ∧ (s = m ∨ en = m ∨ c (f (en - 1)) (f s) ≤ 0)) := Lib.hid (by
          have h6 := HF.out
          have h7 := HSN.out.e2
          refine ⟨?_, ?_⟩
          · rcases HR.out.1 with q | q
            · rcases h6.2.2.2.2.2.2.1 with r1 | r1
              · exact .inl (by omega)
              · exact .inr (.inl (by omega))
            · exact .inr (.inr (by rw [hen]; exact q))
          · rcases HR.out.2 with q | q
            · rcases h6.2.2.2.2.2.2.2 with r1 | r1
              · exact .inl (by omega)
              · exact .inr (.inl (by omega))
            · exact .inr (.inr (by rw [hen, show n - s - 1 = n - 1 - s by omega]; exact q)))
        have HS2 := Lib.hid hS
        have HEN := Lib.hid hfen
        have en65 : en < 65537 := by omega
        clear hS HR hen hfen hs1 hs2 hs3 hlt x3
        clear hp65
        go_upto_region 39 with (fail)
        go_cut [185] (fun tv wx => tv = .bool (decide (s < m ∧ m < en)) ∧ wx = wr)
        case first =>
         as_aux_lemma =>
          by_cases q1 : s < m
          · have q1z : (s : Int) < (m : Int) := by omega
            by_cases q2 : m < en
            · have q2z : (m : Int) < (en : Int) := by omega
              have QQ := Lib.hid (And.intro q1 q2)
              go_wp2
              go_meet
              case rel => exact ⟨by rw [decide_eq_true QQ.out], rfl⟩
            · have q2z : ¬ (m : Int) < (en : Int) := by omega
              have QQ := Lib.hid q2
              go_wp2
              go_meet
              case rel => exact ⟨by rw [decide_eq_false (fun q => QQ.out q.2)], rfl⟩
          · have q1z : ¬ (s : Int) < (m : Int) := by omega
            have QQ := Lib.hid q1
            go_wp2
            go_meet
            case rel => exact ⟨by rw [decide_eq_false (fun q => QQ.out q.1)], rfl⟩
        case rest =>
         as_aux_lemma =>
          obtain ⟨rfl, rfl⟩ := hcut
          obtain ⟨bb, hbb⟩ : ∃ bb, bb = decide (s < m ∧ m < en) := ⟨_, rfl⟩
          rw [← hbb]
          have HBB := Lib.hid hbb
          clear hbb
          go_upto_if 185 with (fail)
          go_cut [] (fun wx => ∃ f1, Rot f s m en f1 ∧ Sw a b f f1 ∧ Sat W wx (sep (arow g N f1 tl) (sep A0 A)))
          case first =>
           as_aux_lemma =>
            cases bb with
            | true =>
              have hb2 := of_decide_eq_true HBB.out.symm
              have hrr := rotate_spec (tl := tl) hN cp (.func (.func 9) #[] #[]) s m en hb2.1 hb2.2 (by have := HEN.out; omega) HS2.out
              have HRR := Lib.hid hrr
              clear hrr hb2
              go_wp2_with fail
              refine HRR.out.mono ?_
              rintro e w3 ⟨rfl, f1, r1, r2, r3⟩
              have HR3 := Lib.hid (And.intro r1 (And.intro r2 r3))
              clear r1 r2 r3
              go_wp2
              go_meet
              case rel => exact ⟨f1, HR3.out.1, HR3.out.2.1.mono (by have := HEN.out; omega) (by have := HEN.out; omega), HR3.out.2.2⟩
            | false =>
              go_wp2
              go_meet
              case rel =>
                refine ⟨f, ?_, .refl, HS2.out⟩
                have hb2 := of_decide_eq_false HBB.out.symm
                have := HEN.out
                by_cases q1 : s = m
                · rw [q1]; exact .none1 f m en
                · obtain rfl : en = m := by omega
                  exact .none2 f s en
          case rest =>
           as_aux_lemma =>
            obtain ⟨f1, r1, r2, r3⟩ := hcut
            have hmc := merge_cut (c := c) (mid := mid) HT.out HS.out.1 HS.out.2 (by have := HEN.out; omega) (by have := HEN.out; omega) (by have := HEN.out; omega) (by have := HEN.out; omega) (by have := HEN.out; omega) (by have := HEN.out; omega) HHR.out.1 HHR.out.2 r1
            have HMC := Lib.hid hmc
            have HR2 := Lib.hid r2
            have HR3 := Lib.hid r3
            clear hmc r1 r2 r3 HBB HHR HS2
            go_upto_region 41 with (fail)
            go_cut [199] (fun tv wx => tv = .bool (decide (a < s ∧ s < mid)) ∧ wx = wc)
            case first =>
             as_aux_lemma =>
              by_cases q1 : a < s
              · have q1z : (a : Int) < (s : Int) := by omega
                by_cases q2 : s < mid
                · have q2z : (s : Int) < (mid : Int) := by omega
                  have QQ := Lib.hid (And.intro q1 q2)
                  go_wp2
                  go_meet
                  case rel => exact ⟨by rw [decide_eq_true QQ.out], rfl⟩
                · have q2z : ¬ (s : Int) < (mid : Int) := by omega
                  have QQ := Lib.hid q2
                  go_wp2
                  go_meet
                  case rel => exact ⟨by rw [decide_eq_false (fun q => QQ.out q.2)], rfl⟩
              · have q1z : ¬ (a : Int) < (s : Int) := by omega
                have QQ := Lib.hid q1
                go_wp2
                go_meet
                case rel => exact ⟨by rw [decide_eq_false (fun q => QQ.out q.1)], rfl⟩
            case rest =>
             as_aux_lemma =>
              obtain ⟨rfl, rfl⟩ := hcut
              obtain ⟨bb, hbb⟩ : ∃ bb, bb = decide (a < s ∧ s < mid) := ⟨_, rfl⟩
              rw [← hbb]
              have HBB := Lib.hid hbb
              clear hbb
              go_upto_if 199 with (fail)
              go_cut [] (fun wx => ∃ f2, Sw a mid f1 f2 ∧ SrtF c a mid f2 ∧ Sat W wx (sep (arow g N f2 tl) (sep A0 A)))
              case first =>
               as_aux_lemma =>
                cases bb with
                | true =>
                  have hb2 := of_decide_eq_true HBB.out.symm
                  have hrr := HIH.out a s mid f1 wc (by have := HEN.out; have := HSN.out.e1; omega) hb2.1 hb2.2 (by have := HEN.out; omega) HMC.out.1 HMC.out.2.1 (HD.out.sw HR2.out h3) HR3.out
                  unfold SymOK at hrr
                  have HRR := Lib.hid hrr
                  clear hrr hb2
                  go_wp2_with fail
                  refine HRR.out.mono ?_
                  rintro e w3 ⟨rfl, f2, r1, r2, r3⟩
                  have HR4 := Lib.hid (And.intro r1 (And.intro r2 r3))
                  clear r1 r2 r3
                  go_wp2
                  go_meet
                  case rel => exact ⟨f2, HR4.out⟩
                | false =>
                  go_wp2
                  go_meet
                  case rel =>
                    refine ⟨f1, .refl, ?_, HR3.out⟩
                    have hb2 := of_decide_eq_false HBB.out.symm
                    have := HEN.out
                    by_cases q1 : a = s
                    · have h6 := HMC.out.2.1; rw [← q1] at h6; exact h6
                    · have q2 : s = mid := by omega
                      have h6 := HMC.out.1; rw [q2] at h6; exact h6
              case rest =>
               as_aux_lemma =>
                obtain ⟨f2, r1, r2, r3⟩ := hcut
                have HQ := Lib.hid (And.intro r1 r2)
                have HR5 := Lib.hid r3
                have k1 : SrtF c mid en f2 := HMC.out.2.2.1.congr fun k p1 p2 => r1.out (.inr p1)
                have k2 : SrtF c en b f2 := HMC.out.2.2.2.1.congr fun k p1 p2 => r1.out (.inr (by have := HEN.out; omega))
                have hw2 : Sw a b f f2 := HR2.out.trans (r1.mono (Nat.le_refl _) (by have := HEN.out; omega))
                have HK := Lib.hid (And.intro k1 (And.intro k2 hw2))
                clear r1 r2 r3 HBB k1 k2 hw2 HR3
                have fin : ∀ f3, Sw mid b f2 f3 → SrtF c mid b f3 → Sw a b f f3 ∧ SrtF c a b f3 := fun f3 w1 w2 =>
                  ⟨HK.out.2.2.trans (w1.mono (by have := HEN.out; omega) (Nat.le_refl _)), srt_halves HMC.out.2.2.2.2 HQ.out.1 HQ.out.2 w1 w2⟩
                have FIN := Lib.hid fin
                clear fin
                by_cases q1 : mid < en
                · have q1z : (mid : Int) < (en : Int) := by omega
                  by_cases q2 : en < b
                  · have q2z : (en : Int) < (b : Int) := by omega
                    have hrr := HIH.out mid en b f2 wc (by have := HSN.out.e1; omega) q1 q2 h3 HK.out.1 HK.out.2.1 (HD.out.sw HK.out.2.2 h3) HR5.out
                    unfold SymOK at hrr
                    have HRR := Lib.hid hrr
                    clear hrr
                    go_wp2_with fail
                    refine HRR.out.mono ?_
                    rintro e w3 ⟨rfl, f3, r1, r2, r3⟩
                    have HR6 := Lib.hid (And.intro r1 (And.intro r2 r3))
                    clear r1 r2 r3
                    go_wp2
                    go_end0
                    exact ⟨rfl, f3, (FIN.out f3 HR6.out.1 HR6.out.2.1).1, (FIN.out f3 HR6.out.1 HR6.out.2.1).2, HR6.out.2.2⟩
                  · have q2z : ¬ (en : Int) < (b : Int) := by omega
                    have hk : SrtF c mid b f2 := by have h6 := HK.out.1; rw [show en = b by have := HEN.out; omega] at h6; exact h6
                    have HKK := Lib.hid hk
                    clear hk
                    go_wp2
                    go_end0
                    exact ⟨rfl, f2, (FIN.out f2 .refl HKK.out).1, (FIN.out f2 .refl HKK.out).2, HR5.out⟩
                · have q1z : ¬ (mid : Int) < (en : Int) := by omega
                  have hk : SrtF c mid b f2 := by have h6 := HK.out.2.1; rw [show en = mid by have := HEN.out; omega] at h6; exact h6
                  have HKK := Lib.hid hk
                  clear hk
                  go_wp2
                  go_end0
                  exact ⟨rfl, f2, (FIN.out f2 .refl HKK.out).1, (FIN.out f2 .refl HKK.out).2, HR5.out⟩
theorem sym_spec {W : World} {A A0 : Assn} {D : Ac → Ac → Prop} {c : Ac → Ac → Int} {g N : Nat} {tl : List Value} (hT : Total c) (hC : CmpOK W A0 D c) (hN : N ≤ 65536) (cp : Nat) : ∀ (d a m b : Nat) (f : Nat → Ac) (w : World), b - a ≤ d → a < m → m < b → b ≤ N → SrtF c a m f → SrtF c m b f → DF D N f → Sat W w (sep (arow g N f tl) (sep A0 A)) → SymOK W A0 A c g N cp tl a m b f w
  | 0, a, m, b, _, _, hd, h1, h2, _, _, _, _, _ => by omega
  | d + 1, a, m, b, f, w, hd, h1, h2, h3, hs1, hs2, hD, h => by
    by_cases e1 : m = a + 1
    · exact sym_a hT hC hD hN cp a m b e1 h2 h3 hs2 h
    · by_cases e2 : b = m + 1
      · exact sym_b hT hC hD hN cp a m b e2 h1 e1 h3 hs1 h
      · exact sym_c hT hC hD hN cp a m b h1 h2 h3 e1 e2 (fun a' m' b' f' w' q1 q2 q3 q4 q5 q6 q7 q8 => sym_spec hT hC hN cp d a' m' b' f' w' (by omega) q2 q3 q4 q5 q6 q7 q8) hs1 hs2 h
end Go.Proofs.YtodipneapffjdaaGreatDoor
/- slices.stableCmpFunc, SortStableFunc at fewer than 40 acts. -/
namespace Go.Proofs.YtodipneapffjdaaGreatDoor
open Go.RowKit PA
set_option maxRecDepth 100000 in
set_option maxHeartbeats 4000000 in
theorem stable_spec {W w : World} {A A0 : Assn} {D : Ac → Ac → Prop} {c : Ac → Ac → Int} {g N : Nat} {f : Nat → Ac} {tl : List Value} (hT : Total c) (hC : CmpOK W A0 D c) (hD : DF D N f) (hN : N < 40) (cp : Nat)
    (h : Sat W w (sep (arow g N f tl) (sep A0 A))) :
    Calls Tryz.prog 28 #[.slice (some ⟨g, 0, none⟩) N cp, .int .i64 N, .func (.func 9) #[] #[]] w fun e w' => e = .returned (.tuple #[]) ∧ ∃ f', Sw 0 N f f' ∧ SrtF c 0 N f' ∧ Sat W w' (sep (arow g N f' tl) (sep A0 A)) := by
  have HI : Hid (∀ (a b : Nat) (f' : Nat → Ac) (w' : World), a ≤ b → b ≤ N → DF D N f' → Sat W w' (sep (arow g N f' tl) (sep A0 A)) → Calls Tryz.prog 48 #[.slice (some ⟨g, 0, none⟩) N cp, .int .i64 a, .int .i64 b, .func (.func 9) #[] #[]] w' fun e w' => ∃ f'', e = .returned (.tuple #[]) ∧ Sw a b f' f'' ∧ SrtF c a b f'' ∧ Sat W w' (sep (arow g N f'' tl) (sep A0 A))) :=
    Lib.hid fun a b f' w' q1 q2 q3 q4 => ins_spec hT hC q3 (by omega) cp a b q1 q2 q4
  have HY : Hid (∀ (a m b : Nat) (f' : Nat → Ac) (w' : World), a < m → m < b → b ≤ N → SrtF c a m f' → SrtF c m b f' → DF D N f' → Sat W w' (sep (arow g N f' tl) (sep A0 A)) → SymOK W A0 A c g N cp tl a m b f' w') :=
    Lib.hid fun a m b f' w' q1 q2 q3 q4 q5 q6 q7 => sym_spec hT hC (by omega) cp (b - a) a m b f' w' (Nat.le_refl _) q1 q2 q3 q4 q5 q6 q7
  have HD := Lib.hid hD
  have H := Lib.hid h
  clear hT hC hD h
  go_enter Tryz.func28, Tryz.ntmps28
  go_wp2
  go_loopw [7, 8] (fun av bv wr => ∃ (f' : Nat → Ac) (s : Nat), av = .int .i64 s ∧ bv = .int .i64 ((s + 20 : Nat) : Int) ∧ (s = 0 ∨ s = 20) ∧ s ≤ N ∧ Hid (Sw 0 s f f' ∧ SrtF c 0 s f') ∧ Sat W wr (sep (arow g N f' tl) (sep A0 A))) (fun av _ _ => 40 - (intOf av).toNat)
  case atStart => exact ⟨f, 0, rfl, rfl, .inl rfl, by omega, Lib.hid ⟨.refl, fun p q p1 p2 p3 => by omega⟩, H.out⟩
  case round =>
    obtain ⟨f1, s, rfl, rfl, hs, hsN, HF1, hS⟩ := hrel
    have HS := Lib.hid hS
    clear hS
    by_cases hb : s + 20 ≤ N
    · obtain rfl : s = 0 := by omega
      have hbz : ((0 + 20 : Nat) : Int) ≤ (N : Int) := by omega
      have hi := HI.out 0 20 f1 wr (by omega) (by omega) (HD.out.sw HF1.out.1 (by omega)) HS.out
      have HII := Lib.hid hi
      clear hi
      go_wp2_with fail
      refine HII.out.mono ?_
      rintro e w3 ⟨f2, rfl, r1, r2, r3⟩
      have HR := Lib.hid (And.intro r1 (And.intro r2 r3))
      clear r1 r2 r3 HII
      go_wp2_with fail
      go_roundw
      case rel => exact ⟨f2, 20, rfl, rfl, .inr rfl, by omega, Lib.hid ⟨(HF1.out.1.mono (Nat.le_refl _) (by omega)).trans HR.out.1, HR.out.2.1⟩, HR.out.2.2⟩
      case measure => simp [intOf]
    · have hbz : ¬ ((s + 20 : Nat) : Int) ≤ (N : Int) := by omega
      have hi := HI.out s N f1 wr hsN (Nat.le_refl _) (HD.out.sw HF1.out.1 hsN) HS.out
      have HII := Lib.hid hi
      clear hi HS
      go_wp2_with fail
      refine HII.out.mono ?_
      rintro e w3 ⟨f2, rfl, r1, r2, r3⟩
      have k1 : SrtF c 0 s f2 := HF1.out.2.congr fun k p1 p2 => r1.out (.inl p2)
      have k2 : Sw 0 N f f2 := (HF1.out.1.mono (Nat.le_refl _) hsN).trans (r1.mono (by omega) (Nat.le_refl _))
      have HR := Lib.hid (And.intro k1 (And.intro k2 r2))
      have HS := Lib.hid r3
      clear r1 r2 r3 HII k1 k2 hbz HF1 H
      go_wp2
      go_loopw [6] (fun bv wr => ∃ (z : Nat) (f' : Nat → Ac), bv = .int .i64 z ∧ ((z = 20 ∧ f' = f2) ∨ (z = 40 ∧ Hid (Sw 0 N f f' ∧ SrtF c 0 N f'))) ∧ Sat W wr (sep (arow g N f' tl) (sep A0 A))) (fun bv _ => 40 - (intOf bv).toNat)
      case atStart => exact ⟨20, f2, rfl, .inl ⟨rfl, rfl⟩, HS.out⟩
      case round =>
        obtain ⟨z, f3, rfl, hz, hS3⟩ := hrel
        have HS3 := Lib.hid hS3
        clear hS3 HS
        rcases hz with ⟨rfl, rfl⟩ | ⟨rfl, HZ⟩
        · by_cases hn : 20 < N
          · have hs20 : s = 20 := by omega
            have kk := HR.out.1
            rw [hs20] at kk
            have hnz : ((20 : Nat) : Int) < (N : Int) := by omega
            have hnz2 : (20 : Int) < (N : Int) := by omega
            have hnz3 : ¬ (40 : Int) ≤ (N : Int) := by omega
            have hy := HY.out 0 20 N f3 wr (by omega) hn (Nat.le_refl _) kk (by have k5 := HR.out.2.2; rw [hs20] at k5; exact k5) (HD.out.sw HR.out.2.1 (Nat.le_refl _)) HS3.out
            unfold SymOK at hy
            have HYY := Lib.hid hy
            clear hy kk hs20 hs
            go_wp2
            go_loopw [7, 8] (fun av bv wx => av = .int .i64 0 ∧ bv = .int .i64 40 ∧ wx = wr) (fun _ _ _ => 0)
            case atStart => exact ⟨rfl, by first | rfl | go_num, rfl⟩
            case round =>
              obtain ⟨rfl, rfl, rfl⟩ := hrel
              go_wp2_with fail
              refine HYY.out.mono ?_
              rintro e w3 ⟨rfl, f4, r1, r2, r3⟩
              have HR4 := Lib.hid (And.intro r1 (And.intro r2 r3))
              clear r1 r2 r3 HYY
              go_wp2
              go_roundw
              case rel => exact ⟨40, f4, rfl, .inr ⟨rfl, Lib.hid ⟨HR.out.2.1.trans HR4.out.1, HR4.out.2.1⟩⟩, HR4.out.2.2⟩
              case measure => simp [intOf]
          · have hnz : ¬ ((20 : Nat) : Int) < (N : Int) := by omega
            have hnz2 : ¬ (20 : Int) < (N : Int) := by omega
            have hfin : SrtF c 0 N f3 := by
              rcases hs with e | e
              · have h6 := HR.out.2.2; rw [e] at h6; exact h6
              · have h6 := HR.out.1; rw [show s = N by omega] at h6; exact h6
            have HFN := Lib.hid hfin
            clear hfin
            go_wp2
            go_end0
            exact ⟨rfl, f3, HR.out.2.1, HFN.out, HS3.out⟩
        · have hnz : ¬ ((40 : Nat) : Int) < (N : Int) := by omega
          have hnz2 : ¬ (40 : Int) < (N : Int) := by omega
          go_wp2
          go_end0
          exact ⟨rfl, f3, HZ.out.1, HZ.out.2, HS3.out⟩
end Go.Proofs.YtodipneapffjdaaGreatDoor
