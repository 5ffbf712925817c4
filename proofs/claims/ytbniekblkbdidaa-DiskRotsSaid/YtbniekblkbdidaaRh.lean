/- DiskRots, the walk. -/
import Derived.Test.YtbniekblkbdidaaRd
import Derived.Test.YtbniekblkbdidaaD11
import Derived.Test.YtbniekblkbdidaaDt
import Derived.Test.YtbniekblkbdidaaH4
namespace Go.Proofs.Ytbniekblkbdidaa
open Go.RowKit PA
theorem rot_twice {s : DSt} (n bit : Int) : rotD (rotD s n bit).2 n bit = ((rotD s n bit).1, s) := by
  by_cases h : n < 0 ∨ 64 ≤ n ∨ bit < 0 ∨ (fileAt s.fs n).1.length ≤ bit.toNat / 8
  · have e : rotD s n bit = (1, s) := by rw [rotD, if_pos h]
    rw [e, e]
  · have e : rotD s n bit = (0, s.put n.toNat (flipAt (s.fs n.toNat).1 bit.toNat, (s.fs n.toNat).2)) := by rw [rotD, if_neg h]
    rw [e]
    have h0 : 0 ≤ n := by omega
    have e1 : (s.put n.toNat (flipAt (s.fs n.toNat).1 bit.toNat, (s.fs n.toNat).2)).fs n.toNat = (flipAt (s.fs n.toNat).1 bit.toNat, (s.fs n.toNat).2) := by simp [DSt.put, dset]
    have e2 : fileAt (s.put n.toNat (flipAt (s.fs n.toNat).1 bit.toNat, (s.fs n.toNat).2)).fs n = (flipAt (s.fs n.toNat).1 bit.toNat, (s.fs n.toNat).2) := by rw [fileAt, if_pos h0]; exact e1
    have e3 : fileAt s.fs n = s.fs n.toNat := by rw [fileAt, if_pos h0]
    rw [e3] at h
    rw [rotD, if_neg (by rw [e2, flipAt_len]; exact h), e1, flipAt_twice]
    congr 1
    show ({ s.put n.toNat (flipAt (s.fs n.toNat).1 bit.toNat, (s.fs n.toNat).2) with fs := dset (dset s.fs n.toNat (flipAt (s.fs n.toNat).1 bit.toNat, (s.fs n.toNat).2)) n.toNat ((s.fs n.toNat).1, (s.fs n.toNat).2) } : DSt) = s
    rw [dset_dset]
    have e4 : dset s.fs n.toNat ((s.fs n.toNat).1, (s.fs n.toNat).2) = s.fs := by
      funext j; unfold dset; split
      · rename_i e; subst e; rfl
      · rfl
    rw [e4]
    rfl
theorem rel_sub {I : Mem} {b o n c : Nat} {l : List UInt8} (i j : Nat) (hij : i ≤ j) (hj : j ≤ n) (hv : rBytes.rel I [.slice (some ⟨b, o, none⟩) n c] l) : rBytes.rel I [.slice (some ⟨b, o + i, none⟩) (j - i) (c - i)] ((l.drop i).take (j - i)) := by
  obtain ⟨a', c', e, hw, hc⟩ := bytes_rel.1 hv
  simp only [Value.slice.injEq] at e
  obtain ⟨rfl, rfl, rfl⟩ := e
  have hl : ((l.drop i).take (j - i)).length = j - i := by rw [List.length_take, List.length_drop]; omega
  have h1 := hw.1
  have h2 := hw.2.1
  refine bytes_rel.2 ⟨_, _, by rw [hl], ⟨by rw [hl]; omega, by omega, fun e => by cases e⟩, ?_⟩
  rcases hc with hc | ⟨b', o', cs, t, f, e1, e2, e3⟩
  · left
    have : l = [] := by simpa using hc
    rw [this]; simp
  · right
    cases e1
    refine ⟨b, o + i, cs, t, f, rfl, e2, fun k u hu => ?_⟩
    rw [List.map_take, List.getElem?_take] at hu
    split at hu
    · rw [List.map_drop, List.getElem?_drop] at hu
      rw [Nat.add_assoc]
      exact e3 (i + k) u hu
    · cases hu
theorem flip_sub (label bs : List UInt8) (k at_ te : Nat) (hat : at_ = k / 8) (h1 : at_ < te) (h2 : te ≤ bs.length) (hb : bs.length ≤ 1000000000) : bytesN label (((flipAt bs k).drop at_).take (te - at_)) ≠ bytesN label ((bs.drop at_).take (te - at_)) := by
  have hl : at_ < bs.length := by omega
  have e : ((flipAt bs k).drop at_).take (te - at_) = ((bs.drop at_).take (te - at_)).set 0 (flipB bs[at_] (k % 8)) := by
    apply List.ext_getElem?
    intro j
    rw [List.getElem?_take, List.getElem?_drop, List.getElem?_set, List.getElem?_take, List.getElem?_drop, flipAt, List.getElem?_modify, ← hat]
    by_cases hj : j = 0
    · subst hj
      simp only [Nat.add_zero, if_true]
      rw [if_pos (by omega), List.getElem?_eq_getElem hl]
      simp
      omega
    · have h3 : ¬ 0 = j := by omega
      simp [h3, hj]
  rw [e]
  have hk : 0 < ((bs.drop at_).take (te - at_)).length := by rw [List.length_take, List.length_drop]; omega
  refine bytesN_set _ _ _ _ hk (by rw [List.length_take, List.length_drop]; omega) ?_
  have e2 : ((bs.drop at_).take (te - at_))[0] = bs[at_] := by simp
  rw [e2]
  exact flipB_ne _ _
theorem rel_base {I : Mem} {a : Option Addr} {n c : Nat} {l : List UInt8} (hv : rBytes.rel I [.slice a n c] l) (hl : l ≠ []) : ∃ b o, a = some ⟨b, o, none⟩ ∧ n = l.length ∧ n ≤ c ∧ c ≤ maxLen := by
  obtain ⟨a', c', e, hw, hc⟩ := bytes_rel.1 hv
  simp only [Value.slice.injEq] at e
  obtain ⟨rfl, rfl, rfl⟩ := e
  obtain ⟨b, o, e, -⟩ := bytes_cells hc hl
  exact ⟨b, o, e, rfl, hw.1, hw.2.1⟩
set_option maxRecDepth 100000 in
set_option maxHeartbeats 8000000 in
theorem diskRots_walk (a0 : Int) (a1 : Option Addr) (len1 cap1 : Nat) (z1 : List Int) (a2 a3 : Int) (w : World)
    (w0 : (Lit.int .i64 a0).wf = true) (w1 : IsArg w a1 len1 cap1 z1) (w2 : (Lit.int .i64 a2).wf = true) (w3 : (Lit.int .i64 a3).wf = true) :
    Calls Try.prog 10 #[.int .i64 a0, .slice a1 len1 cap1, .int .i64 a2, .int .i64 a3] w fun e w' => e = .returned (.bool true) ∧ Below w.heap.size w w' := by
  obtain ⟨ns, hns, hr1, h64⟩ := argI w1
  have HM := Lib.hid (made29_spec a0 a1 len1 cap1 ns (Sat.startKn w) (i64_of_wf w0) hr1 h64)
  have HA2 := Lib.hid (i64_of_wf w2)
  have HA3 := Lib.hid (i64_of_wf w3)
  clear w0 w1 w2 w3 hns hr1 h64
  go_enter Try.func10, Try.ntmps10
  go_wp2_with fail
  refine HM.out.mono ?_
  rintro e w3 ⟨p, q, s, I, hI, rfl, h3⟩
  have H3 := Lib.hid h3
  clear HM h3 hI
  go_wp2_with fail
  refine (around_spec a2 4 w3 HA2.out.1 HA2.out.2 (by omega) (by omega)).mono ?_
  rintro e w' ⟨rfl, rfl⟩
  have hq := aroundI_lt a2 4 (by omega)
  obtain ⟨f, hf⟩ : ∃ f : Nat, aroundI a2 4 = (f : Int) := ⟨(aroundI a2 4).toNat, by omega⟩
  rw [hf] at hq ⊢
  have hf4 : f < 4 := by omega
  clear hq hf
  have hf64 : f < 64 := by omega
  have hf64I : (f : Int) < 64 := by omega
  obtain ⟨bs, hbs⟩ : ∃ bs, bs = (s.fs f).1 := ⟨_, rfl⟩
  obtain ⟨l, hl⟩ : ∃ l, l = bs.length := ⟨_, rfl⟩
  have hok := isRD_ok H3.out.p1
  have hll : l ≤ 16777216 := by rw [hl, hbs]; exact file_le hok f
  have HB := Lib.hid (And.intro hbs (And.intro hl hok))
  clear hbs hl hok
  obtain ⟨B, F, V, -, h4⟩ := isRD_open H3.out.p1
  have c1 : w3.cell? ⟨q, 1, none⟩ = some (.slice (some ⟨B, 0, none⟩) 64 64) := h4.cell 1
  obtain ⟨ba, bc, hVf, -⟩ := fokr_cell h4.p3 hf64
  rw [← HB.out.1, ← HB.out.2.1] at hVf
  have cb : w3.cell? ⟨B, f, none⟩ = some (.slice ba l bc) := by rw [h4.p1.cell f, rowC_get _ hf64, hVf]
  obtain ⟨t, ht⟩ : ∃ t, t = 8 * l + 2 := ⟨_, rfl⟩
  have htI : 8 * (l : Int) + 2 = (t : Int) := by omega
  have hAR := around_spec a3 (t : Int) w3 HA3.out.1 HA3.out.2 (by omega) (by omega)
  obtain ⟨x1, hx1⟩ : ∃ x1, x1 = aroundI a3 (t : Int) := ⟨_, rfl⟩
  have hx1b := aroundI_lt a3 (t : Int) (by omega)
  rw [← hx1] at hAR hx1b
  have HAR := Lib.hid hAR
  have hx164 : I64' x1 := ⟨by omega, by omega⟩
  have HX1 := Lib.hid hx164
  clear h4 hVf ht hAR hx1 hx1b hx164
  go_wp2_with fail
  refine HAR.out.mono ?_
  rintro e w' ⟨rfl, rfl⟩
  clear HAR c1 cb
  obtain ⟨J, hIJ, hri, h5⟩ := litI (show Sat w w3 (sep (kn I) (sep (isDisk p s) (sep (isRD q s) emp))) by have := H3.out; simpa only [sep_comm, sep_lcomm, sep_assoc] using this) [a3, x1] 3 (by simp [maxLen])
  obtain ⟨g, hg⟩ : ∃ g, g = w3.heap.size := ⟨_, rfl⟩
  rw [← hg] at hri
  obtain ⟨a', c', e, -, hcl⟩ := ints_rel.1 hri
  simp only [Value.slice.injEq] at e
  obtain ⟨rfl, -, rfl⟩ := e
  obtain ⟨g', o', e, hcell⟩ := cells_ext hcl (by simp)
  cases e
  have HC := Lib.hid hcell
  obtain ⟨w4, hw4⟩ : ∃ w4, w4 = w3.alloc (.cells #[.int .i64 a3, .int .i64 x1] 3) := ⟨_, rfl⟩
  have h6 : Sat w w4 (sep (isDisk p s) (sep (isRD q s) (sep (kn J) emp))) := by
    rw [hw4]
    have : Sat w (w3.alloc (.cells #[.int .i64 a3, .int .i64 x1] 3)) (sep (kn J) (sep (isDisk p s) (sep (isRD q s) emp))) := h5
    simpa only [sep_comm, sep_lcomm, sep_assoc] using this
  have HW := Lib.hid (And.intro hg hw4)
  have H6 := Lib.hid h6
  clear H3 hri hcl hcell hg hw4 h5 h6 hIJ
  go_upto_region 6 with (fail)
  rw [← HW.out.1, ← HW.out.2]
  go_wp2_with fail
  go_loopw [13] (fun iv' wr => ∃ i : Nat, i ≤ 2 ∧ iv' = .int .i64 (i : Nat) ∧ Sat w wr (sep (isDisk p s) (sep (isRD q s) (sep (kn J) emp)))) (fun iv' _ => 2 - (intOf iv').toNat)
  case atStart => exact ⟨0, by omega, rfl, H6.out⟩
  case round =>
    clear H6
    obtain ⟨i, hi, rfl, hS⟩ := hrel
    by_cases hi2 : i < 2
    · obtain ⟨x, hx⟩ : ∃ x, [a3, x1][i]? = some x := ⟨_, List.getElem?_eq_getElem (by simpa using hi2)⟩
      have hx64 : I64' x := by
        have := List.mem_of_getElem? hx
        simp at this
        rcases this with rfl | rfl
        · exact HA3.out
        · exact HX1.out
      have hcx : ∀ w', Ext J w' → w'.cell? ⟨g, 0 + i, none⟩ = some (.int .i64 x) := fun w' he => HC.out w' he i _ (by rw [List.getElem?_map, hx]; rfl)
      simp only [Nat.zero_add] at hcx
      have HCX := Lib.hid hcx
      have HX := Lib.hid hx64
      have hi2I : (i : Int) < 2 := by omega
      have HCP := Lib.hid (rdcopy_spec q s hS.p1)
      clear hx hx64 hcx hS hi2
      go_wp2_with fail
      refine HCP.out.mono ?_
      rintro e w5 ⟨n, rfl, h7⟩
      have gx := HCX.out w5 h7.p3.ext
      obtain ⟨e1, he1⟩ : ∃ e1, e1 = (rotD s (f : Int) x).1 := ⟨_, rfl⟩
      obtain ⟨s1, hs1⟩ : ∃ s1, s1 = (rotD s (f : Int) x).2 := ⟨_, rfl⟩
      have hrot := drot_spec p s (f : Int) x h7.p2 HX.out
      rw [← he1, ← hs1] at hrot
      have HROT := Lib.hid hrot
      have HE := Lib.hid (And.intro he1 hs1)
      clear HCP h7 hrot he1 hs1
      go_wp2_with fail
      refine HROT.out.mono ?_
      rintro e w6 ⟨rfl, h8⟩
      clear HROT gx
      have gx := HCX.out w6 h8.p3.ext
      have hrot := rdrot_spec n s (f : Int) x h8.p1 HX.out
      rw [← HE.out.1, ← HE.out.2] at hrot
      have HROT := Lib.hid hrot
      clear h8 hrot
      go_wp2_with fail
      refine HROT.out.mono ?_
      rintro e w7 ⟨rfl, h9⟩
      have HSM := Lib.hid (same29_spec p n s1 (show Sat w w7 (sep (isDisk p s1) (sep (isRD n s1) (sep (isRD q s) (sep (kn J) emp)))) by simpa only [sep_comm, sep_lcomm, sep_assoc] using h9))
      clear HROT h9 gx
      go_wp2_with fail
      refine HSM.out.mono ?_
      rintro e w8 ⟨rfl, h10⟩
      have H10 := Lib.hid (show Sat w w8 (sep (isDisk p s1) (sep (isRD q s) (sep (kn J) emp))) from by
        have h11 : Sat w w8 (sep (isRD n s1) (sep (isDisk p s1) (sep (isRD q s) (sep (kn J) emp)))) := h10.p1
        exact h11.drop)
      clear HSM h10
      obtain ⟨bb, hbb⟩ : ∃ bb, bb = (decide (e1 = 0) && !s.off) := ⟨_, rfl⟩
      have HBB := Lib.hid hbb
      have HS1 := Lib.hid (show s1.off = s.off from by rw [HE.out.2, rotD]; split <;> rfl)
      go_upto_region 13 with (fail)
      go_cut [84] (fun tv wx => tv = .bool bb ∧ Hid (Sat w wx (sep (isDisk p s1) (sep (isRD q s) (sep (kn J) emp)))))
      case first =>
        obtain ⟨B', F', V', -, h4⟩ := isRD_open H10.out.p1
        obtain ⟨off, hoff⟩ : ∃ off, off = s.off := ⟨_, rfl⟩
        have c3 : w8.cell? ⟨q, 3, none⟩ = some (.bool off) := by rw [hoff]; exact h4.cell 3
        rw [← hoff] at hbb
        clear h4 hoff
        by_cases he : e1 = 0
        · subst he
          have e : bb = !off := by rw [hbb]; simp
          subst e
          clear hbb
          cases off with
          | true =>
            go_wp2_with fail
            go_meet
            exact ⟨rfl, H10⟩
          | false =>
            go_wp2_with fail
            go_meet
            exact ⟨rfl, H10⟩
        · have e : bb = false := by rw [hbb]; simp [he]
          subst e
          clear hbb
          go_wp2_with fail
          go_meet
          exact ⟨rfl, H10⟩
      case rest =>
       clear H10 hbb
       obtain ⟨rfl, H10⟩ := hcut
       go_upto_if 84 with (fail)
       go_cut [] (fun wx => Hid (Sat w wx (sep (isDisk p s1) (sep (isRD q s) (sep (kn J) emp)))))
       case first =>
        cases bb with
        | false =>
          go_wp2_with fail
          go_meet
          exact H10
        | true =>
          have hb2 : e1 = 0 ∧ s.off = false := by have := HBB.out; simpa using this.symm
          obtain ⟨rfl, hof⟩ := hb2
          have hn1 : ¬ ((f : Int) < 0 ∨ 64 ≤ (f : Int) ∨ x < 0 ∨ (fileAt s.fs (f : Int)).1.length ≤ x.toNat / 8) := fun hc => by
            have := HE.out.1; rw [rotD, if_pos hc] at this; cases this
          obtain ⟨k, rfl⟩ : ∃ k : Nat, x = (k : Int) := ⟨x.toNat, by omega⟩
          have hs1 := HE.out.2
          rw [rotD, if_neg hn1] at hs1
          have hfa : fileAt s.fs (f : Int) = s.fs f := by rw [fileAt, if_pos (by omega)]; rfl
          rw [hfa, ← HB.out.1, ← HB.out.2.1] at hn1
          simp only [Int.toNat_natCast] at hn1 hs1
          rw [← HB.out.1] at hs1
          have hread : readD s1 (f : Int) = (flipAt bs k, 0) := by
            rw [readD, if_neg (by omega), if_neg (by rw [HS1.out, hof]; simp), hs1]
            simp [DSt.put, dset]
          obtain ⟨at_, hat⟩ : ∃ at_, at_ = k / 8 := ⟨_, rfl⟩
          have hatl : at_ < l := by omega
          have hq8 : (k : Int).tdiv 8 = (at_ : Int) := by rw [Int.tdiv_eq_ediv_of_nonneg (by omega)]; omega
          have hrd := dread_spec p s1 (f : Int) H10.out
          rw [hread] at hrd
          dsimp only at hrd
          rw [flipAt_len, ← HB.out.2.1] at hrd
          have HRD := Lib.hid hrd
          have HAT := Lib.hid hat
          have gx := HCX.out wc H10.out.p2.ext
          clear hn1 hs1 hfa hread hrd hat hof
          go_wp2_with fail
          refine HRD.out.mono ?_
          rintro e w9 ⟨ya, yc, rfl, h12⟩
          clear HRD gx hq8
          obtain ⟨K1, hK1, hr1, h13⟩ := (show Sat w w9 (sep (rBytes.is [.slice ya l yc] (flipAt bs k)) (sep (kn J) (sep (isDisk p s1) (sep (isRD q s) emp)))) from by
            have := h12.bytes_of_osl.2
            simpa only [sep_comm, sep_lcomm, sep_assoc] using this).learn
          obtain ⟨B, F, V, hok, h14⟩ := isRD_open (show Sat w w9 (sep (isRD q s) (sep (kn K1) (sep (isDisk p s1) emp))) by simpa only [sep_comm, sep_lcomm, sep_assoc] using h13)
          obtain ⟨ba, bc, hVf, -, h15⟩ := fokr_at h14.p3 hf64
          rw [← HB.out.1, ← HB.out.2.1] at hVf h15
          obtain ⟨K2, hK2, hr2, h16⟩ := (show Sat w w9 (sep (rBytes.is [.slice ba l bc] bs) (sep (kn K1) (sep (blk q (.cells (rdC B F s) 58 (0, 0))) (sep (blk B (.cells (rowC V) 27 (0, 0))) (sep (blk F (.cells (rowC (firmV s.fs)) 3 (0, 0))) (sep (fokr V s.fs) (sep (isDisk p s1) emp))))))) from by simpa only [sep_comm, sep_lcomm, sep_assoc] using h15).learn
          have hlb : l = bs.length := HB.out.2.1
          have hl0 : 0 < l := by omega
          obtain ⟨b1, o1, rfl, -, hc1, hm1⟩ := rel_base hr1 (fun e => by have := flipAt_len bs k; rw [e] at this; simp at this; omega)
          obtain ⟨b2, o2, rfl, -, hc2, hm2⟩ := rel_base hr2 (fun e => by rw [e] at hlb; simp at hlb; omega)
          obtain ⟨te, hte⟩ : ∃ te, te = min l (at_ + 8) := ⟨_, rfl⟩
          have hte1 : at_ < te := by omega
          have hte2 : te ≤ l := by omega
          have hne := flip_sub [114, 111, 116] bs k at_ te HAT.out hte1 (by omega) (by omega)
          have hs1 := rel_sub at_ te (by omega) hte2 (rBytes.mono hK2 hr1)
          have hs2 := rel_sub at_ te (by omega) hte2 hr2
          obtain ⟨L1, hL1⟩ : ∃ L1, L1 = ((flipAt bs k).drop at_).take (te - at_) := ⟨_, rfl⟩
          obtain ⟨L2, hL2⟩ : ∃ L2, L2 = (bs.drop at_).take (te - at_) := ⟨_, rfl⟩
          have hl1 : L1.length ≤ 8 := by rw [hL1, List.length_take]; omega
          have hl2 : L2.length ≤ 8 := by rw [hL2, List.length_take]; omega
          rw [← hL1] at hs1 hne
          rw [← hL2] at hs2 hne
          obtain ⟨ha, hha⟩ : ∃ ha, ha = bytesN [114, 111, 116] L1 := ⟨_, rfl⟩
          obtain ⟨hb, hhb⟩ : ∃ hb, hb = bytesN [114, 111, 116] L2 := ⟨_, rfl⟩
          rw [← hha, ← hhb] at hne
          have e6 : (⟨#[114, 111, 116]⟩ : ByteArray).data.toList = [114, 111, 116] := rfl
          have HH1 := Lib.hid (fun w' A (h : Sat w w' (sep (kn K2) A)) => (by
            have := hbytes_any ⟨#[114, 111, 116]⟩ _ L1 h hs1 (by decide) (by omega)
            rw [e6, ← hha] at this; exact this : Calls Try.prog 32 #[.string ⟨#[114, 111, 116]⟩, .slice (some ⟨b1, o1 + at_, none⟩) (te - at_) (yc - at_)] w' fun e w' => e = .returned (.int .u64 (ha : Nat)) ∧ Sat w w' (sep (kn K2) A)))
          have HH2 := Lib.hid (fun w' A (h : Sat w w' (sep (kn K2) A)) => (by
            have := hbytes_any ⟨#[114, 111, 116]⟩ _ L2 h hs2 (by decide) (by omega)
            rw [e6, ← hhb] at this; exact this : Calls Try.prog 32 #[.string ⟨#[114, 111, 116]⟩, .slice (some ⟨b2, o2 + at_, none⟩) (te - at_) (bc - at_)] w' fun e w' => e = .returned (.int .u64 (hb : Nat)) ∧ Sat w w' (sep (kn K2) A)))
          have hneI : ((ha : Int) == (hb : Int)) = false := by simp; omega
          have hteI : min (l : Int) ((at_ : Int) + 8) = (te : Int) := by omega
          have HK := Lib.hid (And.intro hok (Mem.le_trans hK1 hK2))
          have H16 := Lib.hid (show Sat w w9 (sep (kn K2) (sep (blk q (.cells (rdC B F s) 58 (0, 0))) (sep (blk B (.cells (rowC V) 27 (0, 0))) (sep (blk F (.cells (rowC (firmV s.fs)) 3 (0, 0))) (sep (fokr V s.fs) (sep (isDisk p s1) emp)))))) from h16)
          have hcv : ∀ A w', Sat w w' (sep (kn K2) (sep (blk q (.cells (rdC B F s) 58 (0, 0))) (sep (blk B (.cells (rowC V) 27 (0, 0))) A))) → w'.cell? ⟨q, 1, none⟩ = some (.slice (some ⟨B, 0, none⟩) 64 64) ∧ w'.cell? ⟨B, f, none⟩ = some (.slice (some ⟨b2, o2, none⟩) l bc) := fun A w' h => ⟨h.p1.cell 1, by rw [h.p2.cell f, rowC_get _ hf64, hVf]⟩
          have HCV := Lib.hid hcv
          obtain ⟨c1, c2⟩ := hcv _ _ h16
          clear h12 h13 h14 h15 h16 hr1 hr2 hs1 hs2 hne hK1 hK2 hok hVf hL1 hL2 hl1 hl2 hha hhb e6 hte hlb hcv hl0
          have hte1I : (at_ : Int) ≤ (te : Int) := by omega
          have hte2I : (te : Int) ≤ (yc : Int) := by omega
          have hte3I : (te : Int) ≤ (bc : Int) := by omega
          have hyne : ¬ yc = at_ := by omega
          have hbne : ¬ bc = at_ := by omega
          go_wp2_with fail
          obtain ⟨c1', c2'⟩ := HCV.out _ _ H16.out.drew
          clear c1 c2
          have hS0 : w9.drew.cell? ⟨q, 1, none⟩ = some (.slice (some ⟨B, 0, none⟩) 64 64) ∧ w9.drew.cell? ⟨B, f, none⟩ = some (.slice (some ⟨b2, o2, none⟩) l bc) := ⟨c1', c2'⟩
          refine wp_region_canon rfl (fun w' => w'.cell? ⟨q, 1, none⟩ = some (.slice (some ⟨B, 0, none⟩) 64 64) ∧ w'.cell? ⟨B, f, none⟩ = some (.slice (some ⟨b2, o2, none⟩) l bc)) [(0, .p), (1, .p), (2, .p), (3, .p), (5, .p), (6, .p), (7, .p), (8, .s), (9, .p), (10, .p), (11, .s), (12, .p), (13, .p), (14, .p), (4, .e true), (15, .e false), (16, .p)] (by kernel_rfl) ?_
          (repeat (first | (refine C_p (v := ?_) rfl rfl (fun w' => ?_) ?_; rotate_left; (go_simp; with_reducible rfl); simp only [Act.put, List.setIfInBounds_toArray, List.set_cons_zero, List.set_cons_succ]) | (refine C_s (v := ?_) rfl rfl hS0 (fun w' hS => ?_) ?_; rotate_left; ((try dsimp only at hS); go_simp; with_reducible rfl); simp only [Act.put, List.setIfInBounds_toArray, List.set_cons_zero, List.set_cons_succ]) | (refine C_t (v := ?_) rfl rfl ?_ ?_; rotate_left; (go_simp; with_reducible rfl); simp only [Act.put, List.setIfInBounds_toArray, List.set_cons_zero, List.set_cons_succ]) | (refine C_po rfl rfl ?_; simp only [Act.put, List.setIfInBounds_toArray, List.set_cons_zero, List.set_cons_succ]) | (refine C_so rfl rfl hS0 ?_; simp only [Act.put, List.setIfInBounds_toArray, List.set_cons_zero, List.set_cons_succ]) | (refine C_to rfl rfl ?_; simp only [Act.put, List.setIfInBounds_toArray, List.set_cons_zero, List.set_cons_succ])))
          (refine C_e rfl rfl (fun K hK => ?_); go_simp)
          refine (HH1.out _ _ H16.out.drew).mono ?_
          rintro e w10 ⟨rfl, h17⟩
          have hS1 := HCV.out _ _ h17
          have H17 := Lib.hid h17
          clear HH1 h17 H16 c1' c2' hS0
          (refine hK _ _ (fun _ => hS1) ?_; clear hK K; (try simp only [Act.put, List.setIfInBounds_toArray, List.set_cons_zero, List.set_cons_succ]))
          (refine C_e rfl rfl (fun K hK => ?_); go_simp)
          refine (HH2.out _ _ H17.out).mono ?_
          rintro e w11 ⟨rfl, h18⟩
          have H18 := Lib.hid h18
          clear HH2 h18 H17
          (refine hK _ _ (fun h => by cases h) ?_; clear hK K; (try simp only [Act.put, List.setIfInBounds_toArray, List.set_cons_zero, List.set_cons_succ]))
          (repeat (first | (refine C_p (v := ?_) rfl rfl (fun w' => ?_) ?_; rotate_left; (go_simp; with_reducible rfl); simp only [Act.put, List.setIfInBounds_toArray, List.set_cons_zero, List.set_cons_succ]) | (refine C_s (v := ?_) rfl rfl hS0 (fun w' hS => ?_) ?_; rotate_left; ((try dsimp only at hS); go_simp; with_reducible rfl); simp only [Act.put, List.setIfInBounds_toArray, List.set_cons_zero, List.set_cons_succ]) | (refine C_t (v := ?_) rfl rfl ?_ ?_; rotate_left; (go_simp; with_reducible rfl); simp only [Act.put, List.setIfInBounds_toArray, List.set_cons_zero, List.set_cons_succ]) | (refine C_po rfl rfl ?_; simp only [Act.put, List.setIfInBounds_toArray, List.set_cons_zero, List.set_cons_succ]) | (refine C_so rfl rfl hS0 ?_; simp only [Act.put, List.setIfInBounds_toArray, List.set_cons_zero, List.set_cons_succ]) | (refine C_to rfl rfl ?_; simp only [Act.put, List.setIfInBounds_toArray, List.set_cons_zero, List.set_cons_succ])))
          refine C_nil ?_
          clear hS1
          go_wp2_with fail
          go_meet
          have h19 := isRD_mk HK.out.1 (show Sat w w11 (sep (blk q (.cells (rdC B F s) 58 (0, 0))) (sep (blk B (.cells (rowC V) 27 (0, 0))) (sep (blk F (.cells (rowC (firmV s.fs)) 3 (0, 0))) (sep (fokr V s.fs) (sep (kn K2) (sep (isDisk p s1) emp)))))) by have := H18.out; simpa only [sep_comm, sep_lcomm, sep_assoc] using this)
          have h20 := (show Sat w w11 (sep (kn K2) (sep (isDisk p s1) (sep (isRD q s) emp))) by simpa only [sep_comm, sep_lcomm, sep_assoc] using h19).kn_mono HK.out.2
          exact Lib.hid (show Sat w w11 (sep (isDisk p s1) (sep (isRD q s) (sep (kn J) emp))) by simpa only [sep_comm, sep_lcomm, sep_assoc] using h20)
       case rest =>
        clear H10
        have H10 := hcut
        have hrot := drot_spec p s1 (f : Int) x H10.out HX.out
        rw [HE.out.2, rot_twice, ← HE.out.1] at hrot
        have HROT := Lib.hid hrot
        have gx := HCX.out wc H10.out.p2.ext
        clear hcut hrot
        go_wp2_with fail
        refine HROT.out.mono ?_
        rintro e w9 ⟨rfl, h12⟩
        clear HROT gx
        have HSM := Lib.hid (same29_spec p q s h12)
        clear h12
        go_wp2_with fail
        refine HSM.out.mono ?_
        rintro e w10 ⟨rfl, h13⟩
        have H13 := Lib.hid h13
        clear HSM h13
        go_wp2_with fail
        go_roundw
        case rel => exact ⟨i + 1, by omega, rfl, H13.out⟩
        case measure => simp only [intOf]; omega
    · have hi2I : ¬ (i : Int) < 2 := by omega
      have hrot := drot_spec p s 64 0 hS ⟨by omega, by omega⟩
      rw [show rotD s 64 0 = (1, s) by rw [rotD, if_pos (by omega)]] at hrot
      have HROT := Lib.hid hrot
      clear hS hrot
      go_wp2_with fail
      refine HROT.out.mono ?_
      rintro e w5 ⟨rfl, h7⟩
      clear HROT
      go_wp2_with fail
      refine (lives29_spec h7).mono ?_
      rintro e w6 ⟨rfl, h8⟩
      go_wp2_with fail
      go_ret
      exact ⟨rfl, h8.below⟩
end Go.Proofs.Ytbniekblkbdidaa
