/- DiskDurable, the walk. -/
import Derived.Test.YtbniekblkbdidaaRd
import Derived.Test.YtbniekblkbdidaaRi
import Derived.Test.YtbniekblkbdidaaReg2
namespace Go.Proofs.Ytbniekblkbdidaa
open Go.RowKit PA
theorem armD_neg (s : DSt) : (armD s (-1)).fs = s.fs ∧ (armD s (-1)).off = s.off ∧ (s.off = false → (armD s (-1)).plan = none) := by
  by_cases h : s.off = true
  · simp [armD, h]
  · simp [armD, h]
theorem ints_of_osl {W w : World} {A : Assn} {E : Nat} {I : Mem} {a : Option Addr} {n c : Nat} {l : List Int} (h : Sat W w (sep (osl E 1 a n c (l.map iv)) (sep (kn I) A))) (hn : n = l.length) : ∃ J, Mem.le I J ∧ (rInt.slice 1).rel J [.slice a n c] l ∧ Sat W w (sep (kn J) A) := by
  have hsw := h.swf_of_osl
  obtain ⟨J, h1, h2, h3⟩ := h.osl_settle.learn
  exact ⟨J, h1, ints_rel.2 ⟨a, c, by rw [hn], by rw [← hn]; exact hsw, h2⟩, h3⟩
theorem same_kn {W w : World} {A : Assn} {J : Mem} (v u : Value) (x : List UInt8) (h : Sat W w (sep (kn J) A)) (h1 : rBytes.rel J [v] x) (h2 : rBytes.rel J [u] x) :
    Calls Try.prog 18 #[v, u] w fun e w' => e = .returned (.bool true) ∧ Sat W w' (sep (kn J) A) := by
  have := sameBytes_spec v u x x ((h.tell h2).p1.tell h1).p2.p1
  rw [decide_eq_true rfl] at this
  exact this.mono fun e w' ⟨h1, h2⟩ => ⟨h1, h2.drop.drop⟩
theorem wrap_u8 (x : Int) : ∃ y : UInt8, IntKind.u8.wrap x = (y.toNat : Int) := by
  obtain ⟨z, hz⟩ : ∃ z, z = IntKind.u8.wrap x := ⟨_, rfl⟩
  have hz2 : 0 ≤ z ∧ z < 256 := by
    rw [hz]
    show 0 ≤ x % 256 ∧ x % 256 < 256
    exact ⟨Int.emod_nonneg _ (by omega), Int.emod_lt_of_pos _ (by omega)⟩
  refine ⟨UInt8.ofNat z.toNat, ?_⟩
  rw [← hz, UInt8.toNat_ofNat']
  omega
set_option maxRecDepth 100000 in
set_option maxHeartbeats 8000000 in
theorem diskDurable_walk (a0 : Int) (a1 : Option Addr) (len1 cap1 : Nat) (z1 : List Int) (a2 : Option Addr) (len2 cap2 : Nat) (z2 : List Int) (a3 : Option Addr) (len3 cap3 : Nat) (z3 : List Int) (a4 : Int) (w : World)
    (w0 : (Lit.int .i64 a0).wf = true) (w1 : IsArg w a1 len1 cap1 z1) (w2 : IsArg w a2 len2 cap2 z2) (w3 : IsArg w a3 len3 cap3 z3) (w4 : (Lit.int .i64 a4).wf = true) :
    Calls Try.prog 6 #[.int .i64 a0, .slice a1 len1 cap1, .slice a2 len2 cap2, .slice a3 len3 cap3, .int .i64 a4] w fun e w' => e = .returned (.bool true) ∧ Below w.heap.size w w' := by
  obtain ⟨ns, hns, hr1, h64⟩ := argI w1
  obtain ⟨ms, hms, hr2, h64'⟩ := argI w2
  obtain ⟨ks, hks, hr3, h64''⟩ := argI w3
  have HM := Lib.hid (made29_spec a0 a1 len1 cap1 ns (Sat.startKn w) (i64_of_wf w0) hr1 h64)
  have HV := Lib.hid (And.intro hr2 h64')
  have HKS := Lib.hid (And.intro hr3 h64'')
  have HA4 := Lib.hid (i64_of_wf w4)
  clear w0 w1 w2 w3 w4 hns hr1 h64 hms hr2 h64' hks hr3 h64''
  go_enter Try.func6, Try.ntmps6
  go_wp2_with fail
  refine HM.out.mono ?_
  rintro e w3 ⟨p, q, s, I, hI, rfl, h3⟩
  have HAR := Lib.hid (darm_spec p s (-1) h3 ⟨by omega, by omega⟩)
  have HI := Lib.hid hI
  have HAN := Lib.hid (armD_neg s)
  obtain ⟨s0, hs0⟩ : ∃ s0, s0 = armD s (-1) := ⟨_, rfl⟩
  rw [← hs0] at HAR HAN
  clear HM h3 hI hs0
  go_wp2_with fail
  refine HAR.out.mono ?_
  rintro e w4 ⟨rfl, h4⟩
  have HON := Lib.hid (don_spec p s0 h4)
  have H4 := Lib.hid h4
  clear HAR h4
  by_cases hoff : s0.off = true
  · have HS := Lib.hid (dsync_spec p s0 H4.out)
    have e1 : syncD s0 = (19, s0) := by rw [syncD, if_pos hoff]
    rw [e1] at HS
    rw [hoff] at HON
    clear H4 e1
    go_wp2_with fail
    refine HON.out.mono ?_
    rintro e w' ⟨rfl, rfl⟩
    go_wp2_with fail
    refine HS.out.mono ?_
    rintro e w5 ⟨rfl, h5⟩
    clear HS
    go_wp2_with fail
    refine (lives29_spec h5).mono ?_
    rintro e w6 ⟨rfl, h6⟩
    go_wp2_with fail
    go_ret
    exact ⟨rfl, h6.below⟩
  · have hoff' : s0.off = false := by simpa using hoff
    have hpl := HAN.out.2.2 (by rw [← HAN.out.2.1]; exact hoff')
    obtain ⟨e1, hgr⟩ := grown_hard hoff' hpl
    obtain ⟨s1, hs1⟩ : ∃ s1, s1 = s0.hard := ⟨_, rfl⟩
    have hfs1 : ∀ j, (s1.fs j).1 = (s.fs j).1 ∧ (s1.fs j).2 = (s1.fs j).1.length := fun j => by rw [hs1, ← HAN.out.1]; exact ⟨rfl, rfl⟩
    rw [HAN.out.1] at hgr
    rw [← hs1] at e1 hgr
    have HS := Lib.hid (dsync_spec p s0 H4.out)
    rw [e1] at HS
    rw [hoff'] at HON
    have HG := Lib.hid hgr
    have HF1 := Lib.hid hfs1
    clear H4 e1 hoff hoff' hpl hs1 hgr hfs1
    go_wp2_with fail
    refine HON.out.mono ?_
    rintro e w' ⟨rfl, rfl⟩
    clear HON
    go_wp2_with fail
    refine HS.out.mono ?_
    rintro e w5 ⟨rfl, h5⟩
    have HC := Lib.hid (dcopy_spec p s1 h5)
    clear HS h5
    go_wp2_with fail
    refine HC.out.mono ?_
    rintro e w6 ⟨c, rfl, h6⟩
    have HIN := Lib.hid (ints01_spec a3 len3 cap3 ks 4 (show Sat w w6 (sep (kn I) (sep (isDisk c s1) (sep (isDisk p s1) (sep (isRD q s) emp)))) by simpa only [sep_comm, sep_lcomm, sep_assoc] using h6) (Rep.mono _ HI.out HKS.out.1) (by omega))
    clear HC h6
    go_wp2_with fail
    refine HIN.out.mono ?_
    rintro e w7 ⟨ka, kc, rfl, h7⟩
    obtain ⟨J, hIJ, hrk, h8⟩ := ints_of_osl h7 rfl
    have hk64 : ∀ x ∈ ks.take 4, I64' x := fun x hx => HKS.out.2 x (List.mem_of_mem_take hx)
    obtain ⟨keep, hkeep⟩ : ∃ keep, keep = ks.take 4 := ⟨_, rfl⟩
    rw [← hkeep] at hrk hk64 ⊢
    obtain ⟨nk, hnk⟩ : ∃ nk, nk = keep.length := ⟨_, rfl⟩
    rw [← hnk] at hrk ⊢
    have HCR := Lib.hid (dcrash_spec c s1 ka nk kc keep a4 (show Sat w w7 (sep (isDisk c s1) (sep (kn J) (sep (isDisk p s1) (sep (isRD q s) emp)))) by simpa only [sep_comm, sep_lcomm, sep_assoc] using h8) hrk hk64 HA4.out)
    have hok1 : s1.ok := isDisk_ok h8.p1
    have hcf : ∀ j : Nat, j < 64 → readD (crashD s1 keep a4) ((j : Nat) : Int) = ((s.fs j).1, 0) := fun j hj => by
      rw [read_crash _ _ _ _ hj, crash_hard hok1 _ _ _ (HF1.out j).2, (HF1.out j).1]
    obtain ⟨cs, hcs⟩ : ∃ cs, cs = crashD s1 keep a4 := ⟨_, rfl⟩
    rw [← hcs] at HCR hcf
    have HCF := Lib.hid hcf
    have HRK := Lib.hid (And.intro hrk hk64)
    have HIJ := Lib.hid (Mem.le_trans HI.out hIJ)
    clear HIN h7 h8 hIJ hrk hk64 hkeep hnk hok1 hcf hcs HI HKS
    go_wp2_with fail
    refine HCR.out.mono ?_
    rintro e w8 ⟨rfl, h9⟩
    have H9 := Lib.hid h9
    clear HCR h9
    obtain ⟨a2a, a2c, e, hsw2, hc2⟩ := ints_rel.1 HV.out.1
    simp only [Value.slice.injEq] at e
    obtain ⟨rfl, rfl, rfl⟩ := e
    obtain ⟨m, hm⟩ : ∃ m, m = ms.length := ⟨_, rfl⟩
    rw [← hm] at hsw2 ⊢
    have HMS := Lib.hid (And.intro hm (And.intro hsw2 hc2))
    have hwJ : Mem.le (wm w) J := HIJ.out
    have HWJ := Lib.hid hwJ
    clear hm hsw2 hc2 hwJ HF1
    obtain ⟨f0, hf0⟩ : ∃ f0 : Nat → List UInt8, f0 = fun j => (s.fs j).1 := ⟨_, rfl⟩
    rw [← hf0] at HG
    have HF0 := Lib.hid hf0
    clear hf0
    go_upto_block 0 with (fail)
    go_cut [] (fun wx => ∃ s2, Hid (Grown f0 s2) ∧ Sat w wx (sep (isDisk c cs) (sep (kn J) (sep (isDisk p s2) (sep (isRD q s) emp)))))
    case first =>
      go_wp2_with fail
      go_loopw [15] (fun iv' wr => ∃ (i : Nat) (s2 : DSt), i ≤ 6 ∧ iv' = .int .i64 (i : Nat) ∧ Hid (Grown f0 s2) ∧ Sat w wr (sep (isDisk c cs) (sep (kn J) (sep (isDisk p s2) (sep (isRD q s) emp))))) (fun iv' _ => 6 - (intOf iv').toNat)
      case atStart => exact ⟨0, s1, by omega, rfl, HG, H9.out⟩
      case round =>
        clear H9
        obtain ⟨i, s2, hi, rfl, HG2, hS⟩ := hrel
        by_cases hil : i < m ∧ i < 6
        · obtain ⟨hi1, hi2⟩ := hil
          have hiL : i < ms.length := by rw [← HMS.out.1]; exact hi1
          obtain ⟨b, o, rfl, hcell⟩ := cells_ext HMS.out.2.2 (by intro e; rw [List.map_eq_nil_iff] at e; rw [e] at hiL; simp at hiL)
          obtain ⟨x, hx⟩ : ∃ x, x = ms[i] := ⟨_, rfl⟩
          have hcx : ∀ w', Ext J w' → w'.cell? ⟨b, o + i, none⟩ = some (.int .i64 x) := fun w' he => hcell w' (fun b' o' h' => he b' o' (HWJ.out b' o' h')) i _ (by rw [List.getElem?_map, List.getElem?_eq_getElem hiL, ← hx]; rfl)
          have hx64 : I64' x := by rw [hx]; exact HV.out.2 _ (List.getElem_mem hiL)
          have hq := aroundI_lt x 3 (by omega)
          obtain ⟨f, hf⟩ : ∃ f : Int, f = aroundI x 3 := ⟨_, rfl⟩
          have hqa : ∀ w', Calls Try.prog 12 #[.int .i64 x, .int .i64 3] w' fun e w2 => e = .returned (.int .i64 f) ∧ w2 = w' := fun w' => by rw [hf]; exact (around_spec x 3 w' hx64.1 hx64.2 (by omega) (by omega)).mono fun _ _ ⟨x, y⟩ => ⟨x, y.symm⟩
          have HQ := Lib.hid hqa
          obtain ⟨y, hy⟩ := wrap_u8 x
          have hS0 : wr.drew.cell? ⟨b, o + i, none⟩ = some (.int .i64 x) := hcx wr.drew hS.drew.p1.ext
          obtain ⟨KM, hJK, hrk, h10⟩ := litB (show Sat w wr.drew (sep (kn J) (sep (isDisk p s2) (sep (isDisk c cs) (sep (isRD q s) emp)))) by have := hS.drew; simpa only [sep_comm, sep_lcomm, sep_assoc] using this) [y, 7] 5 (by simp [maxLen])
          obtain ⟨g, hg⟩ : ∃ g, g = wr.heap.size := ⟨_, rfl⟩
          obtain ⟨w9, hw9⟩ : ∃ w9, w9 = (wr.alloc (.cells #[.int .u8 (y.toNat : Nat), .int .u8 7] 5)).drew := ⟨_, rfl⟩
          have hrk : rBytes.rel KM [.slice (some ⟨g, 0, none⟩) 2 2] [y, 7] := by rw [hg]; exact hrk
          have h10 : Sat w w9 (sep (kn KM) (sep (isDisk p s2) (sep (isDisk c cs) (sep (isRD q s) emp)))) := by rw [hw9]; exact h10
          have HW9 := Lib.hid (And.intro hg hw9)
          have hS1 : w9.cell? ⟨b, o + i, none⟩ = some (.int .i64 x) := hcx w9 (fun b' o' h' => h10.ext b' o' (hJK b' o' h'))
          have HA := Lib.hid (dappend_spec p s2 f _ [y, 7] (show Sat w w9 (sep (isDisk p s2) (sep (kn KM) (sep (isDisk c cs) (sep (isRD q s) emp)))) by simpa only [sep_comm, sep_lcomm, sep_assoc] using h10) hrk (by simp))
          obtain ⟨s3, hs3⟩ : ∃ s3, s3 = (appendD s2 f [y, 7]).2 := ⟨_, rfl⟩
          have HG3 : Hid (Grown f0 s3) := Lib.hid (by rw [hs3]; exact HG2.out.append f [y, 7])
          obtain ⟨r3, hr3⟩ : ∃ r3, r3 = (appendD s2 f [y, 7]).1 := ⟨_, rfl⟩
          rw [← hs3, ← hr3] at HA
          have HJK := Lib.hid hJK
          have hi1I : (i : Int) < (m : Int) := by omega
          have hi2I : (i : Int) < 6 := by omega
          have HS1 := Lib.hid hS1
          clear hiL hi1 hi2 hcell hx hcx hx64 hf hqa hg hw9 h10 hrk hJK hs3 hr3 hS hS1 HG2 hq
          go_wp2_with fail
          refine PQ.wp_region_canon rfl (fun w' => w'.cell? ⟨b, o + i, none⟩ = some (.int .i64 x)) [(0, .p), (1, .p), (2, .p), (3, .p), (4, .s), (5, .p), (6, .p), (7, .p), (8, .p), (9, .s), (10, .p), (11, .e true), (12, .e false)] (by kernel_rfl) ?_
          (repeat (first | (refine PQ.C_p (v := ?_) rfl rfl (fun w' => ?_) ?_; rotate_left; (go_simp; with_reducible rfl); simp only [Act.put, List.setIfInBounds_toArray, List.set_cons_zero, List.set_cons_succ]) | (refine PQ.C_s (v := ?_) rfl rfl hS0 (fun w' hS => ?_) ?_; rotate_left; ((try dsimp only at hS); go_simp; with_reducible rfl); simp only [Act.put, List.setIfInBounds_toArray, List.set_cons_zero, List.set_cons_succ]) | (refine PQ.C_t (v := ?_) rfl rfl ?_ ?_; rotate_left; (go_simp; with_reducible rfl); simp only [Act.put, List.setIfInBounds_toArray, List.set_cons_zero, List.set_cons_succ]) | (refine PQ.C_po rfl rfl ?_; simp only [Act.put, List.setIfInBounds_toArray, List.set_cons_zero, List.set_cons_succ]) | (refine PQ.C_so rfl rfl hS0 ?_; simp only [Act.put, List.setIfInBounds_toArray, List.set_cons_zero, List.set_cons_succ]) | (refine PQ.C_to rfl rfl ?_; simp only [Act.put, List.setIfInBounds_toArray, List.set_cons_zero, List.set_cons_succ])))
          (refine PQ.C_q rfl rfl (fun w' => ?_) (fun w' => HQ.out w') ?_; (go_simp; try with_reducible rfl); simp only [Act.put, List.setIfInBounds_toArray, List.set_cons_zero, List.set_cons_succ])
          (repeat (first | (refine PQ.C_p (v := ?_) rfl rfl (fun w' => ?_) ?_; rotate_left; (go_simp; with_reducible rfl); simp only [Act.put, List.setIfInBounds_toArray, List.set_cons_zero, List.set_cons_succ]) | (refine PQ.C_s (v := ?_) rfl rfl hS0 (fun w' hS => ?_) ?_; rotate_left; ((try dsimp only at hS); go_simp; with_reducible rfl); simp only [Act.put, List.setIfInBounds_toArray, List.set_cons_zero, List.set_cons_succ]) | (refine PQ.C_t (v := ?_) rfl rfl ?_ ?_; rotate_left; (go_simp; with_reducible rfl); simp only [Act.put, List.setIfInBounds_toArray, List.set_cons_zero, List.set_cons_succ]) | (refine PQ.C_po rfl rfl ?_; simp only [Act.put, List.setIfInBounds_toArray, List.set_cons_zero, List.set_cons_succ]) | (refine PQ.C_so rfl rfl hS0 ?_; simp only [Act.put, List.setIfInBounds_toArray, List.set_cons_zero, List.set_cons_succ]) | (refine PQ.C_to rfl rfl ?_; simp only [Act.put, List.setIfInBounds_toArray, List.set_cons_zero, List.set_cons_succ])))
          (refine PQ.C_e rfl rfl (fun K hK => ?_); go_simp)
          rw [← HW9.out.1, ← HW9.out.2]
          (refine hK _ _ (fun _ => HS1.out) ?_; clear hK K; (try simp only [Act.put, List.setIfInBounds_toArray, List.set_cons_zero, List.set_cons_succ]))
          (repeat (first | (refine PQ.C_p (v := ?_) rfl rfl (fun w' => ?_) ?_; rotate_left; (go_simp; with_reducible rfl); simp only [Act.put, List.setIfInBounds_toArray, List.set_cons_zero, List.set_cons_succ]) | (refine PQ.C_s (v := ?_) rfl rfl hS0 (fun w' hS => ?_) ?_; rotate_left; ((try dsimp only at hS); go_simp; with_reducible rfl); simp only [Act.put, List.setIfInBounds_toArray, List.set_cons_zero, List.set_cons_succ]) | (refine PQ.C_t (v := ?_) rfl rfl ?_ ?_; rotate_left; (go_simp; with_reducible rfl); simp only [Act.put, List.setIfInBounds_toArray, List.set_cons_zero, List.set_cons_succ]) | (refine PQ.C_po rfl rfl ?_; simp only [Act.put, List.setIfInBounds_toArray, List.set_cons_zero, List.set_cons_succ]) | (refine PQ.C_so rfl rfl hS0 ?_; simp only [Act.put, List.setIfInBounds_toArray, List.set_cons_zero, List.set_cons_succ]) | (refine PQ.C_to rfl rfl ?_; simp only [Act.put, List.setIfInBounds_toArray, List.set_cons_zero, List.set_cons_succ])))
          (refine PQ.C_e rfl rfl (fun K hK => ?_); go_simp)
          refine HA.out.mono ?_
          rintro e w10 ⟨rfl, h11⟩
          have h12 : Sat w w10 (sep (isDisk c cs) (sep (kn J) (sep (isDisk p s3) (sep (isRD q s) emp)))) := by
            have := (show Sat w w10 (sep (kn KM) (sep (isDisk p s3) (sep (isDisk c cs) (sep (isRD q s) emp)))) by simpa only [sep_comm, sep_lcomm, sep_assoc] using h11).kn_mono HJK.out
            simpa only [sep_comm, sep_lcomm, sep_assoc] using this
          have H12 := Lib.hid h12
          clear HA h11 h12 HS1 hS0 HW9 HJK
          (refine hK _ _ (fun h => by cases h) ?_; clear hK K; (try simp only [Act.put, List.setIfInBounds_toArray, List.set_cons_zero, List.set_cons_succ]))
          (repeat (first | (refine PQ.C_p (v := ?_) rfl rfl (fun w' => ?_) ?_; rotate_left; (go_simp; with_reducible rfl); simp only [Act.put, List.setIfInBounds_toArray, List.set_cons_zero, List.set_cons_succ]) | (refine PQ.C_s (v := ?_) rfl rfl hS0 (fun w' hS => ?_) ?_; rotate_left; ((try dsimp only at hS); go_simp; with_reducible rfl); simp only [Act.put, List.setIfInBounds_toArray, List.set_cons_zero, List.set_cons_succ]) | (refine PQ.C_t (v := ?_) rfl rfl ?_ ?_; rotate_left; (go_simp; with_reducible rfl); simp only [Act.put, List.setIfInBounds_toArray, List.set_cons_zero, List.set_cons_succ]) | (refine PQ.C_po rfl rfl ?_; simp only [Act.put, List.setIfInBounds_toArray, List.set_cons_zero, List.set_cons_succ]) | (refine PQ.C_so rfl rfl hS0 ?_; simp only [Act.put, List.setIfInBounds_toArray, List.set_cons_zero, List.set_cons_succ]) | (refine PQ.C_to rfl rfl ?_; simp only [Act.put, List.setIfInBounds_toArray, List.set_cons_zero, List.set_cons_succ])))
          refine PQ.C_nil ?_
          go_wp2_with fail
          go_roundw
          case rel => exact ⟨i + 1, s3, by omega, rfl, HG3, H12.out⟩
          case measure => simp only [intOf]; omega
        · have HSX := Lib.hid hS
          clear hS
          by_cases hi1 : i < m
          · have hi1I : (i : Int) < (m : Int) := by omega
            obtain rfl : i = 6 := by omega
            clear hil hi
            go_wp2_with fail
            go_meet
            exact ⟨s2, HG2, HSX.out⟩
          · have hi1I : ¬ (i : Int) < (m : Int) := by omega
            clear hil
            go_wp2_with fail
            go_meet
            exact ⟨s2, HG2, HSX.out⟩
    case rest =>
      clear H9
      obtain ⟨s2, HG2, h10⟩ := hcut
      have HC := Lib.hid (dcopy_spec p s2 (show Sat w wc (sep (isDisk p s2) (sep (isDisk c cs) (sep (kn J) (sep (isRD q s) emp)))) by simpa only [sep_comm, sep_lcomm, sep_assoc] using h10))
      clear h10
      go_wp2_with fail
      refine HC.out.mono ?_
      rintro e w9 ⟨L, rfl, h11⟩
      have hok2 : s2.ok := isDisk_ok h11.p1
      have hal : ∀ j : Nat, j < 64 → readD s2 (j : Int) = ((s2.fs j).1, 0) := fun j hj => by
        rw [readD, if_neg (by omega), if_neg (by rw [HG2.out.off]; simp)]; rfl
      have HCR := Lib.hid (dcrash_spec p s2 ka nk kc keep a4 (show Sat w w9 (sep (isDisk p s2) (sep (kn J) (sep (isDisk c cs) (sep (isDisk L s2) (sep (isRD q s) emp))))) by simpa only [sep_comm, sep_lcomm, sep_assoc] using h11) HRK.out.1 HRK.out.2 HA4.out)
      have hds : ∀ j : Nat, j < 64 → readD (crashD s2 keep a4) (j : Int) = (((crashD s2 keep a4).fs j).1, 0) ∧ (f0 j).length ≤ ((crashD s2 keep a4).fs j).1.length ∧ ((crashD s2 keep a4).fs j).1.take (f0 j).length = f0 j ∧ ((crashD s2 keep a4).fs j).1.length ≤ (s2.fs j).1.length := fun j hj => ⟨read_crash _ _ _ _ hj, HG2.out.crash hok2 keep a4 j⟩
      obtain ⟨ds, hds0⟩ : ∃ ds, ds = crashD s2 keep a4 := ⟨_, rfl⟩
      rw [← hds0] at HCR hds
      have HDS := Lib.hid (And.intro hds hal)
      clear HC h11 hok2 hal hds hds0
      go_wp2_with fail
      refine HCR.out.mono ?_
      rintro e w10 ⟨rfl, h12⟩
      clear HCR
      go_wp2_with fail
      go_loopw [17] (fun iv' wr => ∃ i : Nat, i ≤ 4 ∧ iv' = .int .i64 (i : Nat) ∧ Sat w wr (sep (isDisk p ds) (sep (kn J) (sep (isDisk c cs) (sep (isDisk L s2) (sep (isRD q s) emp)))))) (fun iv' _ => 4 - (intOf iv').toNat)
      case atStart => exact ⟨0, by omega, rfl, h12⟩
      case round =>
        clear h12
        obtain ⟨i, hi, rfl, hS⟩ := hrel
        by_cases hi4 : i < 4
        · have hi4I : (i : Int) < 4 := by omega
          have hi64 : i < 64 := by omega
          obtain ⟨hd1, hd2, hd3, hd4⟩ := HDS.out.1 i hi64
          have hrc := dread_spec c cs (i : Int) (show Sat w wr (sep (isDisk c cs) (sep (kn J) (sep (isDisk p ds) (sep (isDisk L s2) (sep (isRD q s) emp))))) by simpa only [sep_comm, sep_lcomm, sep_assoc] using hS)
          have hcf : readD cs (i : Int) = (f0 i, 0) := by rw [HCF.out i hi64, HF0.out]
          rw [hcf] at hrc
          dsimp only at hrc
          have hfi : (s.fs i).1 = f0 i := by rw [HF0.out]
          obtain ⟨fi, hfi2⟩ : ∃ fi, fi = f0 i := ⟨_, rfl⟩
          rw [← hfi2] at hrc hd2 hd3 hfi
          obtain ⟨nl, hnl⟩ : ∃ nl, nl = fi.length := ⟨_, rfl⟩
          rw [← hnl] at hrc hd2 hd3
          obtain ⟨bi, hbi⟩ : ∃ bi, bi = (ds.fs i).1 := ⟨_, rfl⟩
          rw [← hbi] at hd1 hd2 hd3 hd4
          obtain ⟨bl, hbl⟩ : ∃ bl, bl = bi.length := ⟨_, rfl⟩
          rw [← hbl] at hd2 hd4
          have HRC := Lib.hid hrc
          have HD := Lib.hid (And.intro hd1 (And.intro hd3 (And.intro hfi (And.intro hnl hbl))))
          clear hS hrc hcf hfi hfi2 hbi hd1 hd3 hi4 hnl hbl
          go_wp2_with fail
          refine HRC.out.mono ?_
          rintro e w11 ⟨a1', c1', rfl, h13⟩
          obtain ⟨J1, hJ1, hr1, h14⟩ := (show Sat w w11 (sep (rBytes.is [.slice a1' nl c1'] fi) (sep (kn J) (sep (isDisk c cs) (sep (isDisk p ds) (sep (isDisk L s2) (sep (isRD q s) emp)))))) from by
            have := h13.bytes_of_osl.2
            simpa only [sep_comm, sep_lcomm, sep_assoc] using this).learn
          have hrd := dread_spec p ds (i : Int) (show Sat w w11 (sep (isDisk p ds) (sep (kn J1) (sep (isDisk c cs) (sep (isDisk L s2) (sep (isRD q s) emp))))) by simpa only [sep_comm, sep_lcomm, sep_assoc] using h14)
          rw [HD.out.1] at hrd
          dsimp only at hrd
          rw [← HD.out.2.2.2.2] at hrd
          have HRD := Lib.hid hrd
          have HR1 := Lib.hid (And.intro hJ1 hr1)
          clear HRC h13 h14 hrd hJ1 hr1
          go_wp2_with fail
          refine HRD.out.mono ?_
          rintro e w12 ⟨a2', c2', rfl, h15⟩
          obtain ⟨J2, hJ2, hr2, h16⟩ := (show Sat w w12 (sep (rBytes.is [.slice a2' bl c2'] bi) (sep (kn J1) (sep (isDisk c cs) (sep (isDisk p ds) (sep (isDisk L s2) (sep (isRD q s) emp)))))) from by
            have := h15.bytes_of_osl.2
            simpa only [sep_comm, sep_lcomm, sep_assoc] using this).learn
          obtain ⟨B, F, V, hrok, h17⟩ := isRD_open (show Sat w w12 (sep (isRD q s) (sep (kn J2) (sep (isDisk c cs) (sep (isDisk p ds) (sep (isDisk L s2) emp))))) by simpa only [sep_comm, sep_lcomm, sep_assoc] using h16)
          have g1 : w12.cell? ⟨q, 1, none⟩ = some (.slice (some ⟨B, 0, none⟩) 64 64) := h17.cell 1
          obtain ⟨ba, bc, hVi, hsw, h18⟩ := fokr_at h17.p3 hi64
          rw [HD.out.2.2.1, ← HD.out.2.2.2.1] at hVi h18
          have g2 : w12.cell? ⟨B, i, none⟩ = some (.slice ba nl bc) := by rw [h17.p1.cell i, rowC_get _ hi64, hVi]
          obtain ⟨J3, hJ3, hr3, h19⟩ := (show Sat w w12 (sep (rBytes.is [.slice ba nl bc] fi) (sep (kn J2) (sep (blk q (.cells (rdC B F s) 58 (0, 0))) (sep (blk B (.cells (rowC V) 27 (0, 0))) (sep (blk F (.cells (rowC (firmV s.fs)) 3 (0, 0))) (sep (fokr V s.fs) (sep (isDisk c cs) (sep (isDisk p ds) (sep (isDisk L s2) emp))))))))) from by
            simpa only [sep_comm, sep_lcomm, sep_assoc] using h18).learn
          have h20 := isRD_mk hrok (show Sat w w12 (sep (blk q (.cells (rdC B F s) 58 (0, 0))) (sep (blk B (.cells (rowC V) 27 (0, 0))) (sep (blk F (.cells (rowC (firmV s.fs)) 3 (0, 0))) (sep (fokr V s.fs) (sep (kn J3) (sep (isDisk c cs) (sep (isDisk p ds) (sep (isDisk L s2) emp)))))))) by simpa only [sep_comm, sep_lcomm, sep_assoc] using h19)
          have hra := rBytes.mono (Mem.le_trans hJ2 hJ3) HR1.out.2
          have hrb := rBytes.mono hJ3 hr2
          obtain ⟨hrt, -⟩ := rel_take' nl hd2 hrb
          rw [HD.out.2.1, ← HD.out.2.2.2.1] at hrt
          have hswb := (rel_src' hrb).2.1
          have gb1 : (nl : Int) ≤ (c2' : Int) := by have := hswb.1; omega
          have gb0 : (0 : Int) ≤ (nl : Int) := by omega
          have gb3 : c2' ≤ 9223372036854775807 := hswb.2.1
          have gb2 : ¬ (bl : Int) < (nl : Int) := by omega
          have HSB1 := Lib.hid (same_kn (.slice a1' nl c1') (.slice ba nl bc) fi (show Sat w w12 (sep (kn J3) (sep (isRD q s) (sep (isDisk c cs) (sep (isDisk p ds) (sep (isDisk L s2) emp))))) by simpa only [sep_comm, sep_lcomm, sep_assoc] using h20) hra hr3)
          have HSB2 := Lib.hid (fun w' A (h : Sat w w' (sep (kn J3) A)) => same_kn (.slice a2' nl c2') (.slice a1' nl c1') fi h hrt hra)
          have HJ3 := Lib.hid (Mem.le_trans HR1.out.1 (Mem.le_trans hJ2 hJ3))
          have hi64I : (i : Int) < 64 := by omega
          clear HRD h15 h16 h17 h18 h19 h20 hVi hsw hrok hr2 hr3 hra hrb hrt hswb hJ2 hJ3 HR1 hi64
          go_wp2_with fail
          refine HSB1.out.mono ?_
          rintro e w13 ⟨rfl, h21⟩
          have HSB2' := Lib.hid (HSB2.out _ _ h21)
          clear HSB1 HSB2 h21 g1 g2
          go_wp2_with fail
          refine HSB2'.out.mono ?_
          rintro e w14 ⟨rfl, h22⟩
          have hrl := dread_spec L s2 (i : Int) (show Sat w w14 (sep (isDisk L s2) (sep (kn J3) (sep (isDisk c cs) (sep (isDisk p ds) (sep (isRD q s) emp))))) by simpa only [sep_comm, sep_lcomm, sep_assoc] using h22)
          rw [HDS.out.2 i (by omega)] at hrl
          dsimp only at hrl
          obtain ⟨al, hal⟩ : ∃ al, al = (s2.fs i).1.length := ⟨_, rfl⟩
          rw [← hal] at hrl hd4
          have gbl : ¬ (bl : Int) > (al : Int) := by omega
          have HRL := Lib.hid hrl
          clear HSB2' h22 hrl gb0 gb1 gb3 hd2 hd4
          go_wp2_with fail
          refine HRL.out.mono ?_
          rintro e w15 ⟨a3', c3', rfl, h23⟩
          have h24 : Sat w w15 (sep (isDisk p ds) (sep (kn J) (sep (isDisk c cs) (sep (isDisk L s2) (sep (isRD q s) emp))))) := by
            have h25 : Sat w w15 (sep (isDisk L s2) (sep (kn J3) (sep (isDisk c cs) (sep (isDisk p ds) (sep (isRD q s) emp))))) := h23.osl_settle.tail
            have := (show Sat w w15 (sep (kn J3) (sep (isDisk p ds) (sep (isDisk c cs) (sep (isDisk L s2) (sep (isRD q s) emp))))) by simpa only [sep_comm, sep_lcomm, sep_assoc] using h25).kn_mono HJ3.out
            simpa only [sep_comm, sep_lcomm, sep_assoc] using this
          have H24 := Lib.hid h24
          clear HRL h23 h24 hal
          go_wp2_with fail
          go_roundw
          case rel => exact ⟨i + 1, by omega, rfl, H24.out⟩
          case measure => simp only [intOf]; omega
        · have hi4I : ¬ (i : Int) < 4 := by omega
          have HS := Lib.hid hS
          clear hS
          go_wp2_with fail
          refine (lives29_spec HS.out).mono ?_
          rintro e w11 ⟨rfl, h13⟩
          go_wp2_with fail
          go_ret
          exact ⟨rfl, h13.below⟩
end Go.Proofs.Ytbniekblkbdidaa
