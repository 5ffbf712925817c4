/- Literals of bytes and of other one-cell elements. -/
import Derived.Test.YtdaknmcmjnbfeaaUtil
import Derived.Test.YtdaknmcmjnbfeaaAr
import Derived.Test.YtdaknmcmjnbfeaaGJournalApartSD8
import Derived.Test.YtdaknmcmjnbfeaaGJournalApartSL5
import Derived.Test.YtdaknmcmjnbfeaaGJournalApartSL4
namespace Go.Proofs.Ytdaknmcmjnbfeaa
open Go.RowKit PA
theorem litB {W w : World} {A : Assn} {I : Mem} (h : Sat W w (sep (kn I) A)) (bs : List UInt8) (t : TypeId) (hb : bs.length ≤ maxLen) :
    ∃ J, Mem.le I J ∧ rBytes.rel J [.slice (some ⟨w.heap.size, 0, none⟩) bs.length bs.length] bs ∧ Sat W (w.alloc (.cells (bs.map bv).toArray t)) (sep (kn J) A) := by
  obtain ⟨J, h1, h2, h3⟩ := (h.bytes_of_alloc bs t (0, 0) hb).learn
  exact ⟨J, h1, h2, h3⟩
theorem litI {W w : World} {A : Assn} {I : Mem} (h : Sat W w (sep (kn I) A)) (ns : List Int) (t : TypeId) (hb : ns.length ≤ maxLen) :
    ∃ J, Mem.le I J ∧ (rInt.slice 1).rel J [.slice (some ⟨w.heap.size, 0, none⟩) ns.length ns.length] ns ∧ Sat W (w.alloc (.cells (ns.map iv).toArray t)) (sep (kn J) A) := by
  have h1 := (h.alloc (.cells (ns.map iv).toArray t)).settle
  obtain ⟨J, hle, hp, h2⟩ := (show Sat W _ (sep (imm w.heap.size (.cells (ns.map iv).toArray t)) (sep (kn I) A)) from h1).learn
  refine ⟨J, hle, ints_rel.2 ⟨_, _, rfl, ⟨Nat.le_refl _, hb, fun h => by cases h⟩, .inr ⟨w.heap.size, 0, _, t, (0, 0), rfl, hp, fun i u hu => by simpa using hu⟩⟩, h2⟩
theorem litO {W w : World} {A : Assn} {E : Nat} (h : Sat W w A) (xs : List Value) (n : Nat) (hn : n = xs.length) (hl : n ≤ maxLen) : Sat W (w.alloc (.cells xs.toArray E)) (sep (osl E 1 (some ⟨w.heap.size, 0, none⟩) n n xs) A) := by
  subst hn
  exact (h.alloc (.cells xs.toArray E)).osl_mk xs.length xs.length 1 xs (by simp) (Nat.le_refl _) hl (by simp) (by simp)
theorem nilB (I : Mem) : rBytes.rel I [.slice none 0 0] [] := bytes_rel.2 ⟨none, 0, rfl, ⟨Nat.le_refl _, Nat.zero_le _, fun _ => rfl⟩, .inl rfl⟩
theorem nilI (I : Mem) : (rInt.slice 1).rel I [.slice none 0 0] [] := ints_rel.2 ⟨none, 0, rfl, ⟨Nat.le_refl _, Nat.zero_le _, fun _ => rfl⟩, .inl rfl⟩
end Go.Proofs.Ytdaknmcmjnbfeaa
/- Package disk: the example of the section. -/
namespace Go.Proofs.Ytdaknmcmjnbfeaa
open Go.RowKit PA
end Go.Proofs.Ytdaknmcmjnbfeaa
/- JournalInverted, the walk. -/
namespace Go.Proofs.Ytdaknmcmjnbfeaa
open Go.RowKit PA
theorem lists_kn {W w : World} {A : Assn} {J : Mem} (v u : Value) (xs : List (List UInt8)) (h : Sat W w (sep (kn J) A)) (h1 : (rBytes.slice 1).rel J [v] xs) (h2 : (rBytes.slice 1).rel J [u] xs) :
    Calls Try.prog 17 #[v, u] w fun e w' => e = .returned (.bool true) ∧ Sat W w' (sep (kn J) A) := sameLists_spec v u xs ((h.tell h2).p1.tell h1).p2.p1
theorem log5_start {W w : World} {A : Assn} {I : Mem} (f : Nat) (hf : f < 64) (p : Nat) (h : Sat W w (sep (isDisk p (newD 5000)) (sep (kn I) A))) :
    Calls Try.prog 30 #[.pointer (some ⟨p, 0, none⟩), .int .i64 (f : Nat)] w fun e w' => ∃ q a c, e = .returned (.tuple #[.pointer (some ⟨q, 0, none⟩), .slice a 0 c, .int .i64 0]) ∧ Sat W w' (sep (isLog q p ⟨f, 0, false⟩) (sep (isDisk p (hd 5000 (one f []))) (sep (kn I) A))) := by
  have hop := jopen_spec p (newD 5000) (f : Int) h (by rw [newD_hd, ← pl_none, hd_read _ _ _ hf]; simp [noG])
  have e : openJ (newD 5000) (f : Int) = (0, hd 5000 (one f []), []) := by
    rw [newD_hd, ← one_nil f]
    exact one_open hf ⟨Nat.le_refl 0, fun x hx => (by cases hx)⟩ (by omega)
  rw [e] at hop
  refine hop.mono ?_
  rintro e w3 ⟨hyes, -⟩
  obtain ⟨q, u, rfl, h3⟩ := hyes rfl
  dsimp only at h3
  obtain ⟨ua, uc, rfl, -⟩ := slice_form h3.p1.pers_heap
  refine ⟨q, ua, uc, rfl, ?_⟩
  have := h3.p1.drop
  rw [Int.toNat_natCast] at this
  exact this
set_option maxRecDepth 100000 in
set_option maxHeartbeats 8000000 in
theorem journalInverted_walk (a0 : Option Addr) (len0 cap0 : Nat) (z0 : List Int) (a1 : Option Addr) (len1 cap1 : Nat) (z1 : List Int) (a2 : Int) (a3 : Int) (w : World)
    (w0 : IsArg w a0 len0 cap0 z0) (w1 : IsArgB w a1 len1 cap1 z1) (w2 : (Lit.int .i64 a2).wf = true) (w3 : (Lit.int .i64 a3).wf = true) :
    Calls Try.prog 8 #[.slice a0 len0 cap0, .slice a1 len1 cap1, .int .i64 a2, .int .i64 a3] w fun e w' => e = .returned (.bool true) ∧ Below w.heap.size w w' := by
  obtain ⟨ns, hns, hr0, h64⟩ := argI w0
  obtain ⟨b, hb, hr1⟩ := argB w1
  have HR := Lib.hid (And.intro hr0 (And.intro h64 hr1))
  have HK := Lib.hid (And.intro (i64_of_wf w2) (i64_of_wf w3))
  have HF := Lib.hid (fresh_spec 5000 (Sat.startKn w) (by omega))
  clear w0 w1 w2 w3 hns hr0 h64 hb hr1
  go_enter Try.func8, Try.ntmps8
  go_wp2_with fail
  refine HF.out.mono ?_
  rintro e w2 ⟨p, rfl, h2⟩
  have HOP := Lib.hid (log5_start 0 (by omega) p h2)
  clear HF h2
  go_wp2_with fail
  refine HOP.out.mono ?_
  rintro e w3 ⟨q, ua, uc, rfl, h3⟩
  have HRE := Lib.hid (records30_spec _ ns (show Sat w w3 (sep (kn (wm w)) (sep (isLog q p ⟨0, 0, false⟩) (sep (isDisk p (hd 5000 (one 0 []))) emp))) by simpa only [sep_comm, sep_lcomm, sep_assoc] using h3) HR.out.1 HR.out.2.1)
  clear HOP h3
  go_wp2_with fail
  refine HRE.out.mono ?_
  rintro e w5 ⟨ra, rc, vs0, X, rfl, hxl, hx10, h5⟩
  obtain ⟨nx, hnx⟩ : ∃ nx, nx = X.length := ⟨_, rfl⟩
  have hnx6 : nx ≤ 6 := by omega
  have h6 := h5.slice_of_osl (R := rBytes) (k := 1) rfl
  rw [← hnx] at h6 ⊢
  obtain ⟨I3, hI3, hxx, h7⟩ := h6.learn
  have HX : Hid (Few X 6) := Lib.hid ⟨by omega, fun x hx => by have := hx10 x hx; omega⟩
  have HXl := Lib.hid hnx
  have HXX := Lib.hid hxx
  have HI3 := Lib.hid hI3
  clear HRE h5 h6 hxl hx10 hnx hxx hI3
  go_wp2_with fail
  go_loopw [14] (fun iv wr => ∃ i : Nat, i ≤ nx ∧ iv = .int .i64 (i : Nat) ∧ Sat w wr (sep (kn I3) (sep (isLog q p ⟨0, i, false⟩) (sep (isDisk p (hd 5000 (one 0 (X.take i)))) emp)))) (fun iv _ => nx - (intOf iv).toNat)
  case atStart => exact ⟨0, Nat.zero_le _, rfl, h7⟩
  case round =>
    clear h7
    obtain ⟨i, hi, rfl, hS⟩ := hrel
    by_cases hlt : i < nx
    · have g2 : (i : Int) < (nx : Int) := by omega
      have hiX : i < X.length := by have := HXl.out; omega
      obtain ⟨gb, go, gv, rfl, hcellU, hgr⟩ := slice_elemU HXX.out i hiX
      have hap := one_append (f := 0) (by omega) (HX.out.take i) (by omega) X[i] (HX.out.each _ (List.getElem_mem hiX)) none (.inl rfl)
      rw [List.length_take, Nat.min_eq_left (by omega), ← List.take_succ_eq_append_getElem hiX] at hap
      have hjs := jappend_spec q p (hd 5000 (one 0 (X.take i))) ⟨0, i, false⟩ gv X[i] (show Sat w wr (sep (isLog q p ⟨0, i, false⟩) (sep (isDisk p (hd 5000 (one 0 (X.take i)))) (sep (kn I3) emp))) by simpa only [sep_comm, sep_lcomm, sep_assoc] using hS) hgr (by have := HX.out.each _ (List.getElem_mem hiX); omega) (by show i ≤ _; omega)
      rw [← pl_none, hap] at hjs
      have hcell := hcellU wr hS.ext
      have HJS := Lib.hid hjs
      clear hS hiX hcellU hgr hap hjs hlt
      go_wp2_with fail
      refine HJS.out.mono ?_
      rintro e w6 ⟨rfl, h6⟩
      have H6 : Hid (Sat w w6 (sep (isLog q p ⟨0, i + 1, false⟩) (sep (isDisk p (hd 5000 (one 0 (X.take (i + 1))))) (sep (kn I3) emp)))) := Lib.hid h6
      clear HJS h6 hcell
      go_wp2_with fail
      go_roundw
      case rel => exact ⟨i + 1, by omega, by go_num, by simpa only [sep_comm, sep_lcomm, sep_assoc] using H6.out⟩
      case measure => simp [intOf]; omega
    · have g2 : ¬ (i : Int) < (nx : Int) := by omega
      obtain rfl : i = nx := by omega
      have hS1 : Sat w wr (sep (isDisk p (hd 5000 (one 0 X))) (sep (isLog q p ⟨0, i, false⟩) (sep (kn I3) emp))) := by
        rw [HXl.out, List.take_length, ← HXl.out] at hS
        simpa only [sep_comm, sep_lcomm, sep_assoc] using hS
      have HAR := Lib.hid (darm_spec p _ 0 hS1 ⟨by omega, by omega⟩)
      clear hS hS1 hi hlt
      go_wp2_with fail
      refine HAR.out.mono ?_
      rintro e w6 ⟨rfl, h6⟩
      have h6' : Sat w w6 (sep (isDisk p (pl 5000 (one 0 X) (some 0))) (sep (isLog q p ⟨0, i, false⟩) (sep (kn I3) emp))) := h6
      have HFEW := Lib.hid (few_spec _ b 60 (show Sat w w6 (sep (kn I3) (sep (isDisk p (pl 5000 (one 0 X) (some 0))) (sep (isLog q p ⟨0, i, false⟩) emp))) by simpa only [sep_comm, sep_lcomm, sep_assoc] using h6') (rBytes.mono HI3.out HR.out.2.2) (by omega))
      clear HAR h6 h6' g2
      go_wp2_with fail
      refine HFEW.out.mono ?_
      rintro e w7 ⟨ba, bc, rfl, h7⟩
      obtain ⟨I4, hI4, hb4, h8⟩ := h7.bytes_of_osl.2.learn
      have htl : (b.take 60).length ≤ 200 := by rw [List.length_take]; omega
      have hap := one_torn (f := 0) (by omega) HX.out (by omega) (b.take 60) htl 0 (by omega)
      rw [← HXl.out] at hap
      have hjs := jappend_spec q p (pl 5000 (one 0 X) (some 0)) ⟨0, i, false⟩ _ (b.take 60) (show Sat w w7 (sep (isLog q p ⟨0, i, false⟩) (sep (isDisk p (pl 5000 (one 0 X) (some 0))) (sep (kn I4) emp))) by simpa only [sep_comm, sep_lcomm, sep_assoc] using h8) hb4 (by omega) (by show i ≤ _; have := HXl.out; have := HX.out.len; omega)
      rw [hap] at hjs
      obtain ⟨fr, hfr⟩ : ∃ fr, fr = frameJ i (b.take 60) := ⟨_, rfl⟩
      rw [← hfr] at hjs
      have HJS := Lib.hid hjs
      have HI4 := Lib.hid hI4
      clear HFEW h7 h8 hI4 hb4 htl hap hjs hfr
      obtain ⟨bl, hbl⟩ : ∃ bl, bl = (b.take 60).length := ⟨_, rfl⟩
      rw [← hbl] at HJS ⊢
      clear hbl
      go_wp2_with fail
      refine HJS.out.mono ?_
      rintro e w8 ⟨rfl, h9⟩
      have h9' : Sat w w8 (sep (isLog q p ⟨0, i, true⟩) (sep (isDisk p (torn 5000 (one 0 X) 0 fr)) (sep (kn I4) emp))) := h9
      have HUP := Lib.hid (jup_spec q p _ h9')
      clear HJS h9 h9'
      go_wp2_with fail
      refine HUP.out.mono ?_
      rintro e w9 ⟨rfl, h10⟩
      have hdn := jappend_spec q p (torn 5000 (one 0 X) 0 fr) ⟨0, i, true⟩ _ [] h10 (nilB I4) (by simp) (by show i ≤ _; have := HXl.out; have := HX.out.len; omega)
      rw [append_down _ _ _ _ (by simp)] at hdn
      have HDN := Lib.hid hdn
      clear HUP h10 hdn
      go_wp2_with fail
      refine HDN.out.mono ?_
      rintro e w10 ⟨rfl, h11⟩
      have HLE := Lib.hid (jlen_spec q p _ h11)
      clear HDN h11
      go_wp2_with fail
      refine HLE.out.mono ?_
      rintro e w11 ⟨rfl, h12⟩
      have g5 : ((i : Int) != (i : Int)) = false := by simp
      have hok : (torn 5000 (one 0 X) 0 fr).ok := isDisk_ok h12.p1
      obtain ⟨I5, hI5, hri, h13⟩ := litI (show Sat w w11 (sep (kn I4) (sep (isDisk p (torn 5000 (one 0 X) 0 fr)) (sep (isLog q p ⟨0, i, true⟩) emp))) by simpa only [sep_comm, sep_lcomm, sep_assoc] using h12) [a2] 3 (by simp [maxLen])
      have hcr := dcrash_spec p _ _ _ _ [a2] a3 (show Sat w _ (sep (isDisk p (torn 5000 (one 0 X) 0 fr)) (sep (kn I5) (sep (isLog q p ⟨0, i, true⟩) emp))) by simpa only [sep_comm, sep_lcomm, sep_assoc] using h13) hri (by intro x hx; simp at hx; subst hx; exact HK.out.1) HK.out.2
      obtain ⟨g', t, hcd, hg', -⟩ := torn_crash 5000 (one 0 X) 0 fr hok [a2] a3
      rw [hcd] at hcr
      rw [one_at] at hg'
      have HCR := Lib.hid hcr
      have HG := Lib.hid hg'
      have HI5 := Lib.hid (Mem.le_trans HI4.out hI5)
      clear HLE h12 hok hI5 hri h13 hcr hcd hg'
      go_wp2_with fail
      refine HCR.out.mono ?_
      rintro e w12 ⟨rfl, h14⟩
      have hokg : (hd 5000 g').ok := isDisk_ok h14
      have hlen : (g' 0).length ≤ 1000000 := by
        have h1 := hokg.fit
        have h2 := used_ge (fs := (hd 5000 g').fs) (n := 0) (by omega)
        have h3 : ((hd 5000 g').fs 0).1 = g' 0 := rfl
        have h4 : (hd 5000 g').room = 5000 := rfl
        rw [h3] at h2
        rw [h4] at h1
        unfold DSt.used at h1
        omega
      have hdn := jappend_spec q p (hd 5000 g') ⟨0, i, true⟩ _ [] (show Sat w w12 (sep (isLog q p ⟨0, i, true⟩) (sep (isDisk p (hd 5000 g')) (sep (kn I5) emp))) by simpa only [sep_comm, sep_lcomm, sep_assoc] using h14) (nilB I5) (by simp) (by show i ≤ _; have := HXl.out; have := HX.out.len; omega)
      rw [append_down _ _ _ _ (by simp)] at hdn
      have HDN := Lib.hid hdn
      have HLEN := Lib.hid hlen
      clear HCR h14 hdn hlen hokg
      go_wp2_with fail
      refine HDN.out.mono ?_
      rintro e w13 ⟨rfl, h15⟩
      have hop := jopen_spec p (hd 5000 g') ((0 : Nat) : Int) (show Sat w w13 (sep (isDisk p (hd 5000 g')) (sep (kn I5) (sep (isLog q p ⟨0, i, true⟩) emp))) by simpa only [sep_comm, sep_lcomm, sep_assoc] using h15) (by rw [← pl_none, hd_read _ _ _ (by omega)]; exact HLEN.out)
      rw [hd_open _ _ (by omega)] at hop
      have hsc : (scanJ 0 (g' 0)).1.take i = X ∧ i ≤ (scanJ 0 (g' 0)).1.length := by
        have := scanJ_frames X 0 t (by have := HX.out.len; omega) (by have := HX.out.frames (by omega); omega)
        rw [← HG.out, Nat.zero_add] at this
        rw [this]
        dsimp only
        rw [HXl.out, List.take_left, List.length_append]
        exact ⟨rfl, Nat.le_add_right _ _⟩
      obtain ⟨got, hgot⟩ : ∃ got, got = (scanJ 0 (g' 0)).1 := ⟨_, rfl⟩
      rw [← hgot] at hop hsc
      have HOP := Lib.hid hop
      have HSC := Lib.hid hsc
      clear HDN h15 hop hsc hgot HG HLEN
      go_wp2_with fail
      refine HOP.out.mono ?_
      rintro e w14 ⟨hyes, -⟩
      obtain ⟨q2, u2, rfl, h16⟩ := hyes rfl
      dsimp only at h16
      obtain ⟨I6, hI6, hu, h17⟩ := (show Sat w w14 (sep ((rBytes.slice 1).is [u2] got) (sep (kn I5) _)) from h16.drop.p2.p1).learn
      obtain ⟨va, vc, rfl, huw⟩ := slice_form hu
      obtain ⟨gl, hgl⟩ : ∃ gl, gl = got.length := ⟨_, rfl⟩
      rw [← hgl] at hu huw ⊢
      have hil : i ≤ gl := by rw [hgl]; exact HSC.out.2
      have hts := slice_take i hil hu
      rw [HSC.out.1] at hts
      have HSL := Lib.hid (lists_kn _ _ X h17 hts ((rBytes.slice 1).mono (Mem.le_trans HI5.out hI6) HXX.out))
      have hglc : gl ≤ vc := huw.1
      have huc : vc ≤ 9223372036854775807 := huw.2.1
      have hkc : i ≤ vc := by omega
      have g6 : (i : Int) ≤ (gl : Int) := by omega
      clear HOP hyes h16 h17 hu hts huw hI6 hgl hil
      go_wp2_with fail
      refine HSL.out.mono ?_
      rintro e w15 ⟨rfl, h18⟩
      have HLI := Lib.hid (lives30_spec h18)
      clear HSL h18
      go_wp2_with fail
      refine HLI.out.mono ?_
      rintro e w16 ⟨rfl, h19⟩
      go_wp2_with fail
      go_ret
      exact ⟨rfl, h19.below⟩
end Go.Proofs.Ytdaknmcmjnbfeaa
