/- JournalApart: two logs on one disk (plain), and the walk. -/
import Derived.Test.YtdaknmcmjnbfeaaGJournalApart46
namespace Go.Proofs.Ytdaknmcmjnbfeaa
open Go.RowKit PA
theorem jopen_ok {W w : World} {A : Assn} {I : Mem} (p : Nat) (d d' : DSt) (f : Nat) (K : List (List UInt8)) (h : Sat W w (sep (isDisk p d) (sep (kn I) A))) (ho : openJ d (f : Int) = (0, d', K)) (hlen : (readD d (f : Int)).1.length ≤ 1000000) :
    Calls Try.prog 30 #[.pointer (some ⟨p, 0, none⟩), .int .i64 (f : Nat)] w fun e w' => ∃ q a c J, e = .returned (.tuple #[.pointer (some ⟨q, 0, none⟩), .slice a K.length c, .int .i64 0]) ∧ Mem.le I J ∧ (rBytes.slice 1).rel J [.slice a K.length c] K ∧
      Sat W w' (sep (kn J) (sep (isLog q p ⟨f, K.length, false⟩) (sep (isDisk p d') A))) := by
  have hop := jopen_spec p d (f : Int) h hlen
  rw [ho] at hop
  refine hop.mono ?_
  rintro e w3 ⟨hyes, -⟩
  obtain ⟨q, u, rfl, h3⟩ := hyes rfl
  dsimp only at h3
  rw [Int.toNat_natCast] at h3
  obtain ⟨J, hJ, hu, h4⟩ := (show Sat W w3 (sep ((rBytes.slice 1).is [u] K) (sep (kn I) (sep (isLog q p ⟨f, K.length, false⟩) (sep (isDisk p d') A)))) by simpa only [sep_comm, sep_lcomm, sep_assoc] using h3).learn
  obtain ⟨ua, uc, rfl, -⟩ := slice_form hu
  exact ⟨q, ua, uc, J, rfl, hJ, hu, h4⟩
def two (A B : List (List UInt8)) : Nat → List UInt8 := gset (gset noG 3 (framesJ 0 A)) 4 (framesJ 0 B)
theorem two_4 (A B : List (List UInt8)) : two A B 4 = framesJ 0 B := gset_same _ _ _
theorem two_3 (A B : List (List UInt8)) : two A B 3 = framesJ 0 A := by
  unfold two
  rw [gset_ne _ _ (by omega), gset_same]
theorem gset_comm (g : Nat → List UInt8) {i j : Nat} (h : i ≠ j) (b c : List UInt8) : gset (gset g i b) j c = gset (gset g j c) i b := by
  funext k
  unfold gset
  by_cases h1 : k = i
  · by_cases h2 : k = j
    · omega
    · rw [if_neg h2, if_pos h1, if_pos h1]
  · by_cases h2 : k = j
    · rw [if_pos h2, if_neg h1, if_pos h2]
    · rw [if_neg h2, if_neg h1, if_neg h1, if_neg h2]
theorem two_used (A B : List (List UInt8)) : usedG (two A B) = (framesJ 0 A).length + (framesJ 0 B).length := by
  have h1 := usedG_set (gset noG 3 (framesJ 0 A)) (framesJ 0 B) (f := 4) (by omega)
  have h2 := one_used' (f := 3) (by omega) A
  have h3 : gset noG 3 (framesJ 0 A) 4 = [] := by rw [gset_ne _ _ (by omega)]; rfl
  rw [h3] at h1
  simp only [List.length_nil] at h1
  unfold one at h2
  unfold two
  omega
theorem two_a {A B : List (List UInt8)} (hA : Few A 6) (hB : Few B 6) (x : List UInt8) (hx : x.length ≤ 200) :
    appendJ (hd 5000 (two A B)) ⟨3, A.length, false⟩ x = (0, hd 5000 (two (A ++ [x]) B), ⟨3, A.length + 1, false⟩) := by
  have h1 := hA.frames (by omega)
  have h2 := hB.frames (by omega)
  have h3 := frame_few A.length x (by have := hA.len; omega) hx
  rw [← pl_none, pl_append 5000 (two A B) none 3 A.length x (by omega) (by omega) (by rw [two_used]; omega) (.inl rfl), two_3]
  have e : gset (two A B) 3 (framesJ 0 A ++ frameJ A.length x) = two (A ++ [x]) B := by
    unfold two
    rw [gset_comm _ (by omega), gset_gset, ← framesJ_snoc0]
  rw [e]
  rfl
theorem two_b {A B : List (List UInt8)} (hA : Few A 6) (hB : Few B 6) (x : List UInt8) (hx : x.length ≤ 200) :
    appendJ (hd 5000 (two A B)) ⟨4, B.length, false⟩ x = (0, hd 5000 (two A (B ++ [x])), ⟨4, B.length + 1, false⟩) := by
  have h1 := hA.frames (by omega)
  have h2 := hB.frames (by omega)
  have h3 := frame_few B.length x (by have := hB.len; omega) hx
  rw [← pl_none, pl_append 5000 (two A B) none 4 B.length x (by omega) (by omega) (by rw [two_used]; omega) (.inl rfl), two_4]
  have e : gset (two A B) 4 (framesJ 0 B ++ frameJ B.length x) = two A (B ++ [x]) := by
    unfold two
    rw [gset_gset, ← framesJ_snoc0]
  rw [e]
  rfl
theorem two_open3 {A B : List (List UInt8)} (hA : Few A 6) : openJ (hd 5000 (two A B)) ((3 : Nat) : Int) = (0, hd 5000 (two A B), A) :=
  hd_open_full 5000 _ (by omega) A (two_3 A B) (by have := hA.len; omega) (by have := hA.frames (by omega); omega)
theorem two_open4 {A B : List (List UInt8)} (hB : Few B 6) : openJ (hd 5000 (two A B)) ((4 : Nat) : Int) = (0, hd 5000 (two A B), B) :=
  hd_open_full 5000 _ (by omega) B (two_4 A B) (by have := hB.len; omega) (by have := hB.frames (by omega); omega)
theorem two_start {r : List UInt8} (hr : r.length ≤ 3) : ∃ s, appendD (newD 5000) ((4 : Nat) : Int) r = (0, s) ∧ openJ s ((3 : Nat) : Int) = (0, hd 5000 (gset noG 4 r), []) ∧ (readD s ((3 : Nat) : Int)).1 = [] ∧
    openJ (hd 5000 (gset noG 4 r)) ((4 : Nat) : Int) = (0, hd 5000 (two [] []), []) := by
  have h1 := pl_appendD 5000 noG none (f := 4) r (by omega) (by rw [usedG_no]; omega)
  have h2 : ((pl 5000 noG none).app 4 r).step = (true, (pl 5000 noG none).app 4 r) := rfl
  rw [h2, if_pos rfl] at h1
  have h3 : readD ((pl 5000 noG none).app 4 r) ((3 : Nat) : Int) = ([], 0) := by
    rw [readD, if_neg (by omega), if_neg (by show ¬ false = true; simp)]
    rfl
  refine ⟨(pl 5000 noG none).app 4 r, h1, ?_, by rw [h3], ?_⟩
  · rw [openJ, h3]
    dsimp only
    rw [if_neg (by simp), scanJ_short 0 [] (by simp), cutTo, if_neg (by simp), openT]
    have h4 : syncD ((pl 5000 noG none).app 4 r) = (0, ((pl 5000 noG none).app 4 r).hard) := rfl
    dsimp only
    rw [if_neg (by simp), h4, hd_app_hard]
    rfl
  · rw [hd_open 5000 _ (by omega), gset_same, scanJ_short 0 r (by omega), gset_gset]
    dsimp only
    rw [List.take_zero]
    have : two [] [] = gset noG 4 [] := by
      have h := one_nil 3
      unfold one at h
      unfold two
      rw [h, framesJ_nil]
    rw [this]
theorem take_more (X : List (List UInt8)) (i : Nat) (hi : i < X.length) : X.take (i + 1) = X.take i ++ [X[i]] := List.take_succ_eq_append_getElem hi
theorem take_same (X : List (List UInt8)) (i : Nat) (hi : ¬ i < X.length) : X.take (i + 1) = X.take i := by rw [List.take_of_length_le (by omega), List.take_of_length_le (by omega)]
/-- The state of the first loop. -/
def apS (p qa qb : Nat) (X Y : List (List UInt8)) (i j : Nat) : Assn := sep (isLog qa p ⟨3, (X.take i).length, false⟩) (sep (isLog qb p ⟨4, (Y.take j).length, false⟩) (isDisk p (hd 5000 (two (X.take i) (Y.take j)))))
theorem apA {W w : World} {I : Mem} {p qa qb : Nat} {X Y : List (List UInt8)} (hX : Few X 6) (hY : Few Y 6) (i j : Nat) (hi : i < X.length) (gv : Value) (hgr : rBytes.rel I [gv] X[i]) (h : Sat W w (sep (apS p qa qb X Y i j) (sep (kn I) emp))) :
    Calls Try.prog 32 #[.pointer (some ⟨qa, 0, none⟩), gv] w fun e w' => e = .returned (.int .i64 0) ∧ Sat W w' (sep (apS p qa qb X Y (i + 1) j) (sep (kn I) emp)) := by
  have hx := hX.each _ (List.getElem_mem hi)
  unfold apS at h ⊢
  have hjs := jappend_spec qa p (hd 5000 (two (X.take i) (Y.take j))) ⟨3, (X.take i).length, false⟩ gv X[i] (A := sep (isLog qb p ⟨4, (Y.take j).length, false⟩) emp) (by simpa only [sep_comm, sep_lcomm, sep_assoc] using h) hgr (by omega) (by show (X.take i).length ≤ _; have := (hX.take i).len; omega)
  rw [two_a (hX.take i) (hY.take j) _ hx, ← take_more X i hi] at hjs
  refine hjs.mono ?_
  rintro e w' ⟨rfl, h2⟩
  refine ⟨rfl, ?_⟩
  dsimp only at h2
  have e : (X.take i).length + 1 = (X.take (i + 1)).length := by rw [List.length_take, List.length_take]; omega
  rw [e] at h2
  simpa only [sep_comm, sep_lcomm, sep_assoc] using h2
theorem apB {W w : World} {I : Mem} {p qa qb : Nat} {X Y : List (List UInt8)} (hX : Few X 6) (hY : Few Y 6) (i j : Nat) (hj : j < Y.length) (gv : Value) (hgr : rBytes.rel I [gv] Y[j]) (h : Sat W w (sep (apS p qa qb X Y i j) (sep (kn I) emp))) :
    Calls Try.prog 32 #[.pointer (some ⟨qb, 0, none⟩), gv] w fun e w' => e = .returned (.int .i64 0) ∧ Sat W w' (sep (apS p qa qb X Y i (j + 1)) (sep (kn I) emp)) := by
  have hx := hY.each _ (List.getElem_mem hj)
  unfold apS at h ⊢
  have hjs := jappend_spec qb p (hd 5000 (two (X.take i) (Y.take j))) ⟨4, (Y.take j).length, false⟩ gv Y[j] (A := sep (isLog qa p ⟨3, (X.take i).length, false⟩) emp) (by simpa only [sep_comm, sep_lcomm, sep_assoc] using h) hgr (by omega) (by show (Y.take j).length ≤ _; have := (hY.take j).len; omega)
  rw [two_b (hX.take i) (hY.take j) _ hx, ← take_more Y j hj] at hjs
  refine hjs.mono ?_
  rintro e w' ⟨rfl, h2⟩
  refine ⟨rfl, ?_⟩
  dsimp only at h2
  have e : (Y.take j).length + 1 = (Y.take (j + 1)).length := by rw [List.length_take, List.length_take]; omega
  rw [e] at h2
  simpa only [sep_comm, sep_lcomm, sep_assoc] using h2
set_option maxRecDepth 100000 in
set_option maxHeartbeats 8000000 in
theorem journalApart_walk (a0 : Option Addr) (len0 cap0 : Nat) (z0 : List Int) (a1 : Option Addr) (len1 cap1 : Nat) (z1 : List Int) (a2 : Option Addr) (len2 cap2 : Nat) (z2 : List Int) (w : World)
    (w0 : IsArg w a0 len0 cap0 z0) (w1 : IsArg w a1 len1 cap1 z1) (w2 : IsArgB w a2 len2 cap2 z2) :
    Calls Try.prog 9 #[.slice a0 len0 cap0, .slice a1 len1 cap1, .slice a2 len2 cap2] w fun e w' => e = .returned (.bool true) ∧ Below w.heap.size w w' := by
  obtain ⟨ns, hns, hr0, h64⟩ := argI w0
  obtain ⟨ms, hms, hr1, h64'⟩ := argI w1
  obtain ⟨b, hb, hr2⟩ := argB w2
  have HR := Lib.hid (And.intro hr0 (And.intro h64 (And.intro hr1 (And.intro h64' hr2))))
  have HF := Lib.hid (fresh_spec 5000 (Sat.startKn w) (by omega))
  clear w0 w1 w2 hns hr0 h64 hms hr1 h64' hb hr2
  go_enter Try.func9, Try.ntmps9
  go_wp2_with fail
  refine HF.out.mono ?_
  rintro e w2 ⟨p, rfl, h2⟩
  have HFEW := Lib.hid (few_spec _ b 3 h2.p1 HR.out.2.2.2.2 (by omega))
  clear HF h2
  go_wp2_with fail
  refine HFEW.out.mono ?_
  rintro e w3 ⟨ba, bc, rfl, h3⟩
  obtain ⟨I1, hI1, hb1, h4⟩ := h3.bytes_of_osl.2.learn
  obtain ⟨r, hr⟩ : ∃ r, r = b.take 3 := ⟨_, rfl⟩
  have hrl : r.length ≤ 3 := by rw [hr, List.length_take]; omega
  rw [← hr] at hb1 ⊢
  obtain ⟨s, hs1, hs2, hs3, hs4⟩ := two_start hrl
  have hda := dappend_spec p (newD 5000) ((4 : Nat) : Int) _ r h4.p1 hb1 (by omega)
  rw [hs1] at hda
  have HDA := Lib.hid hda
  have HS := Lib.hid (And.intro hs2 (And.intro hs3 hs4))
  obtain ⟨rl, hrl2⟩ : ∃ rl, rl = r.length := ⟨_, rfl⟩
  rw [← hrl2] at hrl HDA ⊢
  have HI1 := Lib.hid hI1
  have HRL := Lib.hid hrl2
  clear HFEW h3 h4 hI1 hb1 hr hs1 hs2 hs3 hs4 hda hrl2
  go_wp2_with fail
  refine HDA.out.mono ?_
  rintro e w4 ⟨rfl, h5⟩
  have HO3 := Lib.hid (jopen_ok p s _ 3 [] h5 HS.out.1 (by rw [HS.out.2.1]; simp))
  clear HDA h5
  go_wp2_with fail
  refine HO3.out.mono ?_
  rintro e w5 ⟨qa, fa, fc, I2, rfl, hI2, -, h6⟩
  have HO4 := Lib.hid (jopen_ok p (hd 5000 (gset noG 4 r)) _ 4 [] h6.p2 HS.out.2.2 (by rw [← pl_none, hd_read _ _ _ (by omega), gset_same]; have := HRL.out; show r.length ≤ _; omega))
  have HI2 := Lib.hid (Mem.le_trans HI1.out hI2)
  clear HO3 h6 hI2
  go_wp2_with fail
  refine HO4.out.mono ?_
  rintro e w6 ⟨qb, sa, sc, I3, rfl, hI3, -, h7⟩
  have HI3 := Lib.hid (Mem.le_trans HI2.out hI3)
  have h8 : Sat w w6 (sep (kn I3) (sep (isLog qa p ⟨3, 0, false⟩) (sep (isLog qb p ⟨4, 0, false⟩) (sep (isDisk p (hd 5000 (two [] []))) emp)))) := by
    have h9 : Sat w w6 (sep (kn I3) (sep (isLog qb p ⟨4, 0, false⟩) (sep (isDisk p (hd 5000 (two [] []))) (sep (isLog qa p ⟨3, 0, false⟩) emp)))) := h7
    simpa only [sep_comm, sep_lcomm, sep_assoc] using h9
  have HRE := Lib.hid (records30_spec _ ns h8 ((rInt.slice 1).mono HI3.out HR.out.1) HR.out.2.1)
  clear HO4 hI3 h7 h8 HS
  go_wp2_with fail
  refine HRE.out.mono ?_
  rintro e w7 ⟨xa, xc, vs0, X, rfl, hxl, hx10, h9⟩
  obtain ⟨nx, hnx⟩ : ∃ nx, nx = X.length := ⟨_, rfl⟩
  have hnx6 : nx ≤ 6 := by omega
  have h10 := h9.slice_of_osl (R := rBytes) (k := 1) rfl
  rw [← hnx] at h10 ⊢
  obtain ⟨I4, hI4, hxx, h11⟩ := h10.learn
  have HX : Hid (Few X 6) := Lib.hid ⟨by omega, fun x hx => by have := hx10 x hx; omega⟩
  have HXl := Lib.hid hnx
  have HRE2 := Lib.hid (records30_spec _ ms h11 ((rInt.slice 1).mono (Mem.le_trans HI3.out hI4) HR.out.2.2.1) HR.out.2.2.2.1)
  clear HRE h9 h10 h11 hxl hx10 hnx hI4
  go_wp2_with fail
  refine HRE2.out.mono ?_
  rintro e w8 ⟨ya, yc, vs1, Y, rfl, hyl, hy10, h12⟩
  obtain ⟨ny, hny⟩ : ∃ ny, ny = Y.length := ⟨_, rfl⟩
  have hny6 : ny ≤ 6 := by omega
  have h13 := h12.slice_of_osl (R := rBytes) (k := 1) rfl
  rw [← hny] at h13 ⊢
  obtain ⟨I5, hI5, hyy, h14⟩ := h13.learn
  have HY : Hid (Few Y 6) := Lib.hid ⟨by omega, fun y hy => by have := hy10 y hy; omega⟩
  have HYl := Lib.hid hny
  have HXX := Lib.hid (And.intro ((rBytes.slice 1).mono hI5 hxx) hyy)
  have H0 : Hid (Sat w w8 (sep (apS p qa qb X Y 0 0) (sep (kn I5) emp))) := Lib.hid (by
    unfold apS
    rw [List.take_zero, List.take_zero]
    simpa only [sep_comm, sep_lcomm, sep_assoc, List.length_nil] using h14)
  clear HRE2 h12 h13 h14 hyl hy10 hny hI5 hxx hyy
  go_wp2_with fail
  go_loopw [16] (fun iv wr => ∃ i : Nat, i ≤ 6 ∧ iv = .int .i64 (i : Nat) ∧ Sat w wr (sep (apS p qa qb X Y i i) (sep (kn I5) emp))) (fun iv _ => 6 - (intOf iv).toNat)
  case atStart => exact ⟨0, Nat.zero_le _, rfl, H0.out⟩
  case round =>
    clear H0
    obtain ⟨i, hi, rfl, hS⟩ := hrel
    have HS := Lib.hid hS
    clear hS
    by_cases hlt : i < 6
    · have g1 : (i : Int) < 6 := by omega
      by_cases hx : i < nx
      · have g2 : (i : Int) < (nx : Int) := by omega
        have hiX : i < X.length := by have := HXl.out; omega
        obtain ⟨gb, go, gv, rfl, hcellU, hgr⟩ := slice_elemU HXX.out.1 i hiX
        have hcell := hcellU wr HS.out.p1.ext
        have HA := Lib.hid (apA HX.out HY.out i i hiX gv hgr HS.out)
        clear hcellU hgr hiX
        by_cases hy : i < ny
        · have g3 : (i : Int) < (ny : Int) := by omega
          have hiY : i < Y.length := by have := HYl.out; omega
          clear HS hx
          go_wp2_with fail
          refine HA.out.mono ?_
          rintro e w9 ⟨rfl, h15⟩
          obtain ⟨gb2, go2, gv2, rfl, hcellU2, hgr2⟩ := slice_elemU HXX.out.2 i hiY
          have hcell2 := hcellU2 w9 h15.p1.ext
          have HB := Lib.hid (apB HX.out HY.out (i + 1) i hiY gv2 hgr2 h15)
          clear hcellU2 hgr2 hiY h15 hcell HA hy
          go_wp2_with fail
          refine HB.out.mono ?_
          rintro e w10 ⟨rfl, h16⟩
          have H16 := Lib.hid h16
          clear h16 HB
          go_wp2_with fail
          go_roundw
          case rel => exact ⟨i + 1, by omega, by go_num, H16.out⟩
          case measure => simp [intOf]; omega
        · have g3 : ¬ (i : Int) < (ny : Int) := by omega
          have hiY : ¬ i < Y.length := by have := HYl.out; omega
          have e2 := take_same Y i hiY
          have HE := Lib.hid e2
          clear HS hx hy hiY e2
          go_wp2_with fail
          refine HA.out.mono ?_
          rintro e w9 ⟨rfl, h15⟩
          have H16 : Hid (Sat w w9 (sep (apS p qa qb X Y (i + 1) (i + 1)) (sep (kn I5) emp))) := Lib.hid (by
            unfold apS at h15 ⊢
            rw [HE.out]; exact h15)
          clear h15 hcell HA
          go_wp2_with fail
          go_roundw
          case rel => exact ⟨i + 1, by omega, by go_num, H16.out⟩
          case measure => simp [intOf]; omega
      · have g2 : ¬ (i : Int) < (nx : Int) := by omega
        have hiX : ¬ i < X.length := by have := HXl.out; omega
        have HE1 := Lib.hid (take_same X i hiX)
        by_cases hy : i < ny
        · have g3 : (i : Int) < (ny : Int) := by omega
          have hiY : i < Y.length := by have := HYl.out; omega
          obtain ⟨gb2, go2, gv2, rfl, hcellU2, hgr2⟩ := slice_elemU HXX.out.2 i hiY
          have hcell2 := hcellU2 wr HS.out.p1.ext
          have HB := Lib.hid (apB HX.out HY.out i i hiY gv2 hgr2 HS.out)
          clear hcellU2 hgr2 hiY HS hy hiX hx
          go_wp2_with fail
          refine HB.out.mono ?_
          rintro e w10 ⟨rfl, h16⟩
          have H16 : Hid (Sat w w10 (sep (apS p qa qb X Y (i + 1) (i + 1)) (sep (kn I5) emp))) := Lib.hid (by
            unfold apS at h16 ⊢
            rw [HE1.out]; exact h16)
          clear h16 HB
          go_wp2_with fail
          go_roundw
          case rel => exact ⟨i + 1, by omega, by go_num, H16.out⟩
          case measure => simp [intOf]; omega
        · have g3 : ¬ (i : Int) < (ny : Int) := by omega
          have hiY : ¬ i < Y.length := by have := HYl.out; omega
          have HE2 := Lib.hid (take_same Y i hiY)
          have H16 : Hid (Sat w wr (sep (apS p qa qb X Y (i + 1) (i + 1)) (sep (kn I5) emp))) := Lib.hid (by
            have := HS.out
            unfold apS at this ⊢
            rw [HE1.out, HE2.out]; exact this)
          clear HS hy hiX hx hiY
          go_wp2_with fail
          go_roundw
          case rel => exact ⟨i + 1, by omega, by go_num, H16.out⟩
          case measure => simp [intOf]; omega
    · have g1 : ¬ (i : Int) < 6 := by omega
      obtain rfl : i = 6 := by omega
      have hS2 : Sat w wr (sep (isDisk p (hd 5000 (two X Y))) (sep (kn I5) emp)) := by
        have h1 := HS.out
        unfold apS at h1
        rw [List.take_of_length_le (show X.length ≤ 6 from HX.out.len), List.take_of_length_le (show Y.length ≤ 6 from HY.out.len)] at h1
        have h2 : Sat w wr (sep (isLog qa p ⟨3, X.length, false⟩) (sep (isLog qb p ⟨4, Y.length, false⟩) (sep (isDisk p (hd 5000 (two X Y))) (sep (kn I5) emp)))) := by simpa only [sep_comm, sep_lcomm, sep_assoc] using h1
        exact h2.drop.drop
      have hcr := dcrash_spec p _ none 0 0 [] (-1) hS2 (ints_rel.2 ⟨none, 0, rfl, ⟨Nat.le_refl _, Nat.zero_le _, fun _ => rfl⟩, .inl rfl⟩) (by intro x hx; cases hx) ⟨by omega, by omega⟩
      have hok : (hd 5000 (two X Y)).ok := isDisk_ok hS2
      have hpc := pl_crash 5000 (two X Y) none hok [] (-1)
      rw [pl_none] at hpc
      rw [hpc] at hcr
      have HCR := Lib.hid hcr
      clear HS hS2 hcr hok hi hlt hpc
      go_wp2_with fail
      refine HCR.out.mono ?_
      rintro e w9 ⟨rfl, h15⟩
      have H15 := Lib.hid h15
      clear HCR h15 g1
      go_wp2_with fail
      go_loopw [17] (fun iv wr => ∃ (i : Nat) (J : Mem), i ≤ 2 ∧ iv = .int .i64 (i : Nat) ∧ Hid (Mem.le I5 J) ∧ Sat w wr (sep (isDisk p (hd 5000 (two X Y))) (sep (kn J) emp))) (fun iv _ => 2 - (intOf iv).toNat)
      case atStart => exact ⟨0, I5, Nat.zero_le _, rfl, Lib.hid (Mem.le_refl _), H15.out⟩
      case round =>
        clear H15
        obtain ⟨i, J, hi, rfl, HJ, hS⟩ := hrel
        by_cases hlt : i < 2
        · have g1 : (i : Int) < 2 := by omega
          have hX2 := HX.out.frames (by omega)
          have hY2 := HY.out.frames (by omega)
          have HO3 := Lib.hid (jopen_ok p _ _ 3 X hS (two_open3 HX.out) (by rw [← pl_none, hd_read _ _ _ (by omega), two_3]; show (framesJ 0 X).length ≤ _; omega))
          rw [← HXl.out] at HO3
          clear hS hlt hX2 hY2
          go_wp2_with fail
          refine HO3.out.mono ?_
          rintro e w10 ⟨q3, pa, pc, J3, rfl, hJ3, hp, h16⟩
          have hY2 := HY.out.frames (by omega)
          have HO4 := Lib.hid (jopen_ok p _ _ 4 Y h16.p2 (two_open4 HY.out) (by rw [← pl_none, hd_read _ _ _ (by omega), two_4]; show (framesJ 0 Y).length ≤ _; omega))
          rw [← HYl.out] at HO4
          have HP := Lib.hid (And.intro hJ3 hp)
          clear HO3 h16 hJ3 hp hY2
          go_wp2_with fail
          refine HO4.out.mono ?_
          rintro e w11 ⟨q4, sa4, sc4, J4, rfl, hJ4, hq4, h17⟩
          have HL3 := Lib.hid (lists_kn _ _ X h17 ((rBytes.slice 1).mono hJ4 HP.out.2) ((rBytes.slice 1).mono (Mem.le_trans HJ.out (Mem.le_trans HP.out.1 hJ4)) HXX.out.1))
          have HQ4 := Lib.hid (And.intro (Mem.le_trans HJ.out (Mem.le_trans HP.out.1 hJ4)) hq4)
          clear HO4 h17 hJ4 hq4 HP
          go_wp2_with fail
          refine HL3.out.mono ?_
          rintro e w12 ⟨rfl, h18⟩
          have HL4 := Lib.hid (lists_kn _ _ Y h18 HQ4.out.2 ((rBytes.slice 1).mono HQ4.out.1 HXX.out.2))
          clear HL3 h18
          go_wp2_with fail
          refine HL4.out.mono ?_
          rintro e w13 ⟨rfl, h19⟩
          have h20 : Sat w w13 (sep (isDisk p (hd 5000 (two X Y))) (sep (kn J4) emp)) := by
            have h21 : Sat w w13 (sep (isLog q4 p ⟨4, Y.length, false⟩) (sep (isLog q3 p ⟨3, X.length, false⟩) (sep (isDisk p (hd 5000 (two X Y))) (sep (kn J4) emp)))) := by
              rw [← HYl.out, ← HXl.out]
              simpa only [sep_comm, sep_lcomm, sep_assoc] using h19
            exact h21.drop.drop
          have H20 := Lib.hid h20
          clear HL4 h19 h20
          go_wp2_with fail
          go_roundw
          case rel => exact ⟨i + 1, J4, by omega, by go_num, Lib.hid HQ4.out.1, H20.out⟩
          case measure => simp [intOf]; omega
        · have g1 : ¬ (i : Int) < 2 := by omega
          have HLI := Lib.hid (lives30_spec hS.p1)
          clear hS hlt
          go_wp2_with fail
          refine HLI.out.mono ?_
          rintro e w21 ⟨rfl, h27⟩
          go_wp2_with fail
          go_ret
          exact ⟨rfl, h27.below⟩
end Go.Proofs.Ytdaknmcmjnbfeaa
