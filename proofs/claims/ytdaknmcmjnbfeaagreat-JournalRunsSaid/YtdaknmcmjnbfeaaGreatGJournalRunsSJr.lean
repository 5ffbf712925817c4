/- The reference's log on its disk: Open and Append. -/
import Derived.Test.YtdaknmcmjnbfeaaGreatGJournalRunsSR8
import Derived.Test.YtdaknmcmjnbfeaaGreatGJournalRunsSL5
namespace Go.Proofs.YtdaknmcmjnbfeaaGreat
open Go.RowKit PA
def ptrO : Option Nat → Value
  | none => .pointer none
  | some q => .pointer (some ⟨q, 0, none⟩)
def isRLog (q p : Nat) (L : LSt) : Assn := blk q (.cells #[.pointer (some ⟨p, 0, none⟩), .int .i64 (L.file : Nat), .int .i64 (L.n : Nat), .bool L.down] 44 (0, 0))
def logO (p : Nat) (L : LSt) : Option Nat → Assn
  | none => emp
  | some q => isLog q p L
def rlogO (p : Nat) (L : LSt) : Option Nat → Assn
  | none => emp
  | some q => isRLog q p L
def recs (r : Int × DSt × List (List UInt8)) : LSt := ⟨2, r.2.2.length, false⟩
theorem nil_lists (I : Mem) : (rBytes.slice 1).rel I [.slice none 0 0] [] := ⟨none, 0, [], rfl, ⟨Nat.le_refl _, Nat.zero_le _, fun _ => rfl⟩, .inl rfl, [], rfl, trivial⟩
theorem openJ_err (s : DSt) (f : Int) (h : (openJ s f).1 ≠ 0) : (openJ s f).2.2 = [] := by
  unfold openJ openT at h ⊢
  split
  · rfl
  · rename_i h1
    rw [if_neg h1] at h
    split
    · rfl
    · rename_i h2
      rw [if_neg h2] at h
      split
      · rfl
      · rename_i h3
        rw [if_neg h3] at h
        exact absurd rfl h
/-- Open, both ends in one form. -/
theorem jopen_both {W w : World} {A : Assn} {I : Mem} (p : Nat) (s : DSt) (h : Sat W w (sep (isDisk p s) (sep (kn I) A))) (hlen : (readD s 2).1.length ≤ 1000000) :
    Calls Tryz.prog 7 #[.pointer (some ⟨p, 0, none⟩), .int .i64 2] w fun e w' => ∃ (o : Option Nat) (u : Value) (J : Mem), e = .returned (.tuple #[ptrO o, u, .int .i64 (openJ s 2).1]) ∧ o.isSome = decide ((openJ s 2).1 = 0) ∧ Mem.le I J ∧ (rBytes.slice 1).rel J [u] (openJ s 2).2.2 ∧
      Sat W w' (sep (kn J) (sep (logO p (recs (openJ s 2)) o) (sep (isDisk p (openJ s 2).2.1) A))) := by
  refine (jopen_spec p s 2 h hlen).mono ?_
  rintro e w' ⟨h1, h2⟩
  by_cases hz : (openJ s 2).1 = 0
  · obtain ⟨q, u, rfl, h3⟩ := h1 hz
    obtain ⟨J, hJ, hu, h4⟩ := (show Sat W w' (sep ((rBytes.slice 1).is [u] (openJ s 2).2.2) (sep (kn I) (sep (isLog q p ⟨(2 : Int).toNat, (openJ s 2).2.2.length, false⟩) (sep (isDisk p (openJ s 2).2.1) A)))) by simpa only [sep_comm, sep_lcomm, sep_assoc] using h3).learn
    exact ⟨some q, u, J, by rw [hz]; rfl, by rw [decide_eq_true hz]; rfl, hJ, hu, h4⟩
  · obtain ⟨rfl, h3⟩ := h2 hz
    have he := openJ_err s 2 hz
    refine ⟨none, .slice none 0 0, I, rfl, by rw [decide_eq_false hz]; rfl, Mem.le_refl _, by rw [he]; exact nil_lists I, ?_⟩
    show Sat W w' (sep (kn I) (sep emp (sep (isDisk p (openJ s 2).2.1) A)))
    rw [emp_sep]
    simpa only [sep_comm, sep_lcomm, sep_assoc] using h3
theorem scan_any_r {W w : World} {A : Assn} {I : Mem} {v : Value} {l : List UInt8} (h : Sat W w (sep (kn I) A)) (hv : rBytes.rel I [v] l) (hl : l.length ≤ 1000000) :
    Calls Tryz.prog 26 #[v] w fun e w' => ∃ a c J, e = .returned (.tuple #[.slice a (scanJ 0 l).1.length c, .int .i64 ((scanJ 0 l).2 : Nat)]) ∧ Mem.le I J ∧ (rBytes.slice 1).rel J [.slice a (scanJ 0 l).1.length c] (scanJ 0 l).1 ∧ Sat W w' (sep (kn J) A) := by
  refine (rscan_spec v l h hv hl).mono ?_
  rintro e w' ⟨u, rfl, h1⟩
  obtain ⟨J, hJ, hu, h2⟩ := h1.learn
  obtain ⟨a, c, rfl, -⟩ := slice_form' hu
  exact ⟨a, c, J, rfl, hJ, hu, h2⟩
set_option maxRecDepth 100000 in
set_option maxHeartbeats 4000000 in
theorem ropen_spec {W w : World} {A : Assn} {I : Mem} (p : Nat) (s : DSt) (h : Sat W w (sep (isRD p s) (sep (kn I) A))) (hlen : (s.fs 2).1.length ≤ 1000000) :
    Calls Tryz.prog 8 #[.pointer (some ⟨p, 0, none⟩), .int .i64 2] w fun e w' => ∃ (o : Option Nat) (u : Value) (J : Mem), e = .returned (.tuple #[ptrO o, u, .int .i64 (openJ s 2).1]) ∧ o.isSome = decide ((openJ s 2).1 = 0) ∧ Mem.le I J ∧ (rBytes.slice 1).rel J [u] (openJ s 2).2.2 ∧
      Sat W w' (sep (kn J) (sep (rlogO p (recs (openJ s 2)) o) (sep (isRD p (openJ s 2).2.1) A))) := by
  obtain ⟨B, F, V, hok, h0⟩ := isRD_open h
  have c3 : w.cell? ⟨p, 3, none⟩ = some (.bool s.off) := h0.cell 3
  have c1 : w.cell? ⟨p, 1, none⟩ = some (.slice (some ⟨B, 0, none⟩) 64 64) := h0.cell 1
  cases hoff : s.off with
  | true =>
    rw [hoff] at c3
    have he : openJ s 2 = (19, s, []) := by
      have : readD s 2 = ([], 19) := by rw [readD, if_neg (by omega), if_pos hoff]
      rw [openJ, this]; rfl
    have HE := Lib.hid (And.intro he h)
    clear h0 h he hoff hok c1 hlen
    go_enter Tryz.func8, Tryz.ntmps8
    go_wp2_with fail
    refine bodyPost_ret (results_tmp3 rfl _ _ _) rfl ?_
    rw [HE.out.1]
    refine ⟨none, .slice none 0 0, I, rfl, rfl, Mem.le_refl _, nil_lists I, ?_⟩
    show Sat W _ (sep (kn I) (sep emp (sep (isRD p s) A)))
    rw [emp_sep]
    have := HE.out.2
    simpa only [sep_comm, sep_lcomm, sep_assoc] using this
  | false =>
    rw [hoff] at c3
    obtain ⟨ba, bc, hV, hsw, h1⟩ := fokr_at h0.p3 (j := 2) (by omega)
    have hop : openJ s 2 = openT (cutTo s 2 (scanJ 0 (s.fs 2).1).2 (s.fs 2).1.length) (scanJ 0 (s.fs 2).1).1 := by
      have : readD s 2 = ((s.fs 2).1, 0) := by rw [readD, if_neg (by omega), hoff, if_neg (by simp)]; rfl
      rw [openJ, this]; rfl
    obtain ⟨bs, hbs⟩ : ∃ bs, bs = (s.fs 2).1 := ⟨_, rfl⟩
    rw [← hbs] at hV hsw h1 hop hlen
    obtain ⟨rs, hrs⟩ : ∃ rs, rs = (scanJ 0 bs).1 := ⟨_, rfl⟩
    obtain ⟨sc, hsc⟩ : ∃ sc, sc = (scanJ 0 bs).2 := ⟨_, rfl⟩
    obtain ⟨bl, hbl⟩ : ∃ bl, bl = bs.length := ⟨_, rfl⟩
    rw [← hrs, ← hsc, ← hbl] at hop
    rw [← hbl] at hV hsw h1
    have hscb : sc ≤ 1000000 := by rw [hsc]; have := (scanJ_le bs.length 0 bs (Nat.le_refl _)).1; omega
    obtain ⟨J, hJ, hr, h2⟩ := (show Sat W w (sep (rBytes.is [.slice ba bl bc] bs) (sep (kn I) (sep (blk p (.cells (rdC B F s) 50 (0, 0))) (sep (blk B (.cells (rowC V) 39 (0, 0))) (sep (blk F (.cells (rowC (firmV s.fs)) 3 (0, 0))) (sep (fokr V s.fs) A)))))) from by
      simpa only [sep_comm, sep_lcomm, sep_assoc] using h1).learn
    have b2 : w.cell? ⟨B, 2, none⟩ = some (.slice ba bl bc) := by rw [h2.p2.cell 2, rowC_get _ (by omega), hV]
    have hscan := scan_any_r h2 hr (by rw [hbs]; rw [hbs] at hlen; exact hlen)
    rw [← hrs, ← hsc] at hscan
    have HSC := Lib.hid hscan
    have HB := Lib.hid (And.intro hJ (And.intro hok hV))
    have HOP := Lib.hid hop
    clear h0 h h1 h2 hr hscan hJ hok hsw hlen hrs hsc hbs hbl hoff
    go_enter Tryz.func8, Tryz.ntmps8
    go_wp2_with fail
    refine HSC.out.mono ?_
    rintro e w3 ⟨ua, uc, J2, rfl, hJ2, hu, h4⟩
    have d1 : w3.cell? ⟨p, 1, none⟩ = some (.slice (some ⟨B, 0, none⟩) 64 64) := h4.p1.cell 1
    have d2 : w3.cell? ⟨B, 2, none⟩ = some (.slice ba bl bc) := by rw [h4.p2.cell 2, rowC_get _ (by omega), HB.out.2.2]
    have h5 : Sat W w3 (sep (isRD p s) (sep (kn J2) A)) := isRD_mk HB.out.2.1 (show Sat W w3 (sep (blk p (.cells (rdC B F s) 50 (0, 0))) (sep (blk B (.cells (rowC V) 39 (0, 0))) (sep (blk F (.cells (rowC (firmV s.fs)) 3 (0, 0))) (sep (fokr V s.fs) (sep (kn J2) A))))) from by
      simpa only [sep_comm, sep_lcomm, sep_assoc] using h4)
    have H5 := Lib.hid h5
    have HU := Lib.hid (And.intro (Mem.le_trans HB.out.1 hJ2) hu)
    obtain ⟨rl, hrl⟩ : ∃ rl, rl = rs.length := ⟨_, rfl⟩
    rw [← hrl] at HU ⊢
    have HRL := Lib.hid hrl
    clear HSC h4 h5 hJ2 hu hrl c1 c3 b2 HB hV
    by_cases hcut : sc < bl
    · have g1 : (sc : Int) < (bl : Int) := by omega
      have hct : cutTo s 2 sc bl = truncD s 2 sc := by rw [cutTo, if_pos hcut]
      rw [hct] at HOP
      have HTR := Lib.hid (rdtrunc_spec p s 2 (sc : Int) H5.out)
      obtain ⟨⟨e1, s1⟩, ht⟩ : ∃ t, t = truncD s 2 sc := ⟨_, rfl⟩
      rw [← ht] at HTR HOP
      dsimp only at HTR
      clear hct hcut ht H5
      go_wp2_with fail
      refine HTR.out.mono ?_
      rintro e w4 ⟨rfl, h6⟩
      have H6 := Lib.hid h6
      clear HTR h6 d1 d2
      by_cases hz1 : e1 = 0
      · subst hz1
        have HSY := Lib.hid (rdsync_spec p s1 H6.out)
        obtain ⟨⟨e2, s2⟩, ht2⟩ : ∃ t, t = syncD s1 := ⟨_, rfl⟩
        rw [← ht2] at HSY
        dsimp only at HSY
        have HT2 := Lib.hid ht2
        clear H6 ht2
        go_wp2_with fail
        refine HSY.out.mono ?_
        rintro e w5 ⟨rfl, h7⟩
        by_cases hz2 : e2 = 0
        · subst hz2
          have hfin : openJ s 2 = (0, s2, rs) := by rw [HOP.out, openT, ← HT2.out]; simp
          have h8 := h7.alloc (.cells #[.pointer (some ⟨p, 0, none⟩), .int .i64 2, .int .i64 (rl : Nat), .bool false] 44)
          have HFIN := Lib.hid hfin
          clear hfin HSY h7
          go_wp2_with fail
          refine bodyPost_ret (results_tmp3 rfl _ _ _) rfl ?_
          rw [HFIN.out]
          refine ⟨some w5.heap.size, .slice ua rl uc, J2, rfl, rfl, HU.out.1, HU.out.2, ?_⟩
          rw [recs]
          show Sat W _ (sep (kn J2) (sep (blk w5.heap.size (.cells #[.pointer (some ⟨p, 0, none⟩), .int .i64 ((2 : Nat) : Int), .int .i64 (rs.length : Nat), .bool false] 44 (0, 0))) (sep (isRD p s2) A)))
          rw [← HRL.out]
          have h9 : Sat W _ (sep (blk w5.heap.size (.cells #[.pointer (some ⟨p, 0, none⟩), .int .i64 ((2 : Nat) : Int), .int .i64 (rl : Nat), .bool false] 44 (0, 0))) (sep (isRD p s2) (sep (kn J2) A))) := h8
          simpa only [sep_comm, sep_lcomm, sep_assoc] using h9
        · have b2 : (e2 == 0) = false := by simp [hz2]
          have b3 : (e2 != 0) = true := by simp [hz2]
          have hfin : openJ s 2 = (e2, s2, []) := by rw [HOP.out, openT, ← HT2.out]; simp [hz2]
          have HFIN := Lib.hid (And.intro hfin (And.intro hz2 h7))
          clear hfin hz2 HSY h7
          go_wp2_with fail
          refine bodyPost_ret (results_tmp3 rfl _ _ _) rfl ?_
          rw [HFIN.out.1]
          refine ⟨none, .slice none 0 0, J2, rfl, by rw [decide_eq_false HFIN.out.2.1]; rfl, HU.out.1, nil_lists J2, ?_⟩
          show Sat W _ (sep (kn J2) (sep emp (sep (isRD p s2) A)))
          rw [emp_sep]
          have := HFIN.out.2.2
          simpa only [sep_comm, sep_lcomm, sep_assoc] using this
      · have b2 : (e1 == 0) = false := by simp [hz1]
        have b3 : (e1 != 0) = true := by simp [hz1]
        have hfin : openJ s 2 = (e1, s1, []) := by rw [HOP.out, openT]; simp [hz1]
        have HFIN := Lib.hid (And.intro hfin hz1)
        clear hfin hz1
        go_wp2_with fail
        refine bodyPost_ret (results_tmp3 rfl _ _ _) rfl ?_
        rw [HFIN.out.1]
        refine ⟨none, .slice none 0 0, J2, rfl, by rw [decide_eq_false HFIN.out.2]; rfl, HU.out.1, nil_lists J2, ?_⟩
        show Sat W _ (sep (kn J2) (sep emp (sep (isRD p s1) A)))
        rw [emp_sep]
        have := H6.out
        simpa only [sep_comm, sep_lcomm, sep_assoc] using this
    · have g1 : ¬ (sc : Int) < (bl : Int) := by omega
      have hct : cutTo s 2 sc bl = (0, s) := by rw [cutTo, if_neg hcut]
      rw [hct] at HOP
      have H6 := H5
      clear hct hcut H5
      have HSY := Lib.hid (rdsync_spec p s H6.out)
      obtain ⟨⟨e2, s2⟩, ht2⟩ : ∃ t, t = syncD s := ⟨_, rfl⟩
      rw [← ht2] at HSY
      dsimp only at HSY
      have HT2 := Lib.hid ht2
      clear H6 ht2
      go_wp2_with fail
      refine HSY.out.mono ?_
      rintro e w5 ⟨rfl, h7⟩
      by_cases hz2 : e2 = 0
      · subst hz2
        have hfin : openJ s 2 = (0, s2, rs) := by rw [HOP.out, openT, ← HT2.out]; simp
        have h8 := h7.alloc (.cells #[.pointer (some ⟨p, 0, none⟩), .int .i64 2, .int .i64 (rl : Nat), .bool false] 44)
        have HFIN := Lib.hid hfin
        clear hfin HSY h7
        go_wp2_with fail
        refine bodyPost_ret (results_tmp3 rfl _ _ _) rfl ?_
        rw [HFIN.out]
        refine ⟨some w5.heap.size, .slice ua rl uc, J2, rfl, rfl, HU.out.1, HU.out.2, ?_⟩
        rw [recs]
        show Sat W _ (sep (kn J2) (sep (blk w5.heap.size (.cells #[.pointer (some ⟨p, 0, none⟩), .int .i64 ((2 : Nat) : Int), .int .i64 (rs.length : Nat), .bool false] 44 (0, 0))) (sep (isRD p s2) A)))
        rw [← HRL.out]
        have h9 : Sat W _ (sep (blk w5.heap.size (.cells #[.pointer (some ⟨p, 0, none⟩), .int .i64 ((2 : Nat) : Int), .int .i64 (rl : Nat), .bool false] 44 (0, 0))) (sep (isRD p s2) (sep (kn J2) A))) := h8
        simpa only [sep_comm, sep_lcomm, sep_assoc] using h9
      · have b2 : (e2 == 0) = false := by simp [hz2]
        have b3 : (e2 != 0) = true := by simp [hz2]
        have hfin : openJ s 2 = (e2, s2, []) := by rw [HOP.out, openT, ← HT2.out]; simp [hz2]
        have HFIN := Lib.hid (And.intro hfin (And.intro hz2 h7))
        clear hfin hz2 HSY h7
        go_wp2_with fail
        refine bodyPost_ret (results_tmp3 rfl _ _ _) rfl ?_
        rw [HFIN.out.1]
        refine ⟨none, .slice none 0 0, J2, rfl, by rw [decide_eq_false HFIN.out.2.1]; rfl, HU.out.1, nil_lists J2, ?_⟩
        show Sat W _ (sep (kn J2) (sep emp (sep (isRD p s2) A)))
        rw [emp_sep]
        have := HFIN.out.2.2
        simpa only [sep_comm, sep_lcomm, sep_assoc] using this
set_option maxRecDepth 100000 in
set_option maxHeartbeats 4000000 in
theorem rappend_spec {W w : World} {A : Assn} {I : Mem} (q p : Nat) (d : DSt) (L : LSt) (v : Value) (b : List UInt8) (h : Sat W w (sep (isRLog q p L) (sep (isRD p d) (sep (kn I) A)))) (hv : rBytes.rel I [v] b) (hb : b.length ≤ 65536) (hn : L.n ≤ 1000000000) :
    Calls Tryz.prog 16 #[.pointer (some ⟨q, 0, none⟩), v] w fun e w' => e = .returned (.int .i64 (appendJ d L b).1) ∧ Sat W w' (sep (isRLog q p (appendJ d L b).2.2) (sep (isRD p (appendJ d L b).2.1) (sep (kn I) A))) := by
  obtain ⟨va, vc, rfl, -⟩ := slice_f hv
  have q0 : w.cell? ⟨q, 0, none⟩ = some (.pointer (some ⟨p, 0, none⟩)) := h.cell 0
  have q1 : w.cell? ⟨q, 1, none⟩ = some (.int .i64 (L.file : Nat)) := h.cell 1
  have q2 : w.cell? ⟨q, 2, none⟩ = some (.int .i64 (L.n : Nat)) := h.cell 2
  have q3 : w.cell? ⟨q, 3, none⟩ = some (.bool L.down) := h.cell 3
  have HJ := Lib.hid (show appendJ d L b = _ by rw [appendJ, if_neg (by omega)])
  obtain ⟨bl, hbl⟩ : ∃ bl, bl = b.length := ⟨_, rfl⟩
  rw [← hbl] at hv hb ⊢
  have g1 : ¬ (65536 : Int) < (bl : Int) := by omega
  have HV := Lib.hid hv
  have HB := Lib.hid (And.intro hbl hb)
  have HN := Lib.hid hn
  have H1 := Lib.hid h
  clear h hv hbl hn hb
  cases hdown : L.down with
  | true =>
    rw [hdown] at q3
    have e : appendJ d L b = (19, d, L) := by
      rw [HJ.out, if_pos hdown, LSt.after]
      obtain ⟨f, n, dn⟩ := L
      simp at hdown
      subst hdown
      simp
    have HE := Lib.hid e
    clear e hdown q0 q1 q2
    go_enter Tryz.func16, Tryz.ntmps16
    go_wp2_with fail
    go_ret
    rw [HE.out]
    exact ⟨rfl, H1.out⟩
  | false =>
    rw [hdown] at q3
    have HD := Lib.hid hdown
    clear hdown
    have hS0 : w.drew.cell? ⟨q, 0, none⟩ = some (.pointer (some ⟨p, 0, none⟩)) ∧ w.drew.cell? ⟨q, 1, none⟩ = some (.int .i64 (L.file : Nat)) := ⟨q0, q1⟩
    have q2d : w.drew.cell? ⟨q, 2, none⟩ = some (.int .i64 (L.n : Nat)) := q2
    have hfr := rframe_spec (A := sep (isRLog q p L) (sep (isRD p d) A)) (L.n : Int) (.slice va bl vc) b (by have := H1.out.drew; simpa only [sep_comm, sep_lcomm, sep_assoc] using this) HV.out ⟨by omega, by have := HN.out; omega⟩ (by have := HB.out; omega)
    have HFR := Lib.hid hfr
    clear hfr q0 q1 q2
    go_enter Tryz.func16, Tryz.ntmps16
    go_wp2_with fail
    refine wp_region_canon rfl (fun w' => w'.cell? ⟨q, 0, none⟩ = some (.pointer (some ⟨p, 0, none⟩)) ∧ w'.cell? ⟨q, 1, none⟩ = some (.int .i64 (L.file : Nat))) [(0, .p), (1, .p), (2, .p), (3, .s), (4, .p), (5, .p), (6, .p), (7, .s), (8, .p), (9, .p), (10, .p), (11, .t), (12, .p), (13, .e true), (14, .e false), (15, .p)] (by kernel_rfl) ?_
    (repeat (first | (refine C_p (v := ?_) rfl rfl (fun w' => ?_) ?_; rotate_left; (go_simp; with_reducible rfl); simp only [Act.put, List.setIfInBounds_toArray, List.set_cons_zero, List.set_cons_succ]) | (refine C_s (v := ?_) rfl rfl hS0 (fun w' hS => ?_) ?_; rotate_left; ((try dsimp only at hS); go_simp; with_reducible rfl); simp only [Act.put, List.setIfInBounds_toArray, List.set_cons_zero, List.set_cons_succ]) | (refine C_t (v := ?_) rfl rfl ?_ ?_; rotate_left; (go_simp; with_reducible rfl); simp only [Act.put, List.setIfInBounds_toArray, List.set_cons_zero, List.set_cons_succ]) | (refine C_po rfl rfl ?_; simp only [Act.put, List.setIfInBounds_toArray, List.set_cons_zero, List.set_cons_succ]) | (refine C_so rfl rfl hS0 ?_; simp only [Act.put, List.setIfInBounds_toArray, List.set_cons_zero, List.set_cons_succ]) | (refine C_to rfl rfl ?_; simp only [Act.put, List.setIfInBounds_toArray, List.set_cons_zero, List.set_cons_succ])))
    (refine C_e rfl rfl (fun K hK => ?_); go_simp)
    refine HFR.out.mono ?_
    rintro e w2 ⟨fa, fc, rfl, h2⟩
    obtain ⟨fr, hfr⟩ : ∃ fr, fr = frameJ L.n b := ⟨_, rfl⟩
    have hfl : fr.length ≤ 1000000 := by rw [hfr]; have := frameJ_le L.n b (by omega) (by have := HN.out; omega) (by have := HB.out; omega); have := HB.out; omega
    rw [← hfr] at h2 HJ ⊢
    obtain ⟨J, hJ, hf, h3⟩ := h2.bytes_of_osl.2.learn
    have hS1 : w2.cell? ⟨q, 0, none⟩ = some (.pointer (some ⟨p, 0, none⟩)) ∧ w2.cell? ⟨q, 1, none⟩ = some (.int .i64 (L.file : Nat)) := ⟨h3.p1.cell 0, h3.p1.cell 1⟩
    have HJJ := Lib.hid hJ
    have HFV := Lib.hid hf
    have HFL := Lib.hid hfl
    obtain ⟨fl, hfl2⟩ : ∃ fl, fl = fr.length := ⟨_, rfl⟩
    rw [← hfl2] at HFV ⊢
    clear hS0 q2d HFR h2 hfr hfl hJ hf hfl2
    (refine hK _ _ (fun _ => hS1) ?_; clear hK K; (try simp only [Act.put, List.setIfInBounds_toArray, List.set_cons_zero, List.set_cons_succ]))
    (repeat (first | (refine C_p (v := ?_) rfl rfl (fun w' => ?_) ?_; rotate_left; (go_simp; with_reducible rfl); simp only [Act.put, List.setIfInBounds_toArray, List.set_cons_zero, List.set_cons_succ]) | (refine C_s (v := ?_) rfl rfl hS0 (fun w' hS => ?_) ?_; rotate_left; ((try dsimp only at hS); go_simp; with_reducible rfl); simp only [Act.put, List.setIfInBounds_toArray, List.set_cons_zero, List.set_cons_succ]) | (refine C_t (v := ?_) rfl rfl ?_ ?_; rotate_left; (go_simp; with_reducible rfl); simp only [Act.put, List.setIfInBounds_toArray, List.set_cons_zero, List.set_cons_succ]) | (refine C_po rfl rfl ?_; simp only [Act.put, List.setIfInBounds_toArray, List.set_cons_zero, List.set_cons_succ]) | (refine C_so rfl rfl hS0 ?_; simp only [Act.put, List.setIfInBounds_toArray, List.set_cons_zero, List.set_cons_succ]) | (refine C_to rfl rfl ?_; simp only [Act.put, List.setIfInBounds_toArray, List.set_cons_zero, List.set_cons_succ])))
    (refine C_e rfl rfl (fun K hK => ?_); go_simp)
    refine (rdappend_spec (A := sep (isRLog q p L) A) p d (L.file : Int) _ fr (by simpa only [sep_comm, sep_lcomm, sep_assoc] using h3) HFV.out HFL.out).mono ?_
    rintro e w3 ⟨rfl, h4⟩
    obtain ⟨e1, he1⟩ : ∃ e1, e1 = (appendD d L.file fr).1 := ⟨_, rfl⟩
    obtain ⟨d1, hd1⟩ : ∃ d1, d1 = (appendD d L.file fr).2 := ⟨_, rfl⟩
    rw [← he1]
    rw [← hd1] at h4
    rw [← he1, ← hd1] at HJ
    clear hS1 h3 he1 hd1
    (refine hK _ _ (fun h => by cases h) ?_; clear hK K; (try simp only [Act.put, List.setIfInBounds_toArray, List.set_cons_zero, List.set_cons_succ]))
    (repeat (first | (refine C_p (v := ?_) rfl rfl (fun w' => ?_) ?_; rotate_left; (go_simp; with_reducible rfl); simp only [Act.put, List.setIfInBounds_toArray, List.set_cons_zero, List.set_cons_succ]) | (refine C_s (v := ?_) rfl rfl hS0 (fun w' hS => ?_) ?_; rotate_left; ((try dsimp only at hS); go_simp; with_reducible rfl); simp only [Act.put, List.setIfInBounds_toArray, List.set_cons_zero, List.set_cons_succ]) | (refine C_t (v := ?_) rfl rfl ?_ ?_; rotate_left; (go_simp; with_reducible rfl); simp only [Act.put, List.setIfInBounds_toArray, List.set_cons_zero, List.set_cons_succ]) | (refine C_po rfl rfl ?_; simp only [Act.put, List.setIfInBounds_toArray, List.set_cons_zero, List.set_cons_succ]) | (refine C_so rfl rfl hS0 ?_; simp only [Act.put, List.setIfInBounds_toArray, List.set_cons_zero, List.set_cons_succ]) | (refine C_to rfl rfl ?_; simp only [Act.put, List.setIfInBounds_toArray, List.set_cons_zero, List.set_cons_succ])))
    refine C_nil ?_
    have h5 : Sat W w3 (sep (isRLog q p L) (sep (isRD p d1) (sep (kn I) A))) := by
      have h6 : Sat W w3 (sep (kn J) (sep (isRLog q p L) (sep (isRD p d1) A))) := by simpa only [sep_comm, sep_lcomm, sep_assoc] using h4
      have h7 := h6.kn_mono HJJ.out
      simpa only [sep_comm, sep_lcomm, sep_assoc] using h7
    have q0 : w3.cell? ⟨q, 0, none⟩ = some (.pointer (some ⟨p, 0, none⟩)) := h5.cell 0
    obtain ⟨n, hn⟩ : ∃ n, n = L.n := ⟨_, rfl⟩
    have hnI : (n : Int) ≤ 1000000000 := by have := HN.out; omega
    have HNN := Lib.hid hn
    clear h4
    by_cases hne : e1 = 0
    · subst hne
      have HSY := Lib.hid (rdsync_spec p d1 (A := sep (isRLog q p L) (sep (kn I) A)) (by simpa only [sep_comm, sep_lcomm, sep_assoc] using h5))
      clear h5
      go_wp2_with fail
      refine HSY.out.mono ?_
      rintro e w4 ⟨rfl, h6⟩
      obtain ⟨e2, he2⟩ : ∃ e2, e2 = (syncD d1).1 := ⟨_, rfl⟩
      obtain ⟨d2, hd2⟩ : ∃ d2, d2 = (syncD d1).2 := ⟨_, rfl⟩
      rw [← he2]
      rw [← hd2] at h6
      rw [← he2, ← hd2] at HJ
      have hj : appendJ d L b = (e2, d2, L.after e2) := by rw [HJ.out, HD.out]; simp
      have HJ2 := Lib.hid hj
      clear HJ hj he2 hd2 HSY q0
      have h7 : Sat W w4 (sep (isRLog q p L) (sep (isRD p d2) (sep (kn I) A))) := by
        have := h6.p1
        simpa only [sep_comm, sep_lcomm, sep_assoc] using this
      have c3 := h7.cell 3
      have f3 := h7.unfrozen 3
      by_cases hz : e2 = 0
      · subst hz
        have h8 := h7.setCell 3 (.bool false)
        have k2 : (w4.setCell ⟨q, 3, none⟩ (.bool false)).cell? ⟨q, 2, none⟩ = some (.int .i64 (n : Nat)) := by have := h8.cell 2; rw [hn]; exact this
        have kf := h8.unfrozen 2
        have h9 := h8.setCell 2 (.int .i64 ((n : Int) + 1))
        have H9 := Lib.hid h9
        clear h7 h8 h9 hn
        go_wp2_with fail
        go_ret
        rw [HJ2.out]
        refine ⟨rfl, ?_⟩
        have := H9.out
        simpa [isRLog, LSt.after, HNN.out] using this
      · have b5 : (e2 == 0) = false := by simp [hz]
        have h8 := h7.setCell 3 (.bool (e2 == 19))
        have H9 := Lib.hid h8
        have HZ := Lib.hid hz
        clear h7 h8 hn hz
        go_wp2_with fail
        go_ret
        rw [HJ2.out]
        refine ⟨rfl, ?_⟩
        have := H9.out
        simpa [isRLog, LSt.after, HZ.out] using this
    · have b1 : (e1 == 0) = false := by simp [hne]
      have hj : appendJ d L b = (e1, d1, L.after e1) := by rw [HJ.out, HD.out]; simp [hne]
      have HJ2 := Lib.hid hj
      have HE1 := Lib.hid hne
      clear HJ hj q0 hne
      have h7 : Sat W w3 (sep (isRLog q p L) (sep (isRD p d1) (sep (kn I) A))) := h5
      have c3 := h7.cell 3
      have f3 := h7.unfrozen 3
      have h8 := h7.setCell 3 (.bool (e1 == 19))
      have H9 := Lib.hid h8
      clear h5 h7 h8 hn
      go_wp2_with fail
      go_ret
      rw [HJ2.out]
      refine ⟨rfl, ?_⟩
      have := H9.out
      simpa [isRLog, LSt.after, HE1.out] using this
end Go.Proofs.YtdaknmcmjnbfeaaGreat
