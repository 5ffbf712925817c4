/- An operation on both disks. -/
import Derived.Test.YtbniekblkbdidaaR8
namespace Go.Proofs.Ytbniekblkbdidaa
open Go.RowKit PA
structure OpD where
  kind : Int
  file : Int
  n : Int
  b : List UInt8
  keep : List Int
def rOp : Rep OpD where
  rel I cs o := ∃ vb vk, cs = [.int .i64 o.kind, .int .i64 o.file, .int .i64 o.n, vb, vk] ∧ rBytes.rel I [vb] o.b ∧ (rInt.slice 1).rel I [vk] o.keep
  mono hl := fun ⟨vb, vk, h1, h2, h3⟩ => ⟨vb, vk, h1, rBytes.mono hl h2, (rInt.slice 1).mono hl h3⟩
structure opOK (o : OpD) : Prop where
  n : I64' o.n
  b : o.b.length ≤ 1000000
  keep : ∀ x ∈ o.keep, I64' x
def doD (s : DSt) (o : OpD) : Int × DSt :=
  if o.kind = 0 then appendD s o.file o.b else if o.kind = 1 then syncD s else if o.kind = 2 then truncD s o.file o.n else if o.kind = 3 then (0, armD s o.n) else (0, crashD s o.keep o.n)
theorem intsK_form {I : Mem} {v : Value} {l : List Int} (h : (rInt.slice 1).rel I [v] l) : ∃ a n c, v = .slice a n c := by
  obtain ⟨a, c, e, -, -⟩ := ints_rel.1 h
  exact ⟨a, _, c, e⟩
set_option maxRecDepth 100000 in
set_option maxHeartbeats 4000000 in
theorem do29_spec {W w : World} {A : Assn} {I : Mem} (p : Nat) (s : DSt) (o : OpD) (vb vk : Value) (h : Sat W w (sep (isDisk p s) (sep (kn I) A))) (hb : rBytes.rel I [vb] o.b) (hk : (rInt.slice 1).rel I [vk] o.keep) (ho : opOK o) :
    Calls Try.prog 24 #[.pointer (some ⟨p, 0, none⟩), .agg #[.int .i64 o.kind, .int .i64 o.file, .int .i64 o.n, vb, vk]] w fun e w' => e = .returned (.int .i64 (doD s o).1) ∧ Sat W w' (sep (isDisk p (doD s o).2) (sep (kn I) A)) := by
  obtain ⟨kd, fl, n, b, keep⟩ := o
  obtain ⟨ho1, ho2, ho3⟩ := ho
  dsimp only at hb hk ho1 ho2 ho3 ⊢
  obtain ⟨ka, nk, kc, rfl⟩ := intsK_form hk
  obtain ⟨ba, bc, rfl, -⟩ := slice_f hb
  obtain ⟨bl, hbl⟩ : ∃ bl, bl = b.length := ⟨_, rfl⟩
  rw [← hbl] at hb ho2 ⊢
  have h1 := h.alloc (.cells #[.int .i64 kd, .int .i64 fl, .int .i64 n, .slice ba bl bc, .slice ka nk kc] 48)
  obtain ⟨q, hq⟩ : ∃ q, q = w.heap.size := ⟨_, rfl⟩
  obtain ⟨w1, hw1⟩ : ∃ w1, w1 = w.alloc (.cells #[.int .i64 kd, .int .i64 fl, .int .i64 n, .slice ba bl bc, .slice ka nk kc] 48) := ⟨_, rfl⟩
  rw [← hq, ← hw1] at h1
  have q0 : w1.cell? ⟨q, 0, none⟩ = some (.int .i64 kd) := h1.cell 0
  have q1 : w1.cell? ⟨q, 1, none⟩ = some (.int .i64 fl) := h1.cell 1
  have q2 : w1.cell? ⟨q, 2, none⟩ = some (.int .i64 n) := h1.cell 2
  have q3 : w1.cell? ⟨q, 3, none⟩ = some (.slice ba bl bc) := h1.cell 3
  have q4 : w1.cell? ⟨q, 4, none⟩ = some (.slice ka nk kc) := h1.cell 4
  have H1 := Lib.hid h1.drop
  have HW := Lib.hid (And.intro hq hw1)
  have HB := Lib.hid hb
  have HK := Lib.hid hk
  have HO1 := Lib.hid ho1
  have HO3 := Lib.hid ho3
  have HBL := Lib.hid hbl
  clear h h1 hq hw1 hb hk ho1 ho3 hbl
  by_cases k0 : kd = 0
  · subst k0
    have ha := dappend_spec p s fl _ b H1.out HB.out (by rw [← HBL.out]; exact ho2)
    have HA : Hid (Calls Try.prog 14 #[.pointer (some ⟨p, 0, none⟩), .int .i64 fl, .slice ba bl bc] w1 fun e w' => e = .returned (.int .i64 (doD s ⟨0, fl, n, b, keep⟩).1) ∧ Sat W w' (sep (isDisk p (doD s ⟨0, fl, n, b, keep⟩).2) (sep (kn I) A))) := Lib.hid ha
    clear ha
    go_enter Try.func24, Try.ntmps24
    go_upto_region 1 with (fail)
    rw [← HW.out.1, ← HW.out.2]
    go_wp2_with fail
    refine HA.out.mono ?_
    rintro e w2 ⟨rfl, h2⟩
    clear HA q0 q1 q2 q3 q4
    go_wp2_with fail
    go_ret
    exact ⟨rfl, h2⟩
  · have b0 : (kd == 0) = false := by simp [k0]
    by_cases k1 : kd = 1
    · subst k1
      have HA : Hid (Calls Try.prog 15 #[.pointer (some ⟨p, 0, none⟩)] w1 fun e w' => e = .returned (.int .i64 (doD s ⟨1, fl, n, b, keep⟩).1) ∧ Sat W w' (sep (isDisk p (doD s ⟨1, fl, n, b, keep⟩).2) (sep (kn I) A))) := Lib.hid (dsync_spec p s H1.out)
      clear k0 b0
      go_enter Try.func24, Try.ntmps24
      go_upto_region 1 with (fail)
      rw [← HW.out.1, ← HW.out.2]
      go_wp2_with fail
      refine HA.out.mono ?_
      rintro e w2 ⟨rfl, h2⟩
      clear HA q0 q1 q2 q3 q4
      go_wp2_with fail
      go_ret
      exact ⟨rfl, h2⟩
    · have b1 : (kd == 1) = false := by simp [k1]
      by_cases k2 : kd = 2
      · subst k2
        have HA : Hid (Calls Try.prog 20 #[.pointer (some ⟨p, 0, none⟩), .int .i64 fl, .int .i64 n] w1 fun e w' => e = .returned (.int .i64 (doD s ⟨2, fl, n, b, keep⟩).1) ∧ Sat W w' (sep (isDisk p (doD s ⟨2, fl, n, b, keep⟩).2) (sep (kn I) A))) := Lib.hid (dtrunc_spec p s fl n H1.out)
        clear k0 b0 k1 b1
        go_enter Try.func24, Try.ntmps24
        go_upto_region 1 with (fail)
        rw [← HW.out.1, ← HW.out.2]
        go_wp2_with fail
        refine HA.out.mono ?_
        rintro e w2 ⟨rfl, h2⟩
        clear HA q0 q1 q2 q3 q4
        go_wp2_with fail
        go_ret
        exact ⟨rfl, h2⟩
      · have b2 : (kd == 2) = false := by simp [k2]
        by_cases k3 : kd = 3
        · subst k3
          have HA : Hid (Calls Try.prog 28 #[.pointer (some ⟨p, 0, none⟩), .int .i64 n] w1 fun e w' => e = .returned (.tuple #[]) ∧ Sat W w' (sep (isDisk p (doD s ⟨3, fl, n, b, keep⟩).2) (sep (kn I) A))) := Lib.hid (darm_spec p s n H1.out HO1.out)
          clear k0 b0 k1 b1 k2 b2
          go_enter Try.func24, Try.ntmps24
          go_upto_region 1 with (fail)
          rw [← HW.out.1, ← HW.out.2]
          go_wp2_with fail
          refine HA.out.mono ?_
          rintro e w2 ⟨rfl, h2⟩
          clear HA q0 q1 q2 q3 q4
          go_wp2_with fail
          go_ret
          exact ⟨rfl, h2⟩
        · have b3 : (kd == 3) = false := by simp [k3]
          have e : doD s ⟨kd, fl, n, b, keep⟩ = (0, crashD s keep n) := by simp [doD, k0, k1, k2, k3]
          have HA := Lib.hid (dcrash_spec p s ka nk kc keep n H1.out HK.out HO3.out HO1.out)
          have HE := Lib.hid e
          clear k0 k1 k2 k3 e
          go_enter Try.func24, Try.ntmps24
          go_upto_region 1 with (fail)
          rw [← HW.out.1, ← HW.out.2]
          go_wp2_with fail
          refine HA.out.mono ?_
          rintro e w2 ⟨rfl, h2⟩
          clear HA q0 q1 q2 q3 q4
          go_wp2_with fail
          go_ret
          rw [HE.out]
          exact ⟨rfl, h2⟩
set_option maxRecDepth 100000 in
set_option maxHeartbeats 4000000 in
theorem rdo_spec {W w : World} {A : Assn} {I : Mem} (p : Nat) (s : DSt) (o : OpD) (vb vk : Value) (h : Sat W w (sep (isRD p s) (sep (kn I) A))) (hb : rBytes.rel I [vb] o.b) (hk : (rInt.slice 1).rel I [vk] o.keep) (ho : opOK o) :
    Calls Try.prog 25 #[.pointer (some ⟨p, 0, none⟩), .agg #[.int .i64 o.kind, .int .i64 o.file, .int .i64 o.n, vb, vk]] w fun e w' => e = .returned (.int .i64 (doD s o).1) ∧ Sat W w' (sep (isRD p (doD s o).2) (sep (kn I) A)) := by
  obtain ⟨kd, fl, n, b, keep⟩ := o
  obtain ⟨ho1, ho2, ho3⟩ := ho
  dsimp only at hb hk ho1 ho2 ho3 ⊢
  obtain ⟨ka, nk, kc, rfl⟩ := intsK_form hk
  obtain ⟨ba, bc, rfl, -⟩ := slice_f hb
  obtain ⟨bl, hbl⟩ : ∃ bl, bl = b.length := ⟨_, rfl⟩
  rw [← hbl] at hb ho2 ⊢
  have h1 := h.alloc (.cells #[.int .i64 kd, .int .i64 fl, .int .i64 n, .slice ba bl bc, .slice ka nk kc] 48)
  obtain ⟨q, hq⟩ : ∃ q, q = w.heap.size := ⟨_, rfl⟩
  obtain ⟨w1, hw1⟩ : ∃ w1, w1 = w.alloc (.cells #[.int .i64 kd, .int .i64 fl, .int .i64 n, .slice ba bl bc, .slice ka nk kc] 48) := ⟨_, rfl⟩
  rw [← hq, ← hw1] at h1
  have q0 : w1.cell? ⟨q, 0, none⟩ = some (.int .i64 kd) := h1.cell 0
  have q1 : w1.cell? ⟨q, 1, none⟩ = some (.int .i64 fl) := h1.cell 1
  have q2 : w1.cell? ⟨q, 2, none⟩ = some (.int .i64 n) := h1.cell 2
  have q3 : w1.cell? ⟨q, 3, none⟩ = some (.slice ba bl bc) := h1.cell 3
  have q4 : w1.cell? ⟨q, 4, none⟩ = some (.slice ka nk kc) := h1.cell 4
  have H1 := Lib.hid h1.drop
  have HW := Lib.hid (And.intro hq hw1)
  have HB := Lib.hid hb
  have HK := Lib.hid hk
  have HO1 := Lib.hid ho1
  have HO3 := Lib.hid ho3
  have HBL := Lib.hid hbl
  clear h h1 hq hw1 hb hk ho1 ho3 hbl
  by_cases k0 : kd = 0
  · subst k0
    have ha := rdappend_spec p s fl _ b H1.out HB.out (by rw [← HBL.out]; exact ho2)
    have HA : Hid (Calls Try.prog 42 #[.pointer (some ⟨p, 0, none⟩), .int .i64 fl, .slice ba bl bc] w1 fun e w' => e = .returned (.int .i64 (doD s ⟨0, fl, n, b, keep⟩).1) ∧ Sat W w' (sep (isRD p (doD s ⟨0, fl, n, b, keep⟩).2) (sep (kn I) A))) := Lib.hid ha
    clear ha
    go_enter Try.func25, Try.ntmps25
    go_upto_region 1 with (fail)
    rw [← HW.out.1, ← HW.out.2]
    go_wp2_with fail
    refine HA.out.mono ?_
    rintro e w2 ⟨rfl, h2⟩
    clear HA q0 q1 q2 q3 q4
    go_wp2_with fail
    go_ret
    exact ⟨rfl, h2⟩
  · have b0 : (kd == 0) = false := by simp [k0]
    by_cases k1 : kd = 1
    · subst k1
      have HA : Hid (Calls Try.prog 43 #[.pointer (some ⟨p, 0, none⟩)] w1 fun e w' => e = .returned (.int .i64 (doD s ⟨1, fl, n, b, keep⟩).1) ∧ Sat W w' (sep (isRD p (doD s ⟨1, fl, n, b, keep⟩).2) (sep (kn I) A))) := Lib.hid (rdsync_spec p s H1.out)
      clear k0 b0
      go_enter Try.func25, Try.ntmps25
      go_upto_region 1 with (fail)
      rw [← HW.out.1, ← HW.out.2]
      go_wp2_with fail
      refine HA.out.mono ?_
      rintro e w2 ⟨rfl, h2⟩
      clear HA q0 q1 q2 q3 q4
      go_wp2_with fail
      go_ret
      exact ⟨rfl, h2⟩
    · have b1 : (kd == 1) = false := by simp [k1]
      by_cases k2 : kd = 2
      · subst k2
        have HA : Hid (Calls Try.prog 44 #[.pointer (some ⟨p, 0, none⟩), .int .i64 fl, .int .i64 n] w1 fun e w' => e = .returned (.int .i64 (doD s ⟨2, fl, n, b, keep⟩).1) ∧ Sat W w' (sep (isRD p (doD s ⟨2, fl, n, b, keep⟩).2) (sep (kn I) A))) := Lib.hid (rdtrunc_spec p s fl n H1.out)
        clear k0 b0 k1 b1
        go_enter Try.func25, Try.ntmps25
        go_upto_region 1 with (fail)
        rw [← HW.out.1, ← HW.out.2]
        go_wp2_with fail
        refine HA.out.mono ?_
        rintro e w2 ⟨rfl, h2⟩
        clear HA q0 q1 q2 q3 q4
        go_wp2_with fail
        go_ret
        exact ⟨rfl, h2⟩
      · have b2 : (kd == 2) = false := by simp [k2]
        by_cases k3 : kd = 3
        · subst k3
          have HA : Hid (Calls Try.prog 45 #[.pointer (some ⟨p, 0, none⟩), .int .i64 n] w1 fun e w' => e = .returned (.tuple #[]) ∧ Sat W w' (sep (isRD p (doD s ⟨3, fl, n, b, keep⟩).2) (sep (kn I) A))) := Lib.hid (rdarm_spec p s n H1.out HO1.out)
          clear k0 b0 k1 b1 k2 b2
          go_enter Try.func25, Try.ntmps25
          go_upto_region 1 with (fail)
          rw [← HW.out.1, ← HW.out.2]
          go_wp2_with fail
          refine HA.out.mono ?_
          rintro e w2 ⟨rfl, h2⟩
          clear HA q0 q1 q2 q3 q4
          go_wp2_with fail
          go_ret
          exact ⟨rfl, h2⟩
        · have b3 : (kd == 3) = false := by simp [k3]
          have e : doD s ⟨kd, fl, n, b, keep⟩ = (0, crashD s keep n) := by simp [doD, k0, k1, k2, k3]
          have HA := Lib.hid (rdcrash_spec p s ka nk kc keep n H1.out HK.out HO1.out)
          have HE := Lib.hid e
          clear k0 k1 k2 k3 e
          go_enter Try.func25, Try.ntmps25
          go_upto_region 1 with (fail)
          rw [← HW.out.1, ← HW.out.2]
          go_wp2_with fail
          refine HA.out.mono ?_
          rintro e w2 ⟨rfl, h2⟩
          clear HA q0 q1 q2 q3 q4
          go_wp2_with fail
          go_ret
          rw [HE.out]
          exact ⟨rfl, h2⟩
end Go.Proofs.Ytbniekblkbdidaa
