/- Package disk: what a disk holds; New, exists, step, set, Arm. -/
import Derived.Test.YtdaknmcmjnbfeaaGreatDp
import Derived.Test.YtdaknmcmjnbfeaaGreatBm
import Derived.Test.YtdaknmcmjnbfeaaGreatKn
import Derived.Test.YtdaknmcmjnbfeaaGreatGJournalRuns7
import Derived.Deep.DeepCutAuto
import Derived.Deep.CutBlock
namespace Go.Proofs.YtdaknmcmjnbfeaaGreat
open Go.RowKit PA
def fileV (a : Option Addr) (n c : Nat) (d : Nat) : Value := .agg #[.slice a n c, .int .i64 (d : Nat)]
def FOK (I : Mem) (f : Int → Option Value) (fs : Nat → File) : Prop :=
  (∀ j : Nat, (fs j).1 ≠ [] → ∃ a c, f (j : Int) = some (fileV a (fs j).1.length c (fs j).2) ∧ rBytes.rel I [.slice a (fs j).1.length c] (fs j).1) ∧
  (∀ k : Int, (f k).isSome = true → ∃ j : Nat, k = (j : Int) ∧ (fs j).1 ≠ [])
def fokA (f : Int → Option Value) (fs : Nat → File) : Assn := pers (fun I => FOK I f fs) fun _ _ hl h => ⟨fun j hj => by
  obtain ⟨a, c, e, hr⟩ := h.1 j hj
  exact ⟨a, c, e, rBytes.mono hl hr⟩, h.2⟩
def diskC (b : Nat) (s : DSt) (left : Int) : Array Value := #[.map (some b), .int .i64 (s.room : Nat), .bool s.off, .bool s.plan.isSome, .int .i64 left]
def isDisk (p : Nat) (s : DSt) : Assn := ex fun x : Nat × (Int → Option Value) × Nat × Int =>
  sep (fact (s.ok ∧ (∀ q : Nat, s.plan = some q → x.2.2.2 = (q : Int)) ∧ I64' x.2.2.2)) (sep (fokA x.2.1 s.fs) (sep (bmap x.1 x.2.1 x.2.2.1) (blk p (.cells (diskC x.1 s x.2.2.2) 62 (0, 0)))))
section
variable {W w : World} {A : Assn}
theorem isDisk_open {p : Nat} {s : DSt} (h : Sat W w (sep (isDisk p s) A)) : ∃ b f n left, s.ok ∧ (∀ q : Nat, s.plan = some q → left = (q : Int)) ∧ I64' left ∧
    Sat W w (sep (blk p (.cells (diskC b s left) 62 (0, 0))) (sep (bmap b f n) (sep (fokA f s.fs) A))) := by
  rw [isDisk, ex_sep, Sat.ex] at h
  obtain ⟨⟨b, f, n, left⟩, h⟩ := h
  rw [sep_assoc] at h
  obtain ⟨h1, h2⟩ := Sat.fact.1 h
  exact ⟨b, f, n, left, h1.1, h1.2.1, h1.2.2, by simpa only [sep_comm, sep_lcomm, sep_assoc] using h2⟩
theorem isDisk_mk {p : Nat} {s : DSt} {b : Nat} {f : Int → Option Value} {n : Nat} {left : Int} (h1 : s.ok) (h2 : ∀ q : Nat, s.plan = some q → left = (q : Int)) (h3 : I64' left)
    (h : Sat W w (sep (blk p (.cells (diskC b s left) 62 (0, 0))) (sep (bmap b f n) (sep (fokA f s.fs) A)))) : Sat W w (sep (isDisk p s) A) := by
  rw [isDisk, ex_sep, Sat.ex]
  refine ⟨(b, f, n, left), ?_⟩
  rw [sep_assoc]
  exact Sat.fact.2 ⟨⟨h1, h2, h3⟩, by simpa only [sep_comm, sep_lcomm, sep_assoc] using h⟩
theorem isDisk_ok {p : Nat} {s : DSt} (h : Sat W w (sep (isDisk p s) A)) : s.ok := by
  obtain ⟨_, _, _, _, h1, _⟩ := isDisk_open h; exact h1
end
theorem zeroFile (w : World) : (zeroValue 66).run Tryz.prog w = .ok (.agg #[.slice none 0 0, .int .i64 0]) w := by kernel_rfl
theorem ret_ptr_i {p : Nat} {a b : Int} (h : a = b) : Ending.returned (.tuple #[.pointer (some ⟨p, 0, none⟩), .int .i64 a]) = .returned (.tuple #[.pointer (some ⟨p, 0, none⟩), .int .i64 b]) := by rw [h]
set_option maxHeartbeats 400000 in
theorem dnew_ok {W w : World} {A : Assn} (room : Nat) (h : Sat W w A) (hr : room ≤ 16777216) :
    Calls Tryz.prog 22 #[.int .i64 (room : Nat)] w fun e w' => ∃ p, e = .returned (.tuple #[.pointer (some ⟨p, 0, none⟩), .int .i64 0]) ∧ Sat W w' (sep (isDisk p (newD room)) A) := by
  have hmm := @run_makeMap Tryz.prog
  have g1 : (room : Int) ≤ 16777216 := by omega
  go_enter Tryz.func22, Tryz.ntmps22
  go_wp2
  go_ret2
  refine ⟨_, rfl, ?_⟩
  have h1 := h.bmap_new.alloc (.cells (diskC w.heap.size (newD room) 0) 62)
  rw [World.size_alloc] at h1
  have h2 := Sat.startPers W (fun I => FOK I (fun _ => none) noFiles) (fun I J hl h => ⟨fun j hj => absurd rfl hj, fun k hk => by cases hk⟩) h1 ⟨fun j hj => absurd rfl hj, fun k hk => by cases hk⟩
  refine isDisk_mk (b := w.heap.size) (f := fun _ => none) (n := 0) (left := 0) (newD_ok hr) (fun q hq => by cases hq) ⟨by omega, by omega⟩ ?_
  have h3 : Sat W _ (sep (fokA (fun _ => none) (newD room).fs) _) := h2
  show Sat W ((w.alloc (.map #[] 0)).alloc (.cells (diskC w.heap.size (newD room) 0) 62)) _
  simpa only [sep_comm, sep_lcomm, sep_assoc] using h3
theorem dnew_no {W w : World} {A : Assn} (room : Int) (h : Sat W w A) (hr : room < 0 ∨ 16777216 < room) :
    Calls Tryz.prog 22 #[.int .i64 room] w fun e w' => e = .returned (.tuple #[.pointer none, .int .i64 1]) ∧ Sat W w' A := by
  rcases hr with h1 | h1
  · go_enter Tryz.func22, Tryz.ntmps22
    go_wp2
    go_ret2
    exact ⟨rfl, h⟩
  · have h2 : ¬ room < 0 := by omega
    go_enter Tryz.func22, Tryz.ntmps22
    go_wp2
    go_ret2
    exact ⟨rfl, h⟩
theorem dexists_spec (n : Int) (w : World) : Calls Tryz.prog 39 #[.int .i64 n] w fun e w' => e = .returned (.bool (decide (0 ≤ n ∧ n < 64))) ∧ w = w' := by
  by_cases h1 : 0 ≤ n
  · by_cases h2 : n < 64
    · rw [decide_eq_true ⟨h1, h2⟩]
      go_enter Tryz.func39, Tryz.ntmps39
      go_wp2
      go_ret
      exact ⟨rfl, rfl⟩
    · rw [decide_eq_false (fun h => h2 h.2)]
      go_enter Tryz.func39, Tryz.ntmps39
      go_wp2
      go_ret
      exact ⟨rfl, rfl⟩
  · rw [decide_eq_false (fun h => h1 h.1)]
    go_enter Tryz.func39, Tryz.ntmps39
    go_wp2
    go_ret
    exact ⟨rfl, rfl⟩
set_option maxHeartbeats 1000000 in
theorem dstep_spec {W w : World} {A : Assn} (p : Nat) (s : DSt) (h : Sat W w (sep (isDisk p s) A)) (hoff : s.off = false) :
    Calls Tryz.prog 45 #[.pointer (some ⟨p, 0, none⟩)] w fun e w' => e = .returned (.bool s.step.1) ∧ Sat W w' (sep (isDisk p s.step.2) A) := by
  obtain ⟨b, f, n, left, hok, hpl, hl64, h0⟩ := isDisk_open h
  have hok2 := hok.step
  obtain ⟨room, fs, off, plan⟩ := s
  dsimp only at hoff hpl
  subst hoff
  cases plan with
  | none =>
    have c3 : w.cell? ⟨p, 3, none⟩ = some (.bool false) := h0.cell 3
    clear h0 hpl hok2
    go_enter Tryz.func45, Tryz.ntmps45
    go_wp2_with fail
    go_ret
    exact ⟨rfl, h⟩
  | some q =>
    obtain rfl := hpl q rfl
    have c2 : w.cell? ⟨p, 2, none⟩ = some (.bool false) := h0.cell 2
    have c3 : w.cell? ⟨p, 3, none⟩ = some (.bool true) := h0.cell 3
    have c4 : w.cell? ⟨p, 4, none⟩ = some (.int .i64 (q : Nat)) := h0.cell 4
    have f2 := h0.unfrozen 2
    have f3 := h0.unfrozen 3
    have f4 := h0.unfrozen 4
    have hq := hok.plan q rfl
    cases q with
    | zero =>
      have h1 := ((h0.setCell 4 (.int .i64 (-1))).setCell 2 (.bool true)).setCell 3 (.bool false)
      have HB := Lib.hid h1
      have HK := Lib.hid hok2
      clear h0 h1 hok2 hpl h hok
      go_enter Tryz.func45, Tryz.ntmps45
      go_wp2_with fail
      go_ret
      refine ⟨rfl, isDisk_mk (b := b) (f := f) (n := n) (left := -1) HK.out (fun r hr => by cases hr) ⟨by omega, by omega⟩ ?_⟩
      simpa [diskC, DSt.step] using HB.out
    | succ q =>
      have hqI : ((q + 1 : Nat) : Int) - 1 = (q : Int) := by omega
      have g1 : ¬ (q : Int) < 0 := by omega
      have h1 := h0.setCell 4 (.int .i64 (q : Nat))
      have HB := Lib.hid h1
      have HK := Lib.hid hok2
      clear h0 h1 hok2 hpl h hok
      go_enter Tryz.func45, Tryz.ntmps45
      go_wp2_with fail
      go_ret
      refine ⟨rfl, isDisk_mk (b := b) (f := f) (n := n) (left := (q : Int)) HK.out (fun r hr => by have := Option.some.inj hr; rw [this]) ⟨by omega, by omega⟩ ?_⟩
      simpa [diskC, DSt.step] using HB.out
theorem FOK.put {I : Mem} {f : Int → Option Value} {fs : Nat → File} (h : FOK I f fs) (n : Nat) {a : Option Addr} {c d : Nat} {bs : List UInt8} (hb : bs ≠ []) (hv : rBytes.rel I [.slice a bs.length c] bs) :
    FOK I (fset f (n : Int) (some (fileV a bs.length c d))) (dset fs n (bs, d)) := by
  refine ⟨fun j hj => ?_, fun k hk => ?_⟩
  · by_cases e : j = n
    · subst e
      have e1 : dset fs j (bs, d) j = (bs, d) := by simp [dset]
      rw [e1]
      exact ⟨a, c, by simp [fset], hv⟩
    · have e1 : dset fs n (bs, d) j = fs j := by simp [dset, e]
      rw [e1] at hj ⊢
      obtain ⟨a', c', e2, hr⟩ := h.1 j hj
      refine ⟨a', c', ?_, hr⟩
      unfold fset
      rw [if_neg (by omega)]; exact e2
  · by_cases e : k = (n : Int)
    · exact ⟨n, e, by simpa [dset] using hb⟩
    · have : (f k).isSome = true := by simpa [fset, e] using hk
      obtain ⟨j, hj, hne⟩ := h.2 k this
      refine ⟨j, hj, ?_⟩
      have : j ≠ n := fun q => e (by rw [hj, q])
      simpa [dset, this] using hne
theorem FOK.del {I : Mem} {f : Int → Option Value} {fs : Nat → File} (h : FOK I f fs) (n d : Nat) (v : Value) :
    FOK I (fset (fset f (n : Int) (some v)) (n : Int) none) (dset fs n ([], d)) := by
  refine ⟨fun j hj => ?_, fun k hk => ?_⟩
  · by_cases e : j = n
    · subst e
      exact absurd (by simp [dset]) hj
    · have e1 : dset fs n ([], d) j = fs j := by simp [dset, e]
      rw [e1] at hj ⊢
      obtain ⟨a', c', e2, hr⟩ := h.1 j hj
      refine ⟨a', c', ?_, hr⟩
      have : (j : Int) ≠ (n : Int) := by omega
      simp [fset, this]; exact e2
  · by_cases e : k = (n : Int)
    · subst e; simp [fset] at hk
    · have : (f k).isSome = true := by simpa [fset, e] using hk
      obtain ⟨j, hj, hne⟩ := h.2 k this
      refine ⟨j, hj, ?_⟩
      have : j ≠ n := fun q => e (by rw [hj, q])
      simpa [dset, this] using hne
theorem fokA_put {W w : World} {A : Assn} {I : Mem} {f f' : Int → Option Value} {fs fs' : Nat → File} (h : Sat W w (sep (fokA f fs) (sep (kn I) A))) (hp : ∀ J, Mem.le I J → FOK J f fs → FOK J f' fs') : Sat W w (sep (fokA f' fs') (sep (kn I) A)) := by
  refine h.wk ?_
  rintro J m ⟨x, y, h1, rfl, ⟨rfl, h2⟩, x', y', h3, rfl, ⟨rfl, hle⟩, h4⟩
  exact ⟨Mem.no, _, h1, rfl, ⟨rfl, hp J hle h2⟩, Mem.no, y', h3, rfl, ⟨rfl, hle⟩, h4⟩
def setF (f : Int → Option Value) (n : Nat) (a : Option Addr) (l c d : Nat) : Int → Option Value :=
  if l = 0 then fset (fset f (n : Int) (some (fileV a l c d))) (n : Int) none else fset f (n : Int) (some (fileV a l c d))
set_option maxRecDepth 100000 in
set_option maxHeartbeats 2000000 in
theorem dset_raw {W w : World} {A : Assn} (p b : Nat) (f : Int → Option Value) (nf : Nat) (x1 x2 x3 x4 : Value) (n : Nat) (a : Option Addr) (l c d : Nat) (h0 : Sat W w (sep (blk p (.cells #[.map (some b), x1, x2, x3, x4] 62 (0, 0))) (sep (bmap b f nf) A))) :
    Calls Tryz.prog 31 #[.pointer (some ⟨p, 0, none⟩), .int .i64 (n : Nat), .agg #[.slice a l c, .int .i64 (d : Nat)]] w fun e w' => e = .returned (.tuple #[]) ∧ ∃ nf', Sat W w' (sep (blk p (.cells #[.map (some b), x1, x2, x3, x4] 62 (0, 0))) (sep (bmap b (setF f n a l c d) nf') A)) := by
  have h1 := (h0.alloc (.cells #[.slice a l c, .int .i64 (d : Nat)] 66)).drew
  obtain ⟨q, hq⟩ : ∃ q, q = w.heap.size := ⟨_, rfl⟩
  rw [← hq] at h1
  have c0 : (w.alloc (.cells #[.slice a l c, .int .i64 (d : Nat)] 66)).drew.cell? ⟨p, 0, none⟩ = some (.map (some b)) := h1.p1.cell 0
  have q0 : (w.alloc (.cells #[.slice a l c, .int .i64 (d : Nat)] 66)).drew.cell? ⟨q, 0, none⟩ = some (.slice a l c) := h1.cell 0
  have q1 : (w.alloc (.cells #[.slice a l c, .int .i64 (d : Nat)] 66)).drew.cell? ⟨q, 1, none⟩ = some (.int .i64 (d : Nat)) := h1.cell 1
  obtain ⟨w2, nf2, hup, -, h2⟩ := run_update_bmap (P := Tryz.prog) Tryz.underlying60 Tryz.underlying3 h1.p2 (n : Int) (.agg #[.slice a l c, .int .i64 (d : Nat)])
  obtain ⟨w1, hw1⟩ : ∃ w1, w1 = w.alloc (.cells #[.slice a l c, .int .i64 (d : Nat)] 66) := ⟨_, rfl⟩
  rw [← hw1] at c0 q0 q1 hup
  have HQ := Lib.hid hq
  have HW1 := Lib.hid hw1
  have hS0 : True := trivial
  have p0 : w2.cell? ⟨p, 0, none⟩ = some (.map (some b)) := h2.p2.cell 0
  have r0 : w2.cell? ⟨q, 0, none⟩ = some (.slice a l c) := h2.p1.cell 0
  clear h0 h1 hq hw1
  go_enter Tryz.func31, Tryz.ntmps31
  go_upto_region 1 with (fail)
  rw [← HW1.out, ← HQ.out]
  refine wp_region_canon rfl (fun _ => True) [(0, .p), (1, .p), (2, .p), (3, .t), (4, .p), (5, .t), (6, .e false)] (by kernel_rfl) ?_
  (repeat (first | (refine C_p (v := ?_) rfl rfl (fun w' => ?_) ?_; rotate_left; (go_simp; with_reducible rfl); simp only [Act.put, List.setIfInBounds_toArray, List.set_cons_zero, List.set_cons_succ]) | (refine C_s (v := ?_) rfl rfl hS0 (fun w' hS => ?_) ?_; rotate_left; ((try dsimp only at hS); go_simp; with_reducible rfl); simp only [Act.put, List.setIfInBounds_toArray, List.set_cons_zero, List.set_cons_succ]) | (refine C_t (v := ?_) rfl rfl ?_ ?_; rotate_left; (go_simp; with_reducible rfl); simp only [Act.put, List.setIfInBounds_toArray, List.set_cons_zero, List.set_cons_succ]) | (refine C_po rfl rfl ?_; simp only [Act.put, List.setIfInBounds_toArray, List.set_cons_zero, List.set_cons_succ]) | (refine C_so rfl rfl hS0 ?_; simp only [Act.put, List.setIfInBounds_toArray, List.set_cons_zero, List.set_cons_succ]) | (refine C_to rfl rfl ?_; simp only [Act.put, List.setIfInBounds_toArray, List.set_cons_zero, List.set_cons_succ])))
  (refine C_e rfl rfl (fun K hK => ?_); go_simp)
  (refine hK _ _ (fun h => by cases h) ?_; clear hK K; (try simp only [Act.put, List.setIfInBounds_toArray, List.set_cons_zero, List.set_cons_succ]))
  (repeat (first | (refine C_p (v := ?_) rfl rfl (fun w' => ?_) ?_; rotate_left; (go_simp; with_reducible rfl); simp only [Act.put, List.setIfInBounds_toArray, List.set_cons_zero, List.set_cons_succ]) | (refine C_s (v := ?_) rfl rfl hS0 (fun w' hS => ?_) ?_; rotate_left; ((try dsimp only at hS); go_simp; with_reducible rfl); simp only [Act.put, List.setIfInBounds_toArray, List.set_cons_zero, List.set_cons_succ]) | (refine C_t (v := ?_) rfl rfl ?_ ?_; rotate_left; (go_simp; with_reducible rfl); simp only [Act.put, List.setIfInBounds_toArray, List.set_cons_zero, List.set_cons_succ]) | (refine C_po rfl rfl ?_; simp only [Act.put, List.setIfInBounds_toArray, List.set_cons_zero, List.set_cons_succ]) | (refine C_so rfl rfl hS0 ?_; simp only [Act.put, List.setIfInBounds_toArray, List.set_cons_zero, List.set_cons_succ]) | (refine C_to rfl rfl ?_; simp only [Act.put, List.setIfInBounds_toArray, List.set_cons_zero, List.set_cons_succ])))
  refine C_nil ?_
  clear hup c0 q0 q1
  by_cases hz : l = 0
  · have g1 : ((l : Int) == 0) = true := by rw [hz]; rfl
    obtain ⟨w3, hdel, h3⟩ := run_delete_bmap (P := Tryz.prog) (ty := 0) (u := 3) Tryz.underlying60 Tryz.underlying3 h2 (n : Int) (by simp [fset])
    have H3 := Lib.hid h3
    have HZ := Lib.hid hz
    clear h2 h3 hz
    go_wp2_with fail
    go_end0
    refine ⟨rfl, nf2 - 1, ?_⟩
    rw [setF, if_pos HZ.out]
    have := H3.out.p1.drop
    simpa only [sep_comm, sep_lcomm, sep_assoc, fileV] using this
  · have g1 : ((l : Int) == 0) = false := by simp [hz]
    have H3 := Lib.hid h2
    have HZ := Lib.hid hz
    clear h2 hz
    go_wp2_with fail
    go_end0
    refine ⟨rfl, nf2, ?_⟩
    rw [setF, if_neg HZ.out]
    have := H3.out.p1.drop
    simpa only [sep_comm, sep_lcomm, sep_assoc, fileV] using this
theorem dset_spec {W w : World} {A : Assn} {I : Mem} (p : Nat) (s : DSt) (n : Nat) (a : Option Addr) (c d : Nat) (bs : List UInt8) (h : Sat W w (sep (isDisk p s) (sep (kn I) A))) (hv : rBytes.rel I [.slice a bs.length c] bs) (hok' : (s.put n (bs, d)).ok) :
    Calls Tryz.prog 31 #[.pointer (some ⟨p, 0, none⟩), .int .i64 (n : Nat), .agg #[.slice a bs.length c, .int .i64 (d : Nat)]] w fun e w' => e = .returned (.tuple #[]) ∧ Sat W w' (sep (isDisk p (s.put n (bs, d))) (sep (kn I) A)) := by
  obtain ⟨b, f, nf, left, hok, hpl, hl64, h0⟩ := isDisk_open h
  refine (dset_raw p b f nf _ _ _ _ n a bs.length c d h0).mono ?_
  rintro e w' ⟨rfl, nf', h1⟩
  refine ⟨rfl, isDisk_mk (b := b) (f := setF f n a bs.length c d) (n := nf') (left := left) hok' hpl hl64 ?_⟩
  have h4 := fokA_put (f' := setF f n a bs.length c d) (fs' := dset s.fs n (bs, d)) (show Sat W w' (sep (fokA f s.fs) (sep (kn I) (sep (bmap b (setF f n a bs.length c d) nf') (sep (blk p (.cells (diskC b s left) 62 (0, 0))) A)))) by (have := h1; simpa only [diskC, sep_comm, sep_lcomm, sep_assoc] using this)) ?_
  · show Sat W w' (sep (blk p (.cells (diskC b s left) 62 (0, 0))) (sep (bmap b (setF f n a bs.length c d) nf') (sep (fokA (setF f n a bs.length c d) (dset s.fs n (bs, d))) (sep (kn I) A))))
    simpa only [sep_comm, sep_lcomm, sep_assoc] using h4
  · intro J hJ hf
    by_cases hz : bs.length = 0
    · have hb : bs = [] := List.eq_nil_of_length_eq_zero hz
      subst hb
      rw [setF, if_pos hz]
      exact hf.del n d _
    · rw [setF, if_neg hz]
      exact hf.put n (a := a) (c := c) (d := d) (fun e => hz (by rw [e]; rfl)) (rBytes.mono hJ hv)
set_option maxHeartbeats 1000000 in
theorem darm_spec {W w : World} {A : Assn} (p : Nat) (s : DSt) (n : Int) (h : Sat W w (sep (isDisk p s) A)) (hn : I64' n) :
    Calls Tryz.prog 9 #[.pointer (some ⟨p, 0, none⟩), .int .i64 n] w fun e w' => e = .returned (.tuple #[]) ∧ Sat W w' (sep (isDisk p (armD s n)) A) := by
  obtain ⟨b, f, nf, left, hok, hpl, hl64, h0⟩ := isDisk_open h
  obtain ⟨room, fs, off, plan⟩ := s
  have c2 : w.cell? ⟨p, 2, none⟩ = some (.bool off) := h0.cell 2
  have c3 : w.cell? ⟨p, 3, none⟩ = some (.bool plan.isSome) := h0.cell 3
  have c4 : w.cell? ⟨p, 4, none⟩ = some (.int .i64 left) := h0.cell 4
  have f3 := h0.unfrozen 3
  have f4 := h0.unfrozen 4
  have H := Lib.hid h
  have H0 := Lib.hid h0
  have HN := Lib.hid hn
  obtain ⟨h1, h2, h3, h4, h5⟩ := hok
  have HOK := Lib.hid (And.intro h1 (And.intro h2 (And.intro h3 h4)))
  clear h h0 hn hpl hl64 h1 h2 h3 h4 h5
  cases off with
  | true =>
    go_enter Tryz.func9, Tryz.ntmps9
    go_wp2_with fail
    go_end0
    refine ⟨rfl, ?_⟩
    simpa [armD] using H.out
  | false =>
    by_cases hp : 0 ≤ n
    · go_enter Tryz.func9, Tryz.ntmps9
      go_wp2_with fail
      go_end0
      refine ⟨rfl, isDisk_mk (b := b) (f := f) (n := nf) (left := n) ?_ ?_ HN.out ?_⟩
      · refine ⟨HOK.out.1, HOK.out.2.1, HOK.out.2.2.1, HOK.out.2.2.2, fun q hq => ?_⟩
        have := HN.out.2
        simp [armD, hp] at hq
        omega
      · intro q hq
        simp [armD, hp] at hq
        omega
      · have h1 := (H0.out.setCell 3 (.bool true)).setCell 4 (.int .i64 n)
        simpa [diskC, armD, hp] using h1
    · go_enter Tryz.func9, Tryz.ntmps9
      go_wp2_with fail
      go_end0
      have hp' : ¬ 0 ≤ n := by omega
      refine ⟨rfl, isDisk_mk (b := b) (f := f) (n := nf) (left := n) ?_ ?_ HN.out ?_⟩
      · refine ⟨HOK.out.1, HOK.out.2.1, HOK.out.2.2.1, HOK.out.2.2.2, fun q hq => ?_⟩
        simp [armD, hp'] at hq
      · intro q hq
        simp [armD, hp'] at hq
      · have h1 := (H0.out.setCell 3 (.bool false)).setCell 4 (.int .i64 n)
        simpa [diskC, armD, hp'] using h1
end Go.Proofs.YtdaknmcmjnbfeaaGreat
