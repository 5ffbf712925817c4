/- Literals of bytes and of other one-cell elements. -/
import Derived.Test.YtdaknmcmjnbfeaaGreatGJournalRuns7
import Derived.Test.YtdaknmcmjnbfeaaGreatGJournalRunsSD8
namespace Go.Proofs.YtdaknmcmjnbfeaaGreat
open Go.RowKit PA
theorem litB {W w : World} {A : Assn} {I : Mem} (h : Sat W w (sep (kn I) A)) (bs : List UInt8) (t : TypeId) (hb : bs.length ≤ maxLen) :
    ∃ J, Mem.le I J ∧ rBytes.rel J [.slice (some ⟨w.heap.size, 0, none⟩) bs.length bs.length] bs ∧ Sat W (w.alloc (.cells (bs.map bv).toArray t)) (sep (kn J) A) := by
  obtain ⟨J, h1, h2, h3⟩ := (h.bytes_of_alloc bs t (0, 0) hb).learn
  exact ⟨J, h1, h2, h3⟩
theorem litI {W w : World} {A : Assn} {I : Mem} (h : Sat W w (sep (kn I) A)) (ns : List Int) (t : TypeId) (hb : ns.length ≤ maxLen) :
    ∃ J, Mem.le I J ∧ (rInt.slice 1).rel J [.slice (some ⟨w.heap.size, 0, none⟩) ns.length ns.length] ns ∧ Sat W (w.alloc (.cells (ns.map iv).toArray t)) (sep (kn J) A) := by
  have h1 := (h.alloc (.cells (ns.map iv).toArray t)).settle
  obtain ⟨J, hle, hp, h2⟩ := (show Sat W _ (sep (imm w.heap.size (.cells (ns.map iv).toArray t)) (sep (kn I) A)) from h1).learn
  refine ⟨J, hle, ints_rel.2 ⟨_, _, rfl, ⟨Nat.le_refl _, hb, fun h => by cases h⟩, .inr ⟨w.heap.size, 0, _, t, (0, 0), rfl, hp, fun i u hu => by simpa using hu⟩⟩, h2⟩
theorem litO {W w : World} {A : Assn} {E : Nat} (h : Sat W w A) (xs : List Value) (n : Nat) (hn : n = xs.length) (hl : n ≤ maxLen) : Sat W (w.alloc (.cells xs.toArray E)) (sep (osl E 1 (some ⟨w.heap.size, 0, none⟩) n n xs) A) := by
  subst hn
  exact (h.alloc (.cells xs.toArray E)).osl_mk xs.length xs.length 1 xs (by simp) (Nat.le_refl _) hl (by simp) (by simp)
theorem nilB (I : Mem) : rBytes.rel I [.slice none 0 0] [] := bytes_rel.2 ⟨none, 0, rfl, ⟨Nat.le_refl _, Nat.zero_le _, fun _ => rfl⟩, .inl rfl⟩
theorem nilI (I : Mem) : (rInt.slice 1).rel I [.slice none 0 0] [] := ints_rel.2 ⟨none, 0, rfl, ⟨Nat.le_refl _, Nat.zero_le _, fun _ => rfl⟩, .inl rfl⟩
end Go.Proofs.YtdaknmcmjnbfeaaGreat
/- Package disk: the example of the section. -/
namespace Go.Proofs.YtdaknmcmjnbfeaaGreat
open Go.RowKit PA
end Go.Proofs.YtdaknmcmjnbfeaaGreat
/- The reference's disk: what it holds; Used, Files, fails, step, Arm. -/
namespace Go.Proofs.YtdaknmcmjnbfeaaGreat
open Go.RowKit PA
def rowC (V : Nat → Value) : Array Value := ((List.range 64).map V).toArray
def vset (V : Nat → Value) (i : Nat) (v : Value) : Nat → Value := fun j => if j = i then v else V j
theorem rowC_get (V : Nat → Value) {i : Nat} (h : i < 64) : (rowC V)[i]? = some (V i) := by
  simp [rowC, h]
theorem rowC_size (V : Nat → Value) : (rowC V).size = 64 := by simp [rowC]
theorem rowC_set (V : Nat → Value) (i : Nat) (v : Value) : (rowC V).setIfInBounds i v = rowC (vset V i v) := by
  apply Array.ext
  · simp [rowC]
  · intro j h1 h2
    have hj : j < 64 := by rw [rowC_size] at h2; exact h2
    rw [Array.getElem_setIfInBounds]
    · simp only [rowC, List.getElem_toArray, List.getElem_map, List.getElem_range, vset]
      by_cases e : i = j
      · subst e; simp
      · simp [e, Ne.symm e]
    · simpa [rowC] using hj
theorem rowC_congr {V V' : Nat → Value} (h : ∀ j, j < 64 → V j = V' j) : rowC V = rowC V' := by
  unfold rowC
  congr 1
  exact List.map_congr_left fun j hj => h j (List.mem_range.1 hj)
def planI : Option Nat → Int
  | none => -1
  | some q => q
def firmV (fs : Nat → File) (j : Nat) : Value := .int .i64 ((fs j).2 : Nat)
def rdC (B F : Nat) (s : DSt) : Array Value := #[.int .i64 (s.room : Nat), .slice (some ⟨B, 0, none⟩) 64 64, .slice (some ⟨F, 0, none⟩) 64 64, .bool s.off, .int .i64 (planI s.plan)]
def FOKr (I : Mem) (V : Nat → Value) (fs : Nat → File) : Prop := ∀ j, j < 64 → rBytes.rel I [V j] (fs j).1
def fokr (V : Nat → Value) (fs : Nat → File) : Assn := pers (fun I => FOKr I V fs) fun _ _ hl h j hj => rBytes.mono hl (h j hj)
def isRD (p : Nat) (s : DSt) : Assn := ex fun x : Nat × Nat × (Nat → Value) =>
  sep (fact s.ok) (sep (fokr x.2.2 s.fs) (sep (blk x.1 (.cells (rowC x.2.2) 39 (0, 0))) (sep (blk x.2.1 (.cells (rowC (firmV s.fs)) 3 (0, 0))) (blk p (.cells (rdC x.1 x.2.1 s) 50 (0, 0))))))
section
variable {W w : World} {A : Assn}
theorem isRD_open {p : Nat} {s : DSt} (h : Sat W w (sep (isRD p s) A)) : ∃ B F V, s.ok ∧
    Sat W w (sep (blk p (.cells (rdC B F s) 50 (0, 0))) (sep (blk B (.cells (rowC V) 39 (0, 0))) (sep (blk F (.cells (rowC (firmV s.fs)) 3 (0, 0))) (sep (fokr V s.fs) A)))) := by
  rw [isRD, ex_sep, Sat.ex] at h
  obtain ⟨⟨B, F, V⟩, h⟩ := h
  rw [sep_assoc] at h
  obtain ⟨h1, h2⟩ := Sat.fact.1 h
  exact ⟨B, F, V, h1, by simpa only [sep_comm, sep_lcomm, sep_assoc] using h2⟩
theorem isRD_mk {p : Nat} {s : DSt} {B F : Nat} {V : Nat → Value} (h1 : s.ok)
    (h : Sat W w (sep (blk p (.cells (rdC B F s) 50 (0, 0))) (sep (blk B (.cells (rowC V) 39 (0, 0))) (sep (blk F (.cells (rowC (firmV s.fs)) 3 (0, 0))) (sep (fokr V s.fs) A))))) : Sat W w (sep (isRD p s) A) := by
  rw [isRD, ex_sep, Sat.ex]
  refine ⟨(B, F, V), ?_⟩
  rw [sep_assoc]
  exact Sat.fact.2 ⟨h1, by simpa only [sep_comm, sep_lcomm, sep_assoc] using h⟩
theorem isRD_ok {p : Nat} {s : DSt} (h : Sat W w (sep (isRD p s) A)) : s.ok := by
  obtain ⟨_, _, _, h1, _⟩ := isRD_open h; exact h1
/-- One file's bytes. -/
theorem fokr_at {V : Nat → Value} {fs : Nat → File} (h : Sat W w (sep (fokr V fs) A)) {j : Nat} (hj : j < 64) : ∃ a c, V j = .slice a (fs j).1.length c ∧ Swf a (fs j).1.length c ∧ Sat W w (sep (rBytes.is [.slice a (fs j).1.length c] (fs j).1) (sep (fokr V fs) A)) := by
  obtain ⟨a, c, e, hw, -⟩ := bytes_rel.1 (h.pers_heap j hj)
  refine ⟨a, c, e, hw, h.dup.wk ?_⟩
  rintro I m ⟨x, y, h1, h2, ⟨h3, h4⟩, h5⟩
  refine ⟨x, y, h1, h2, ⟨h3, ?_⟩, h5⟩
  have := h4 j hj
  rw [e] at this
  exact this
theorem fokr_cell {V : Nat → Value} {fs : Nat → File} (h : Sat W w (sep (fokr V fs) A)) {j : Nat} (hj : j < 64) : ∃ a c, V j = .slice a (fs j).1.length c ∧ Swf a (fs j).1.length c := by
  obtain ⟨a, c, e, hw, -⟩ := fokr_at h hj
  exact ⟨a, c, e, hw⟩
end
theorem sumTo_succ (g : Nat → Nat) (n : Nat) : sumTo g (n + 1) = sumTo g n + g n := rfl
theorem sumTo_mono {g : Nat → Nat} : ∀ {n m : Nat}, n ≤ m → sumTo g n ≤ sumTo g m
  | n, 0, h => by obtain rfl : n = 0 := by omega
                  exact Nat.le_refl _
  | n, m + 1, h => by
    rw [sumTo_succ]
    by_cases e : n = m + 1
    · subst e; rw [sumTo_succ]; exact Nat.le_refl _
    · have := sumTo_mono (g := g) (n := n) (m := m) (by omega); omega
set_option maxRecDepth 100000 in
set_option maxHeartbeats 1000000 in
theorem rdused_spec {W w : World} {A : Assn} (p : Nat) (s : DSt) (h : Sat W w (sep (isRD p s) A)) :
    Calls Tryz.prog 52 #[.pointer (some ⟨p, 0, none⟩)] w fun e w' => e = .returned (.int .i64 (s.used : Nat)) ∧ Sat W w' (sep (isRD p s) A) := by
  obtain ⟨B, F, V, hok, h0⟩ := isRD_open h
  have H := Lib.hid h
  have H0 := Lib.hid h0
  obtain ⟨g, hg⟩ : ∃ g : Nat → Nat, g = fun j => (s.fs j).1.length := ⟨_, rfl⟩
  have hsum : ∀ i, i ≤ 64 → sumTo g i ≤ 16777216 := fun i hi => by
    have h1 := sumTo_mono (g := g) hi
    have h2 : sumTo g 64 = s.used := by rw [hg]; rfl
    have := hok.fit; have := hok.room
    omega
  have HS := Lib.hid hsum
  have HG := Lib.hid hg
  have c1 : w.cell? ⟨p, 1, none⟩ = some (.slice (some ⟨B, 0, none⟩) 64 64) := h0.cell 1
  clear hsum hg hok h h0
  go_enter Tryz.func52, Tryz.ntmps52
  go_wp2_with fail
  go_loopw [3, 4] (fun nv iv' wr => ∃ i n : Nat, i ≤ 64 ∧ iv' = .int .i64 (i : Nat) ∧ nv = .int .i64 (n : Nat) ∧ Hid (n = sumTo g i) ∧ wr = w) (fun _ iv' _ => 64 - (intOf iv').toNat)
  case atStart => exact ⟨0, 0, by omega, rfl, rfl, Lib.hid rfl, rfl⟩
  case round =>
    obtain ⟨i, n, hi, rfl, rfl, HN, rfl⟩ := hrel
    by_cases hi64 : i < 64
    · obtain ⟨a, c, hv, hsw⟩ := fokr_cell H0.out.p3 hi64
      obtain ⟨l, hl⟩ : ∃ l, l = (s.fs i).1.length := ⟨_, rfl⟩
      rw [← hl] at hv
      have hc2 : wr.cell? ⟨B, i, none⟩ = some (.slice a l c) := by rw [H0.out.p1.cell i, rowC_get _ hi64, hv]
      have hn1 := HS.out i hi
      have hn2 := HS.out (i + 1) hi64
      rw [← HN.out] at hn1
      rw [sumTo_succ, ← HN.out, show g i = l from by rw [HG.out, hl]] at hn2
      have HL := Lib.hid hl
      clear hv hsw hl
      go_wp2_with fail
      go_roundw
      case rel => exact ⟨i + 1, n + l, hi64, rfl, rfl, Lib.hid (by rw [sumTo_succ, HN.out, show g i = l from by rw [HG.out, HL.out]]), trivial⟩
      case measure => simp only [intOf]; omega
    · have hi' : i = 64 := by omega
      have hn : n = s.used := by rw [HN.out, hi', HG.out]; rfl
      have HNU := Lib.hid hn
      clear hn hi'
      go_wp2_with fail
      go_ret
      exact ⟨by rw [← HNU.out]; rfl, H.out⟩
def filesTo (fs : Nat → File) (i : Nat) : List Nat := (List.range i).filter fun j => !(fs j).1.isEmpty
theorem filesTo_succ (fs : Nat → File) (i : Nat) : filesTo fs (i + 1) = if (fs i).1 = [] then filesTo fs i else filesTo fs i ++ [i] := by
  unfold filesTo
  rw [List.range_succ, List.filter_append]
  by_cases h : (fs i).1 = []
  · simp [h]
  · simp [h]
theorem filesTo_len (fs : Nat → File) (i : Nat) : (filesTo fs i).length ≤ i := by
  have := List.length_filter_le (fun j => !(fs j).1.isEmpty) (List.range i)
  simpa [filesTo] using this
set_option maxRecDepth 100000 in
set_option maxHeartbeats 1000000 in
theorem rdfiles_spec {W w : World} {A : Assn} (p : Nat) (s : DSt) (h : Sat W w (sep (isRD p s) A)) :
    Calls Tryz.prog 33 #[.pointer (some ⟨p, 0, none⟩)] w fun e w' => ∃ a c, e = .returned (.slice a (filesD s.fs).length c) ∧ Sat W w' (sep (osl 3 1 a (filesD s.fs).length c ((filesD s.fs).map fun j : Nat => iv j)) (sep (isRD p s) A)) := by
  have h1 := h.osl_nil 3 1
  clear h
  go_enter Tryz.func33, Tryz.ntmps33
  go_wp2_with fail
  go_loopw [3, 4] (fun lv iv' wr => ∃ (i n : Nat) (a : Option Addr) (c : Nat) (vs : List Value), i ≤ 64 ∧ iv' = .int .i64 (i : Nat) ∧ lv = .slice a n c ∧ n ≤ i ∧ Hid (n = (filesTo s.fs i).length ∧ vs = (filesTo s.fs i).map fun j : Nat => iv j) ∧ Sat W wr (sep (osl 3 1 a n c vs) (sep (isRD p s) A))) (fun _ iv' _ => 64 - (intOf iv').toNat)
  case atStart => exact ⟨0, 0, none, 0, [], by omega, rfl, rfl, by omega, Lib.hid ⟨rfl, rfl⟩, h1⟩
  case round =>
    clear h1
    obtain ⟨i, n, a, c, vs, hi, rfl, rfl, hni, HN, hS⟩ := hrel
    by_cases hi64 : i < 64
    · obtain ⟨B, F, V, hok, h0⟩ := isRD_open hS.p1
      have c1 : wr.cell? ⟨p, 1, none⟩ = some (.slice (some ⟨B, 0, none⟩) 64 64) := h0.cell 1
      obtain ⟨a2, c2, hv, hsw⟩ := fokr_cell h0.p3 hi64
      obtain ⟨l, hl⟩ : ∃ l, l = (s.fs i).1.length := ⟨_, rfl⟩
      rw [← hl] at hv
      have hc2 : wr.cell? ⟨B, i, none⟩ = some (.slice a2 l c2) := by rw [h0.p1.cell i, rowC_get _ hi64, hv]
      have hfs := filesTo_succ s.fs i
      by_cases hl0 : l = 0
      · subst hl0
        have he : (s.fs i).1 = [] := List.eq_nil_of_length_eq_zero hl.symm
        rw [if_pos he] at hfs
        have HFS := Lib.hid hfs
        clear hv hsw hl he hfs h0 hok
        go_wp2_with fail
        go_roundw
        case rel => exact ⟨i + 1, n, a, c, vs, hi64, rfl, rfl, by omega, Lib.hid (by rw [HFS.out]; exact HN.out), hS⟩
        case measure => simp only [intOf]; omega
      · have hl0I : (l : Int) > 0 := by omega
        have he : ¬ (s.fs i).1 = [] := fun e => hl0 (by rw [hl, e]; rfl)
        rw [if_neg he] at hfs
        have HFS := Lib.hid hfs
        have h2 := (hS.alloc (.cells #[.int .i64 (i : Nat)] 3)).p1
        clear hv hsw hl he hfs h0 hok hl0 hS
        go_wp2_with (at_builtin; refine wpl_append_osl rfl (.tmp 18) (.tmp 20) 22 rfl 3 1 8 (.int .i64 0) Tryz.underlying22 infoInt rfl rfl h2 rfl [.int .i64 (i : Nat)] rfl (by simp) (by intro b hb; cases hb; exact new_src _ [_] _) (by simp [Value.oneCell']) (by omega) (by unfold maxLen; omega) ?_)
        intro a3 c3 w3 h3
        have h4 := h3.p1.drop
        clear h2 h3 hc2
        go_wp2_with fail
        go_roundw
        case rel => exact ⟨i + 1, n + 1, a3, c3, _, hi64, rfl, rfl, by omega, Lib.hid ⟨by rw [HFS.out, List.length_append, ← HN.out.1]; rfl, by rw [HFS.out, List.map_append, ← HN.out.2]; rfl⟩, h4⟩
        case measure => simp only [intOf]; omega
    · obtain rfl : i = 64 := by omega
      have h2 := hS
      rw [HN.out.2] at h2
      have hn : n = (filesD s.fs).length := HN.out.1
      have HNN := Lib.hid hn
      have H2 := Lib.hid h2
      clear hS h2 hn
      go_wp2_with fail
      go_ret
      refine ⟨a, c, by rw [← HNN.out]; rfl, ?_⟩
      rw [← HNN.out]
      exact H2.out
theorem planI_step {s : DSt} (h : s.off = false) (q : Nat) (hq : s.plan = some q) : planI (s.step.2).plan = (q : Int) - 1 ∧ s.step.2.off = decide (q = 0) ∧ s.step.1 = !decide (q = 0) := by
  unfold DSt.step
  rw [hq]
  cases q with
  | zero => simp [planI]
  | succ q => simp [planI, h]
set_option maxHeartbeats 1000000 in
theorem rdfails_spec {W w : World} {A : Assn} (p : Nat) (s : DSt) (q : Nat) (h : Sat W w (sep (isRD p s) A)) (hoff : s.off = false) (hp : s.plan = some q) :
    Calls Tryz.prog 65 #[.pointer (some ⟨p, 0, none⟩)] w fun e w' => e = .returned (.bool (!s.step.1)) ∧ Sat W w' (sep (isRD p s.step.2) A) := by
  obtain ⟨B, F, V, hok, h0⟩ := isRD_open h
  have hfs := s.step_fs
  have hok2 := hok.step
  have c3 : w.cell? ⟨p, 3, none⟩ = some (.bool s.off) := h0.cell 3
  have c4 : w.cell? ⟨p, 4, none⟩ = some (.int .i64 (planI s.plan)) := h0.cell 4
  have f3 := h0.unfrozen 3
  have f4 := h0.unfrozen 4
  have hq := hok.plan q hp
  rw [hp] at c4
  rw [hoff] at c3
  have c4' : w.cell? ⟨p, 4, none⟩ = some (.int .i64 (q : Nat)) := c4
  obtain ⟨e1, e2, e3⟩ := planI_step hoff q hp
  have fin : ∀ w', Sat W w' (sep (blk p (.cells #[.int .i64 (s.room : Nat), .slice (some ⟨B, 0, none⟩) 64 64, .slice (some ⟨F, 0, none⟩) 64 64, .bool (decide (q = 0)), .int .i64 ((q : Int) - 1)] 50 (0, 0))) (sep (blk B (.cells (rowC V) 39 (0, 0))) (sep (blk F (.cells (rowC (firmV s.fs)) 3 (0, 0))) (sep (fokr V s.fs) A)))) → Sat W w' (sep (isRD p s.step.2) A) := fun w' hw => by
    refine isRD_mk (B := B) (F := F) (V := V) hok2 ?_
    rw [rdC, e1, e2, hfs.1, hfs.2]
    exact hw
  have FIN := Lib.hid fin
  rw [e3]
  by_cases hq0 : q = 0
  · subst hq0
    have h1 := (h0.setCell 4 (.int .i64 (-1))).setCell 3 (.bool true)
    have H1 := Lib.hid h1
    clear fin e1 e2 e3 h0 h1 hfs hok2 hok hp h c4 hoff
    go_enter Tryz.func65, Tryz.ntmps65
    go_wp2_with fail
    go_ret
    exact ⟨rfl, FIN.out _ H1.out⟩
  · obtain ⟨r, rfl⟩ : ∃ r, q = r + 1 := ⟨q - 1, by omega⟩
    have hqI : ((r + 1 : Nat) : Int) - 1 = (r : Int) := by omega
    have hmx : max (r : Int) (-2) = (r : Int) := by omega
    have h1 := h0.setCell 4 (.int .i64 (r : Nat))
    have hdq : decide (r + 1 = 0) = false := by simp
    have hne : ((r : Int) == -1) = false := by simp <;> omega
    rw [hqI, hdq] at FIN
    rw [hdq]
    have HF : Hid (Sat W (w.setCell ⟨p, 4, none⟩ (.int .i64 (r : Nat))) (sep (isRD p s.step.2) A)) := Lib.hid (FIN.out _ (by
      have h2 : Sat W (w.setCell ⟨p, 4, none⟩ (.int .i64 (r : Nat))) (sep (blk p (.cells #[.int .i64 (s.room : Nat), .slice (some ⟨B, 0, none⟩) 64 64, .slice (some ⟨F, 0, none⟩) 64 64, .bool s.off, .int .i64 (r : Nat)] 50 (0, 0))) _) := h1
      rw [hoff] at h2
      exact h2))
    clear fin e1 e2 e3 h0 h1 hfs hok2 hok hp h c4 hoff FIN hq0 hdq
    go_enter Tryz.func65, Tryz.ntmps65
    go_wp2_with fail
    go_ret
    exact ⟨rfl, HF.out⟩
/-- 'step' of the reference says whether the power fails. -/
theorem rdstep_spec {W w : World} {A : Assn} (p : Nat) (s : DSt) (h : Sat W w (sep (isRD p s) A)) (hoff : s.off = false) :
    Calls Tryz.prog 47 #[.pointer (some ⟨p, 0, none⟩)] w fun e w' => e = .returned (.bool (!s.step.1)) ∧ Sat W w' (sep (isRD p s.step.2) A) := by
  obtain ⟨B, F, V, hok, h0⟩ := isRD_open h
  have c4 : w.cell? ⟨p, 4, none⟩ = some (.int .i64 (planI s.plan)) := h0.cell 4
  cases hp : s.plan with
  | none =>
    have e1 : s.step = (true, s) := by unfold DSt.step; rw [hp]
    rw [e1]
    rw [hp] at c4
    have c4' : w.cell? ⟨p, 4, none⟩ = some (.int .i64 (-1)) := c4
    have H := Lib.hid h
    clear c4 h0 hok h e1 hp hoff
    go_enter Tryz.func47, Tryz.ntmps47
    go_wp2_with fail
    go_ret
    exact ⟨rfl, H.out⟩
  | some q =>
    rw [hp] at c4
    have c4' : w.cell? ⟨p, 4, none⟩ = some (.int .i64 (q : Nat)) := c4
    have HF := Lib.hid (rdfails_spec p s q h hoff hp)
    have hg : ¬ (q : Int) < 0 := by omega
    obtain ⟨b, hb⟩ : ∃ b, b = !s.step.1 := ⟨_, rfl⟩
    rw [← hb] at HF ⊢
    clear c4 h0 hok h hp hoff hb
    go_enter Tryz.func47, Tryz.ntmps47
    go_wp2_with fail
    refine HF.out.mono ?_
    rintro e w2 ⟨rfl, h2⟩
    clear HF
    go_wp2_with fail
    go_ret
    exact ⟨rfl, h2⟩
theorem rdarm_spec {W w : World} {A : Assn} (p : Nat) (s : DSt) (n : Int) (h : Sat W w (sep (isRD p s) A)) (hn : I64' n) :
    Calls Tryz.prog 10 #[.pointer (some ⟨p, 0, none⟩), .int .i64 n] w fun e w' => e = .returned (.tuple #[]) ∧ Sat W w' (sep (isRD p (armD s n)) A) := by
  obtain ⟨B, F, V, hok, h0⟩ := isRD_open h
  have c3 : w.cell? ⟨p, 3, none⟩ = some (.bool s.off) := h0.cell 3
  have c4 : w.cell? ⟨p, 4, none⟩ = some (.int .i64 (planI s.plan)) := h0.cell 4
  have f4 := h0.unfrozen 4
  cases hoff : s.off with
  | true =>
    rw [hoff] at c3
    have e : armD s n = s := by simp [armD, hoff]
    rw [e]
    have H := Lib.hid h
    clear c4 f4 h0 hok h e hoff hn
    go_enter Tryz.func10, Tryz.ntmps10
    go_wp2_with fail
    go_end0
    exact ⟨rfl, H.out⟩
  | false =>
    rw [hoff] at c3
    have hpl : planI (armD s n).plan = max n (-1) := by
      simp only [armD, hoff, Bool.false_eq_true, if_false]
      by_cases h0 : 0 ≤ n
      · rw [if_pos h0]; simp only [planI]; omega
      · rw [if_neg h0]; simp only [planI]; omega
    have hok2 : (armD s n).ok := by
      obtain ⟨h1, h2, h3, h4, h5⟩ := hok
      simp only [armD, hoff, Bool.false_eq_true, if_false]
      refine ⟨h1, h2, h3, h4, fun q hq => ?_⟩
      have := hn.2
      by_cases h0 : 0 ≤ n
      · simp [h0] at hq; omega
      · simp [h0] at hq
    have e1 : (armD s n).room = s.room ∧ (armD s n).fs = s.fs ∧ (armD s n).off = s.off := by simp [armD, hoff]
    have h1 := h0.setCell 4 (.int .i64 (max n (-1)))
    have HF : Hid (Sat W (w.setCell ⟨p, 4, none⟩ (.int .i64 (max n (-1)))) (sep (isRD p (armD s n)) A)) := Lib.hid (isRD_mk (B := B) (F := F) (V := V) hok2 (by
      rw [rdC, hpl, e1.1, e1.2.1, e1.2.2]
      exact h1))
    clear h0 hok h hoff hn hpl hok2 e1 h1
    go_enter Tryz.func10, Tryz.ntmps10
    go_wp2_with fail
    go_end0
    exact ⟨rfl, HF.out⟩
end Go.Proofs.YtdaknmcmjnbfeaaGreat
