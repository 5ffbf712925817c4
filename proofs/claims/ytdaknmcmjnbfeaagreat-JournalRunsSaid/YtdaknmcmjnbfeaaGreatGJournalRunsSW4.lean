/- Package wire: the reader's Read, fail, next, End. -/
import Derived.Test.YtdaknmcmjnbfeaaGreatGJournalRuns32
namespace Go.Proofs.YtdaknmcmjnbfeaaGreat
open Go.RowKit PA
def isRd (T p : Nat) : RSt → Assn
  | .ok l => ex fun a : Option Addr => ex fun c : Nat => sep (blk p (.cells #[.slice a l.length c, .int .i64 0] T (0, 0))) (rBytes.is [.slice a l.length c] l)
  | .error e => ex fun v : Option Addr × Nat × Nat => sep (fact (0 < e)) (blk p (.cells #[.slice v.1 v.2.1 v.2.2, .int .i64 e] T (0, 0)))
section
variable {W w : World} {A : Assn} {T p : Nat} {l : List UInt8} {e : Int}
theorem isRd_ok (h : Sat W w (sep (isRd T p (.ok l)) A)) : ∃ a c, Swf a l.length c ∧ Sat W w (sep (blk p (.cells #[.slice a l.length c, .int .i64 0] T (0, 0))) (sep (rBytes.is [.slice a l.length c] l) A)) := by
  simp only [isRd, ex_sep, Sat.ex, sep_assoc] at h
  obtain ⟨a, c, h⟩ := h
  obtain ⟨a', c', e, hw, -⟩ := h.p1.bytes_open
  cases e
  exact ⟨a, c, hw, h⟩
theorem isRd_okmk {a : Option Addr} {n c : Nat} (hn : n = l.length) (h : Sat W w (sep (blk p (.cells #[.slice a n c, .int .i64 0] T (0, 0))) (sep (rBytes.is [.slice a n c] l) A))) : Sat W w (sep (isRd T p (.ok l)) A) := by
  subst hn
  simp only [isRd, ex_sep, Sat.ex, sep_assoc]
  exact ⟨a, c, h⟩
theorem isRd_er (h : Sat W w (sep (isRd T p (.error e)) A)) : 0 < e ∧ ∃ a n c, Sat W w (sep (blk p (.cells #[.slice a n c, .int .i64 e] T (0, 0))) A) := by
  simp only [isRd, ex_sep, Sat.ex, sep_assoc] at h
  obtain ⟨v, h⟩ := h
  obtain ⟨h1, h2⟩ := Sat.fact.1 h
  exact ⟨h1, _, _, _, h2⟩
theorem isRd_ermk {a : Option Addr} {n c : Nat} (he : 0 < e) (h : Sat W w (sep (blk p (.cells #[.slice a n c, .int .i64 e] T (0, 0))) A)) : Sat W w (sep (isRd T p (.error e)) A) := by
  simp only [isRd, ex_sep, Sat.ex, sep_assoc]
  exact ⟨(a, n, c), Sat.fact.2 ⟨he, h⟩⟩
end
/-- 's[k:]' of bytes that are known. -/
theorem _root_.PA.Sat.bytes_drop {W w : World} {A : Assn} {b o n c : Nat} {l : List UInt8} (k : Nat) (hn : n = l.length) (hk : k ≤ n) (h : Sat W w (sep (rBytes.is [.slice (some ⟨b, o, none⟩) n c] l) A)) :
    Sat W w (sep (rBytes.is [.slice (if c = k then some ⟨b, o, none⟩ else some ⟨b, o + k, none⟩) (n - k) (c - k)] (l.drop k)) A) := by
  subst hn
  refine h.wk ?_
  rintro I m ⟨x, y, h5, h6, ⟨h7, hr⟩, h9⟩
  refine ⟨x, y, h5, h6, ⟨h7, ?_⟩, h9⟩
  obtain ⟨a', c', e, hw, hc⟩ := bytes_rel.1 hr
  cases e
  have hl : (l.drop k).length = l.length - k := by simp
  refine bytes_rel.2 ⟨_, c - k, by rw [hl], ⟨by rw [hl]; have := hw.1; omega, by have := hw.2.1; omega, fun e => by split at e <;> cases e⟩, ?_⟩
  by_cases hck : c = k
  · left
    have : l.drop k = [] := List.drop_eq_nil_of_le (by have := hw.1; omega)
    rw [this]; rfl
  · rw [if_neg hck]
    rcases hc with hc | ⟨b', o', cs, t, f, e1, e2, e3⟩
    · left
      have : l = [] := by simpa using hc
      rw [this]; simp
    · cases e1
      right
      refine ⟨b, o + k, cs, t, f, rfl, e2, fun i u hu => ?_⟩
      rw [Nat.add_assoc]
      refine e3 (k + i) u ?_
      rw [List.map_drop, List.getElem?_drop] at hu
      exact hu
theorem _root_.PA.Sat.bytes_src {W w : World} {A : Assn} {a : Option Addr} {n c : Nat} {l : List UInt8} (h : Sat W w (sep (rBytes.is [.slice a n c] l) A)) : n = l.length ∧ Swf a n c ∧ (∀ b, a = some b → ∀ j u, (l.map bv)[j]? = some u → w.cell? (b.add j) = some u) ∧
    (∀ j (hj : j < l.length), ∃ b o, a = some ⟨b, o, none⟩ ∧ w.cell? ⟨b, o + j, none⟩ = some (.int .u8 (l[j].toNat : Nat))) := by
  obtain ⟨a', c', e, hw, h1⟩ := h.bytes_open
  cases e
  refine ⟨rfl, hw, fun b hb j u hu => ?_, fun j hj => ?_⟩
  · subst hb; exact h1.rsl_src j u hu
  · obtain ⟨b, o, e, hc⟩ := h1.rsl_at (fun e => by have := congrArg List.length e; simp at this; rw [this] at hj; simp at hj)
    exact ⟨b, o, e, hc j _ (by rw [List.getElem?_map, List.getElem?_eq_getElem hj]; rfl)⟩
theorem read_spec {W w : World} {A : Assn} (v : Value) (l : List UInt8) (h : Sat W w (sep (rBytes.is [v] l) A)) (hb : l.length ≤ 1073742900) :
    Calls Tryz.prog 76 #[v] w fun e w' => ∃ p, e = .returned (.pointer (some ⟨p, 0, none⟩)) ∧ Sat W w' (sep (isRd 118 p (.ok l)) (sep (rBytes.is [v] l) A)) := by
  obtain ⟨a, c, rfl, hsw, -⟩ := h.bytes_open
  obtain ⟨-, -, hsrc, -⟩ := h.bytes_src
  have hcl := clone_any a l.length c (l.map bv) h hsrc (by simp) hsw (bv_one l) (by omega)
  have HCL := Lib.hid hcl
  clear hsrc hcl hsw hb h
  go_enter Tryz.func76, Tryz.ntmps76
  go_wp2_with fail
  refine HCL.out.mono ?_
  rintro e w2 ⟨a2, c2, rfl, hS⟩
  have h2 := hS.bytes_of_osl.2
  have h3 := h2.alloc (.cells #[.slice a2 l.length c2, .int .i64 0] 118)
  clear hS h2
  go_wp2_with fail
  go_ret
  exact ⟨w2.heap.size, rfl, isRd_okmk rfl h3⟩
theorem fail_ok {W w : World} {A : Assn} (p : Nat) (l : List UInt8) (e : Int) (he : 0 < e) (h : Sat W w (sep (isRd 118 p (.ok l)) A)) :
    Calls Tryz.prog 91 #[.pointer (some ⟨p, 0, none⟩), .int .i64 e] w fun r w' => r = .returned (.tuple #[]) ∧ Sat W w' (sep (isRd 118 p (.error e)) A) := by
  obtain ⟨a, c, -, h1⟩ := isRd_ok h
  have c1 : w.cell? ⟨p, 1, none⟩ = some (.int .i64 0) := h1.cell 1
  have f1 : w.frozen? ⟨p, 1, none⟩ = false := h1.unfrozen 1
  have h2 : Sat W (w.setCell ⟨p, 1, none⟩ (.int .i64 e)) (sep (blk p (.cells #[.slice a l.length c, .int .i64 e] 118 (0, 0))) (sep (rBytes.is [.slice a l.length c] l) A)) := h1.setCell 1 _
  have h3 := h2.p1.tail
  clear h h1 h2
  go_enter Tryz.func91, Tryz.ntmps91
  go_wp2_with fail
  go_end0
  exact ⟨rfl, isRd_ermk he h3⟩
theorem fail_er {W w : World} {A : Assn} (p : Nat) (e e' : Int) (h : Sat W w (sep (isRd 118 p (.error e)) A)) :
    Calls Tryz.prog 91 #[.pointer (some ⟨p, 0, none⟩), .int .i64 e'] w fun r w' => r = .returned (.tuple #[]) ∧ Sat W w' (sep (isRd 118 p (.error e)) A) := by
  obtain ⟨he, a, n, c, h1⟩ := isRd_er h
  have c1 : w.cell? ⟨p, 1, none⟩ = some (.int .i64 e) := h1.cell 1
  have b1 : (e == 0) = false := by simp; omega
  clear h1 he
  go_enter Tryz.func91, Tryz.ntmps91
  go_wp2_with fail
  go_end0
  exact ⟨rfl, h⟩
theorem next_ok {W w : World} {A : Assn} (p : Nat) (x : UInt8) (l : List UInt8) (h : Sat W w (sep (isRd 118 p (.ok (x :: l))) A)) (hl : l.length ≤ 1073742900) :
    Calls Tryz.prog 90 #[.pointer (some ⟨p, 0, none⟩)] w fun r w' => r = .returned (.int .u8 (x.toNat : Nat)) ∧ Sat W w' (sep (isRd 118 p (.ok l)) A) := by
  obtain ⟨a, c, hw, h1⟩ := isRd_ok h
  obtain ⟨-, -, -, hc⟩ := h1.p1.bytes_src
  obtain ⟨b, o, rfl, hc0⟩ := hc 0 (by simp)
  simp only [List.getElem_cons_zero, Nat.add_zero] at hc0
  obtain ⟨n, hn⟩ : ∃ n, n = (x :: l).length := ⟨_, rfl⟩
  have hn1 : n = l.length + 1 := by rw [hn]; rfl
  rw [← hn] at h1 hw
  have hnp : 0 < n := by omega
  have hnI : (0 : Int) < n := by omega
  have hnI2 : (n : Int) ≤ 1073742901 := by omega
  have hnc : n ≤ c := hw.1
  have hnB : ((n : Int) == 0) = false := by simp; omega
  have hcI : (c : Int) ≤ 9223372036854775807 := by have := hw.2.1; unfold maxLen at this; omega
  have hn1I : (1 : Int) ≤ n := by omega
  have c0 : w.cell? ⟨p, 0, none⟩ = some (.slice (some ⟨b, o, none⟩) n c) := h1.cell 0
  have c1 : w.cell? ⟨p, 1, none⟩ = some (.int .i64 0) := h1.cell 1
  have f0 : w.frozen? ⟨p, 0, none⟩ = false := h1.unfrozen 0
  have h2 : ∀ v, Sat W (w.setCell ⟨p, 0, none⟩ v) (sep (blk p (.cells #[v, .int .i64 0] 118 (0, 0))) (sep (rBytes.is [.slice (some ⟨b, o, none⟩) n c] (x :: l)) A)) := fun v => h1.setCell 0 v
  have H2 := Lib.hid h2
  have HN := Lib.hid hn
  have HN1 := Lib.hid hn1
  clear h h1 h2 hn hn1 hl hw hc
  by_cases hc1 : c = 1
  · have h3 := fun v => (H2.out v).p1.bytes_drop 1 HN.out (by omega)
    rw [if_pos hc1] at h3
    subst hc1
    obtain rfl : n = 1 := by omega
    have H3 := Lib.hid h3
    clear h3
    go_enter Tryz.func90, Tryz.ntmps90
    go_wp2_with fail
    go_ret
    exact ⟨rfl, isRd_okmk (by have := HN1.out; omega) (a := some ⟨b, o, none⟩) (n := 0) (c := 0) (H3.out _).p1⟩
  · have h3 := fun v => (H2.out v).p1.bytes_drop 1 HN.out (by omega)
    rw [if_neg hc1] at h3
    have H3 := Lib.hid h3
    clear h3
    go_enter Tryz.func90, Tryz.ntmps90
    go_wp2_with fail
    go_ret
    exact ⟨rfl, isRd_okmk (by have := HN1.out; omega) (a := some ⟨b, o + 1, none⟩) (n := n - 1) (c := c - 1) (H3.out _).p1⟩
theorem next_nil {W w : World} {A : Assn} (p : Nat) (h : Sat W w (sep (isRd 118 p (.ok [])) A)) :
    Calls Tryz.prog 90 #[.pointer (some ⟨p, 0, none⟩)] w fun r w' => r = .returned (.int .u8 0) ∧ Sat W w' (sep (isRd 118 p (.error 3)) A) := by
  obtain ⟨a, c, hw, h1⟩ := isRd_ok h
  have c0 : w.cell? ⟨p, 0, none⟩ = some (.slice a 0 c) := h1.cell 0
  have c1 : w.cell? ⟨p, 1, none⟩ = some (.int .i64 0) := h1.cell 1
  clear h1 hw
  go_enter Tryz.func90, Tryz.ntmps90
  go_wp2_with fail
  refine (fail_ok p [] 3 (by omega) h).mono ?_
  rintro e w2 ⟨rfl, hS⟩
  obtain ⟨-, a2, n2, c2, h2⟩ := isRd_er hS
  have c1' : w2.cell? ⟨p, 1, none⟩ = some (.int .i64 3) := h2.cell 1
  clear h2 c0 c1
  go_wp2_with fail
  go_ret
  exact ⟨rfl, hS⟩
theorem next_er {W w : World} {A : Assn} (p : Nat) (e : Int) (h : Sat W w (sep (isRd 118 p (.error e)) A)) :
    Calls Tryz.prog 90 #[.pointer (some ⟨p, 0, none⟩)] w fun r w' => r = .returned (.int .u8 0) ∧ Sat W w' (sep (isRd 118 p (.error e)) A) := by
  obtain ⟨he, a, n, c, h1⟩ := isRd_er h
  have c0 : w.cell? ⟨p, 0, none⟩ = some (.slice a n c) := h1.cell 0
  have c1 : w.cell? ⟨p, 1, none⟩ = some (.int .i64 e) := h1.cell 1
  have b1 : (e == 0) = false := by simp; omega
  have b2 : (e != 0) = true := by simp; omega
  have HE := Lib.hid he
  clear h1 he
  by_cases hn : n = 0
  · subst hn
    go_enter Tryz.func90, Tryz.ntmps90
    go_wp2_with fail
    refine (fail_er p e 3 h).mono ?_
    rintro e w2 ⟨rfl, hS⟩
    obtain ⟨-, a2, n2, c2, h2⟩ := isRd_er hS
    have c1' := h2.cell 1
    simp only [List.getElem?_toArray, List.getElem?_cons_succ, List.getElem?_cons_zero] at c1'
    clear h2 c0 c1
    go_wp2_with fail
    go_ret
    exact ⟨rfl, hS⟩
  · have hnB : ((n : Int) == 0) = false := by simp; omega
    clear hn
    go_enter Tryz.func90, Tryz.ntmps90
    go_wp2_with fail
    go_ret
    exact ⟨rfl, h⟩
end Go.Proofs.YtdaknmcmjnbfeaaGreat
