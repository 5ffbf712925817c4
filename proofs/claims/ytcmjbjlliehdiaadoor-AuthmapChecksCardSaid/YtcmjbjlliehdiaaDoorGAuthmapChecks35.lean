/- Package wire: the reader's Read, fail, next, End. -/
import Derived.Test.YtcmjbjlliehdiaaDoorGAuthmapChecks34
namespace Go.Proofs.YtcmjbjlliehdiaaDoor
open Go.RowKit PA
def isRd (T p : Nat) : RSt → Assn
  | .ok l => ex fun a : Option Addr => ex fun c : Nat => sep (blk p (.cells #[.slice a l.length c, .int .i64 0] T (0, 0))) (rBytes.is [.slice a l.length c] l)
  | .error e => ex fun v : Option Addr × Nat × Nat => sep (fact (0 < e)) (blk p (.cells #[.slice v.1 v.2.1 v.2.2, .int .i64 e] T (0, 0)))
section
variable {W w : World} {A : Assn} {T p : Nat} {l : List UInt8} {e : Int}
theorem isRd_ok (h : Sat W w (sep (isRd T p (.ok l)) A)) : ∃ a c, Swf a l.length c ∧ Sat W w (sep (blk p (.cells #[.slice a l.length c, .int .i64 0] T (0, 0))) (sep (rBytes.is [.slice a l.length c] l) A)) := by
  simp only [isRd, ex_sep, Sat.ex, sep_assoc] at h
  obtain ⟨a, c, h⟩ := h
  obtain ⟨a', c', e, hw, -⟩ := h.p1.bytes_open
  cases e
  exact ⟨a, c, hw, h⟩
theorem isRd_okmk {a : Option Addr} {n c : Nat} (hn : n = l.length) (h : Sat W w (sep (blk p (.cells #[.slice a n c, .int .i64 0] T (0, 0))) (sep (rBytes.is [.slice a n c] l) A))) : Sat W w (sep (isRd T p (.ok l)) A) := by
  subst hn
  simp only [isRd, ex_sep, Sat.ex, sep_assoc]
  exact ⟨a, c, h⟩
theorem isRd_er (h : Sat W w (sep (isRd T p (.error e)) A)) : 0 < e ∧ ∃ a n c, Sat W w (sep (blk p (.cells #[.slice a n c, .int .i64 e] T (0, 0))) A) := by
  simp only [isRd, ex_sep, Sat.ex, sep_assoc] at h
  obtain ⟨v, h⟩ := h
  obtain ⟨h1, h2⟩ := Sat.fact.1 h
  exact ⟨h1, _, _, _, h2⟩
theorem isRd_ermk {a : Option Addr} {n c : Nat} (he : 0 < e) (h : Sat W w (sep (blk p (.cells #[.slice a n c, .int .i64 e] T (0, 0))) A)) : Sat W w (sep (isRd T p (.error e)) A) := by
  simp only [isRd, ex_sep, Sat.ex, sep_assoc]
  exact ⟨(a, n, c), Sat.fact.2 ⟨he, h⟩⟩
end
/-- 's[k:]' of bytes that are known. -/
theorem _root_.PA.Sat.bytes_drop {W w : World} {A : Assn} {b o n c : Nat} {l : List UInt8} (k : Nat) (hn : n = l.length) (hk : k ≤ n) (h : Sat W w (sep (rBytes.is [.slice (some ⟨b, o, none⟩) n c] l) A)) :
    Sat W w (sep (rBytes.is [.slice (if c = k then some ⟨b, o, none⟩ else some ⟨b, o + k, none⟩) (n - k) (c - k)] (l.drop k)) A) := by
  subst hn
  refine h.wk ?_
  rintro I m ⟨x, y, h5, h6, ⟨h7, hr⟩, h9⟩
  refine ⟨x, y, h5, h6, ⟨h7, ?_⟩, h9⟩
  obtain ⟨a', c', e, hw, hc⟩ := bytes_rel.1 hr
  cases e
  have hl : (l.drop k).length = l.length - k := by simp
  refine bytes_rel.2 ⟨_, c - k, by rw [hl], ⟨by rw [hl]; have := hw.1; omega, by have := hw.2.1; omega, fun e => by split at e <;> cases e⟩, ?_⟩
  by_cases hck : c = k
  · left
    have : l.drop k = [] := List.drop_eq_nil_of_le (by have := hw.1; omega)
    rw [this]; rfl
  · rw [if_neg hck]
    rcases hc with hc | ⟨b', o', cs, t, f, e1, e2, e3⟩
    · left
      have : l = [] := by simpa using hc
      rw [this]; simp
    · cases e1
      right
      refine ⟨b, o + k, cs, t, f, rfl, e2, fun i u hu => ?_⟩
      rw [Nat.add_assoc]
      refine e3 (k + i) u ?_
      rw [List.map_drop, List.getElem?_drop] at hu
      exact hu
theorem _root_.PA.Sat.bytes_src {W w : World} {A : Assn} {a : Option Addr} {n c : Nat} {l : List UInt8} (h : Sat W w (sep (rBytes.is [.slice a n c] l) A)) : n = l.length ∧ Swf a n c ∧ (∀ b, a = some b → ∀ j u, (l.map bv)[j]? = some u → w.cell? (b.add j) = some u) ∧
    (∀ j (hj : j < l.length), ∃ b o, a = some ⟨b, o, none⟩ ∧ w.cell? ⟨b, o + j, none⟩ = some (.int .u8 (l[j].toNat : Nat))) := by
  obtain ⟨a', c', e, hw, h1⟩ := h.bytes_open
  cases e
  refine ⟨rfl, hw, fun b hb j u hu => ?_, fun j hj => ?_⟩
  · subst hb; exact h1.rsl_src j u hu
  · obtain ⟨b, o, e, hc⟩ := h1.rsl_at (fun e => by have := congrArg List.length e; simp at this; rw [this] at hj; simp at hj)
    exact ⟨b, o, e, hc j _ (by rw [List.getElem?_map, List.getElem?_eq_getElem hj]; rfl)⟩
theorem read_spec {W w : World} {A : Assn} (v : Value) (l : List UInt8) (h : Sat W w (sep (rBytes.is [v] l) A)) (hb : l.length ≤ 1073742900) :
    Calls Tryd.prog 33 #[v] w fun e w' => ∃ p, e = .returned (.pointer (some ⟨p, 0, none⟩)) ∧ Sat W w' (sep (isRd 129 p (.ok l)) (sep (rBytes.is [v] l) A)) := by
  obtain ⟨a, c, rfl, hsw, -⟩ := h.bytes_open
  obtain ⟨-, -, hsrc, -⟩ := h.bytes_src
  have hcl := clone_any a l.length c (l.map bv) h hsrc (by simp) hsw (bv_one l) (by omega)
  have HCL := Lib.hid hcl
  clear hsrc hcl hsw hb h
  go_enter Tryd.func33, Tryd.ntmps33
  go_wp2_with fail
  refine HCL.out.mono ?_
  rintro e w2 ⟨a2, c2, rfl, hS⟩
  have h2 := hS.bytes_of_osl.2
  have h3 := h2.alloc (.cells #[.slice a2 l.length c2, .int .i64 0] 129)
  clear hS h2
  go_wp2_with fail
  go_ret
  exact ⟨w2.heap.size, rfl, isRd_okmk rfl h3⟩
theorem fail_ok {W w : World} {A : Assn} (p : Nat) (l : List UInt8) (e : Int) (he : 0 < e) (h : Sat W w (sep (isRd 129 p (.ok l)) A)) :
    Calls Tryd.prog 95 #[.pointer (some ⟨p, 0, none⟩), .int .i64 e] w fun r w' => r = .returned (.tuple #[]) ∧ Sat W w' (sep (isRd 129 p (.error e)) A) := by
  obtain ⟨a, c, -, h1⟩ := isRd_ok h
  have c1 : w.cell? ⟨p, 1, none⟩ = some (.int .i64 0) := h1.cell 1
  have f1 : w.frozen? ⟨p, 1, none⟩ = false := h1.unfrozen 1
  have h2 : Sat W (w.setCell ⟨p, 1, none⟩ (.int .i64 e)) (sep (blk p (.cells #[.slice a l.length c, .int .i64 e] 129 (0, 0))) (sep (rBytes.is [.slice a l.length c] l) A)) := h1.setCell 1 _
  have h3 := h2.p1.tail
  clear h h1 h2
  go_enter Tryd.func95, Tryd.ntmps95
  go_wp2_with fail
  go_end0
  exact ⟨rfl, isRd_ermk he h3⟩
theorem fail_er {W w : World} {A : Assn} (p : Nat) (e e' : Int) (h : Sat W w (sep (isRd 129 p (.error e)) A)) :
    Calls Tryd.prog 95 #[.pointer (some ⟨p, 0, none⟩), .int .i64 e'] w fun r w' => r = .returned (.tuple #[]) ∧ Sat W w' (sep (isRd 129 p (.error e)) A) := by
  obtain ⟨he, a, n, c, h1⟩ := isRd_er h
  have c1 : w.cell? ⟨p, 1, none⟩ = some (.int .i64 e) := h1.cell 1
  have b1 : (e == 0) = false := by simp; omega
  clear h1 he
  go_enter Tryd.func95, Tryd.ntmps95
  go_wp2_with fail
  go_end0
  exact ⟨rfl, h⟩
theorem next_ok {W w : World} {A : Assn} (p : Nat) (x : UInt8) (l : List UInt8) (h : Sat W w (sep (isRd 129 p (.ok (x :: l))) A)) (hl : l.length ≤ 1073742900) :
    Calls Tryd.prog 73 #[.pointer (some ⟨p, 0, none⟩)] w fun r w' => r = .returned (.int .u8 (x.toNat : Nat)) ∧ Sat W w' (sep (isRd 129 p (.ok l)) A) := by
  obtain ⟨a, c, hw, h1⟩ := isRd_ok h
  obtain ⟨-, -, -, hc⟩ := h1.p1.bytes_src
  obtain ⟨b, o, rfl, hc0⟩ := hc 0 (by simp)
  simp only [List.getElem_cons_zero, Nat.add_zero] at hc0
  obtain ⟨n, hn⟩ : ∃ n, n = (x :: l).length := ⟨_, rfl⟩
  have hn1 : n = l.length + 1 := by rw [hn]; rfl
  rw [← hn] at h1 hw
  have hnp : 0 < n := by omega
  have hnI : (0 : Int) < n := by omega
  have hnI2 : (n : Int) ≤ 1073742901 := by omega
  have hnc : n ≤ c := hw.1
  have hnB : ((n : Int) == 0) = false := by simp; omega
  have hcI : (c : Int) ≤ 9223372036854775807 := by have := hw.2.1; unfold maxLen at this; omega
  have hn1I : (1 : Int) ≤ n := by omega
  have c0 : w.cell? ⟨p, 0, none⟩ = some (.slice (some ⟨b, o, none⟩) n c) := h1.cell 0
  have c1 : w.cell? ⟨p, 1, none⟩ = some (.int .i64 0) := h1.cell 1
  have f0 : w.frozen? ⟨p, 0, none⟩ = false := h1.unfrozen 0
  have h2 : ∀ v, Sat W (w.setCell ⟨p, 0, none⟩ v) (sep (blk p (.cells #[v, .int .i64 0] 129 (0, 0))) (sep (rBytes.is [.slice (some ⟨b, o, none⟩) n c] (x :: l)) A)) := fun v => h1.setCell 0 v
  have H2 := Lib.hid h2
  have HN := Lib.hid hn
  have HN1 := Lib.hid hn1
  clear h h1 h2 hn hn1 hl hw hc
  by_cases hc1 : c = 1
  · have h3 := fun v => (H2.out v).p1.bytes_drop 1 HN.out (by omega)
    rw [if_pos hc1] at h3
    subst hc1
    obtain rfl : n = 1 := by omega
    have H3 := Lib.hid h3
    clear h3
    go_enter Tryd.func73, Tryd.ntmps73
    go_wp2_with fail
    go_ret
    exact ⟨rfl, isRd_okmk (by have := HN1.out; omega) (a := some ⟨b, o, none⟩) (n := 0) (c := 0) (H3.out _).p1⟩
  · have h3 := fun v => (H2.out v).p1.bytes_drop 1 HN.out (by omega)
    rw [if_neg hc1] at h3
    have H3 := Lib.hid h3
    clear h3
    go_enter Tryd.func73, Tryd.ntmps73
    go_wp2_with fail
    go_ret
    exact ⟨rfl, isRd_okmk (by have := HN1.out; omega) (a := some ⟨b, o + 1, none⟩) (n := n - 1) (c := c - 1) (H3.out _).p1⟩
theorem next_nil {W w : World} {A : Assn} (p : Nat) (h : Sat W w (sep (isRd 129 p (.ok [])) A)) :
    Calls Tryd.prog 73 #[.pointer (some ⟨p, 0, none⟩)] w fun r w' => r = .returned (.int .u8 0) ∧ Sat W w' (sep (isRd 129 p (.error 3)) A) := by
  obtain ⟨a, c, hw, h1⟩ := isRd_ok h
  have c0 : w.cell? ⟨p, 0, none⟩ = some (.slice a 0 c) := h1.cell 0
  have c1 : w.cell? ⟨p, 1, none⟩ = some (.int .i64 0) := h1.cell 1
  clear h1 hw
  go_enter Tryd.func73, Tryd.ntmps73
  go_wp2_with fail
  refine (fail_ok p [] 3 (by omega) h).mono ?_
  rintro e w2 ⟨rfl, hS⟩
  obtain ⟨-, a2, n2, c2, h2⟩ := isRd_er hS
  have c1' : w2.cell? ⟨p, 1, none⟩ = some (.int .i64 3) := h2.cell 1
  clear h2 c0 c1
  go_wp2_with fail
  go_ret
  exact ⟨rfl, hS⟩
theorem next_er {W w : World} {A : Assn} (p : Nat) (e : Int) (h : Sat W w (sep (isRd 129 p (.error e)) A)) :
    Calls Tryd.prog 73 #[.pointer (some ⟨p, 0, none⟩)] w fun r w' => r = .returned (.int .u8 0) ∧ Sat W w' (sep (isRd 129 p (.error e)) A) := by
  obtain ⟨he, a, n, c, h1⟩ := isRd_er h
  have c0 : w.cell? ⟨p, 0, none⟩ = some (.slice a n c) := h1.cell 0
  have c1 : w.cell? ⟨p, 1, none⟩ = some (.int .i64 e) := h1.cell 1
  have b1 : (e == 0) = false := by simp; omega
  have b2 : (e != 0) = true := by simp; omega
  have HE := Lib.hid he
  clear h1 he
  by_cases hn : n = 0
  · subst hn
    go_enter Tryd.func73, Tryd.ntmps73
    go_wp2_with fail
    refine (fail_er p e 3 h).mono ?_
    rintro e w2 ⟨rfl, hS⟩
    obtain ⟨-, a2, n2, c2, h2⟩ := isRd_er hS
    have c1' := h2.cell 1
    simp only [List.getElem?_toArray, List.getElem?_cons_succ, List.getElem?_cons_zero] at c1'
    clear h2 c0 c1
    go_wp2_with fail
    go_ret
    exact ⟨rfl, hS⟩
  · have hnB : ((n : Int) == 0) = false := by simp; omega
    clear hn
    go_enter Tryd.func73, Tryd.ntmps73
    go_wp2_with fail
    go_ret
    exact ⟨rfl, h⟩
end Go.Proofs.YtcmjbjlliehdiaaDoor
/- Package wire: the reader's Uint, Int, End. -/
namespace Go.Proofs.YtcmjbjlliehdiaaDoor
open Go.RowKit PA
theorem isRd_cell_ok {W w : World} {A : Assn} {T p : Nat} {l : List UInt8} (h : Sat W w (sep (isRd T p (.ok l)) A)) : w.cell? ⟨p, 1, none⟩ = some (.int .i64 0) := by
  obtain ⟨a, c, -, h1⟩ := isRd_ok h
  exact h1.cell 1
theorem isRd_cell_er {W w : World} {A : Assn} {T p : Nat} {e : Int} (h : Sat W w (sep (isRd T p (.error e)) A)) : w.cell? ⟨p, 1, none⟩ = some (.int .i64 e) ∧ 0 < e := by
  obtain ⟨he, a, n, c, h1⟩ := isRd_er h
  exact ⟨h1.cell 1, he⟩
def URel (W : World) (A : Assn) (T p : Nat) (l0 : List UInt8) (nv iv : Value) (wr : World) : Prop :=
  ∃ i : Nat, iv = .int .i64 (i : Nat) ∧ i ≤ 10 ∧ ((∃ (n : Nat) (l : List UInt8), nv = .int .u64 (n : Nat) ∧ i ≤ 9 ∧ n < 128 ^ i ∧ uintGo i n l = uintP l0 ∧ l.length ≤ 1073742900 ∧ Sat W wr (sep (isRd T p (.ok l)) A)) ∨
    (∃ (n e : Int), nv = .int .u64 n ∧ uintP l0 = .error e ∧ Sat W wr (sep (isRd T p (.error e)) A)))
theorem uintGo_bad (i n : Nat) (c : UInt8) (l : List UInt8) (h : (i = 9 ∧ 1 < c.toNat) ∨ (0 < i ∧ c.toNat = 0)) : uintGo i n (c :: l) = .error 2 := by rw [uintGo, if_pos h]
theorem uintGo_end (i n : Nat) (c : UInt8) (l : List UInt8) (h : ¬ ((i = 9 ∧ 1 < c.toNat) ∨ (0 < i ∧ c.toNat = 0))) (hs : c.toNat < 128) : uintGo i n (c :: l) = .ok (n + c.toNat * 128 ^ i, l) := by rw [uintGo, if_neg h, if_pos hs]
theorem uintGo_on (i n : Nat) (c : UInt8) (l : List UInt8) (h : ¬ ((i = 9 ∧ 1 < c.toNat) ∨ (0 < i ∧ c.toNat = 0))) (hs : ¬ c.toNat < 128) : uintGo i n (c :: l) = uintGo (i + 1) (n + (c.toNat - 128) * 128 ^ i) l := by rw [uintGo, if_neg h, if_neg hs]
set_option maxHeartbeats 2000000 in
theorem rduint_ok {W w : World} {A : Assn} (p : Nat) (l0 : List UInt8) (h : Sat W w (sep (isRd 129 p (.ok l0)) A)) (hl : l0.length ≤ 1073742900) :
    Calls Tryd.prog 67 #[.pointer (some ⟨p, 0, none⟩)] w fun r w' => r = .returned (.int .u64 ((stU (.ok l0)).1 : Nat)) ∧ Sat W w' (sep (isRd 129 p (stU (.ok l0)).2) A) := by
  have HL := Lib.hid hl
  clear hl
  go_enter Tryd.func67, Tryd.ntmps67
  go_wp2_with fail
  go_loopw [3, 4] (URel W A 129 p l0) (fun _ iv _ => 20 - (intOf iv).toNat)
  case atStart => exact ⟨0, rfl, by omega, .inl ⟨0, l0, rfl, by omega, by decide, rfl, HL.out, h⟩⟩
  case round =>
    clear h
    obtain ⟨i, rfl, hi10, ⟨n, l, rfl, hi9, hn, hgo, hll, hS⟩ | ⟨n, e, rfl, hgo, hS⟩⟩ := hrel
    · have c1 := isRd_cell_ok hS
      have hiI : (i : Int) ≤ 9 := by omega
      have hiI0 : (0 : Int) ≤ (i : Int) := by omega
      cases l with
      | nil =>
        have he : uintP l0 = .error 3 := by rw [← hgo, uintGo]
        have HE := Lib.hid he
        have HI := Lib.hid hi10
        clear hgo hn he hll hi9 hi10
        rcases (by omega : i = 0 ∨ (0 < i ∧ i ≠ 9) ∨ i = 9) with rfl | ⟨h0, h9⟩ | rfl
        · go_wp2_with fail
          refine (next_nil p hS).mono ?_
          rintro r w2 ⟨rfl, hS2⟩
          obtain ⟨c2, -⟩ := isRd_cell_er hS2
          clear c1 hS
          go_wp2_with fail
          exact ⟨⟨1, rfl, by omega, .inr ⟨_, 3, rfl, HE.out, hS2⟩⟩, by simp [intOf]⟩
        · have b1 : ((i : Int) == 9) = false := by simp; omega
          clear h9
          go_wp2_with fail
          refine (next_nil p hS).mono ?_
          rintro r w2 ⟨rfl, hS2⟩
          obtain ⟨c2, -⟩ := isRd_cell_er hS2
          clear c1 hS
          go_wp2_with fail
          refine (fail_er p 3 2 hS2).mono ?_
          rintro r w3 ⟨rfl, hS3⟩
          obtain ⟨c3, -⟩ := isRd_cell_er hS3
          clear c2 hS2
          go_wp2_with fail
          exact ⟨⟨i + 1, rfl, by have := HI.out; omega, .inr ⟨_, 3, rfl, HE.out, hS3⟩⟩, by simp [intOf]; omega⟩
        · go_wp2_with fail
          refine (next_nil p hS).mono ?_
          rintro r w2 ⟨rfl, hS2⟩
          obtain ⟨c2, -⟩ := isRd_cell_er hS2
          clear c1 hS
          go_wp2_with fail
          refine (fail_er p 3 2 hS2).mono ?_
          rintro r w3 ⟨rfl, hS3⟩
          obtain ⟨c3, -⟩ := isRd_cell_er hS3
          clear c2 hS2
          go_wp2_with fail
          exact ⟨⟨10, rfl, by omega, .inr ⟨_, 3, rfl, HE.out, hS3⟩⟩, by simp [intOf]⟩
      | cons x l =>
        have hxl : l.length ≤ 1073742900 := by simp at hll; omega
        obtain ⟨m, hm⟩ : ∃ m, m = x.toNat := ⟨_, rfl⟩
        have hm2 : m < 256 := by rw [hm]; exact x.toNat_lt
        have hnx := fun w0 (h0 : Sat W w0 (sep (isRd 129 p (.ok (x :: l))) A)) => next_ok p x l h0 hxl
        rw [← hm] at hnx
        have hmI : (m : Int) < 256 := by omega
        by_cases hbad : (i = 9 ∧ 1 < m) ∨ (0 < i ∧ m = 0)
        · have he : uintP l0 = .error 2 := by rw [← hgo]; exact uintGo_bad _ _ _ _ (by rw [← hm]; exact hbad)
          have HE := Lib.hid he
          have HI := Lib.hid hi9
          have HNX := Lib.hid hnx
          clear hgo hn he hll hi9 hi10 hnx hm hxl hm2 hmI
          rcases hbad with ⟨rfl, h1⟩ | ⟨h1, rfl⟩
          · go_wp2_with fail
            refine (HNX.out _ hS).mono ?_
            rintro r w2 ⟨rfl, hS2⟩
            clear c1 hS
            go_wp2_with fail
            refine (fail_ok p l 2 (by omega) hS2).mono ?_
            rintro r w3 ⟨rfl, hS3⟩
            obtain ⟨c3, -⟩ := isRd_cell_er hS3
            clear hS2
            cases hs : decide ((m : Int) < 128)
            all_goals
              go_wp2_with fail
              exact ⟨⟨10, rfl, by omega, .inr ⟨_, 2, rfl, HE.out, hS3⟩⟩, by simp [intOf]⟩
          · by_cases h9 : i = 9
            · subst h9
              go_wp2_with fail
              refine (HNX.out _ hS).mono ?_
              rintro r w2 ⟨rfl, hS2⟩
              clear c1 hS
              go_wp2_with fail
              refine (fail_ok p l 2 (by omega) hS2).mono ?_
              rintro r w3 ⟨rfl, hS3⟩
              obtain ⟨c3, -⟩ := isRd_cell_er hS3
              clear hS2
              go_wp2_with fail
              exact ⟨⟨10, rfl, by omega, .inr ⟨_, 2, rfl, HE.out, hS3⟩⟩, by simp [intOf]⟩
            · have b1 : ((i : Int) == 9) = false := by simp; omega
              clear h9
              go_wp2_with fail
              refine (HNX.out _ hS).mono ?_
              rintro r w2 ⟨rfl, hS2⟩
              clear c1 hS
              go_wp2_with fail
              refine (fail_ok p l 2 (by omega) hS2).mono ?_
              rintro r w3 ⟨rfl, hS3⟩
              obtain ⟨c3, -⟩ := isRd_cell_er hS3
              clear hS2
              go_wp2_with fail
              exact ⟨⟨i + 1, rfl, by have := HI.out; omega, .inr ⟨_, 2, rfl, HE.out, hS3⟩⟩, by simp [intOf]; omega⟩
        · obtain ⟨k, hk⟩ : ∃ k, k = m % 128 := ⟨_, rfl⟩
          have hk128 : k < 128 := by omega
          have h9k : i = 9 → k ≤ 1 := fun e => by omega
          obtain ⟨hor, hNlt⟩ := or_var n k i hn hk128 hi9 h9k
          obtain ⟨N, hN⟩ : ∃ N, N = n + k * 128 ^ i := ⟨_, rfl⟩
          rw [← hN] at hor hNlt
          have hA : bits .andNot .u8 (m : Int) 128 = (k : Int) := by rw [hm, andNot128, hk, hm]
          have hW : IntKind.u64.wrap (k : Int) = (k : Int) := wraps_u64 _ (by omega) (by omega)
          rw [hW] at hor
          have hgood := hbad
          rw [hm] at hgood
          have hend := uintGo_end i n x l hgood
          have hon := uintGo_on i n x l hgood
          rw [hgo, ← hm] at hend hon
          have HEND := Lib.hid hend
          have HON := Lib.hid hon
          have HNX := Lib.hid hnx
          have HNv := Lib.hid hN
          have HK := Lib.hid hk
          have HXL := Lib.hid hxl
          have HNN := Lib.hid hn
          have HI := Lib.hid hi9
          have HM2 := Lib.hid hm2
          have hbad2 : (i = 9 → m ≤ 1) ∧ (0 < i → m ≠ 0) := ⟨fun e => by omega, fun e => by omega⟩
          have HB2 := Lib.hid hbad2
          clear hgood hend hon hgo hn hll hi9 hi10 hnx hm hxl hm2 hmI hbad h9k hk128 hNlt hk hbad2 hN
          -- the end of the number
          have ret : m < 128 → ∀ w3, Sat W w3 (sep (isRd 129 p (.ok l)) A) → (Ending.returned (.int .u64 (N : Nat)) = Ending.returned (.int .u64 ((stU (.ok l0)).1 : Nat)) ∧ Sat W w3 (sep (isRd 129 p (stU (.ok l0)).2) A)) := fun hs w3 h3 => by
            have hu := HEND.out hs
            have e1 : stU (.ok l0) = (N, .ok l) := by
              unfold stU; dsimp only; rw [hu]
              rw [HNv.out, HK.out, Nat.mod_eq_of_lt hs]
            rw [e1]; exact ⟨rfl, h3⟩
          have onw : ¬ m < 128 → ∀ w3, Sat W w3 (sep (isRd 129 p (.ok l)) A) → URel W A 129 p l0 (.int .u64 (N : Nat)) (.int .i64 ((i + 1 : Nat) : Int)) w3 := fun hs w3 h3 => by
            have h9 : i ≠ 9 := fun e => by have := HB2.out.1 e; omega
            have hk2 : k = m - 128 := by rw [HK.out]; have := HM2.out; omega
            refine ⟨i + 1, rfl, by have := HI.out; omega, .inl ⟨N, l, rfl, by have := HI.out; omega, ?_, ?_, HXL.out, h3⟩⟩
            · rw [HNv.out, hk2]; exact uint_step n m i HNN.out (by omega) HM2.out
            · rw [HON.out hs, HNv.out, hk2]
          have RET := Lib.hid ret
          have ONW := Lib.hid onw
          clear ret onw
          by_cases h0 : i = 0
          · subst h0
            have hor0 : bits .or .u64 (n : Int) (k : Int) = (N : Int) := by
              have := hor
              simp only [Nat.mul_zero, Int.pow_zero, Int.mul_one, hW] at this
              exact this
            clear hor
            cases hs : decide ((m : Int) < 128)
            · go_wp2_with fail
              refine (HNX.out _ hS).mono ?_
              rintro r w2 ⟨rfl, hS2⟩
              have c2 := isRd_cell_ok hS2
              clear c1 hS
              go_wp2_with fail
              exact ⟨ONW.out (by have := hs; simp at this; omega) _ hS2, by simp [intOf]⟩
            · go_wp2_with fail
              refine (HNX.out _ hS).mono ?_
              rintro r w2 ⟨rfl, hS2⟩
              have c2 := isRd_cell_ok hS2
              clear c1 hS
              go_wp2_with fail
              go_ret
              exact RET.out (by have := hs; simp at this; omega) _ hS2
          · have hi0 : 0 < i := by omega
            have hm0 : m ≠ 0 := HB2.out.2 hi0
            have bm0 : ((m : Int) == 0) = false := by simp; omega
            have hb9 : ((i : Int) == 9) = false ∨ (((i : Int) == 9) = true ∧ decide ((1 : Int) < (m : Int)) = false) := by
              by_cases h9 : i = 9
              · exact .inr ⟨by simp [h9], by have := HB2.out.1 h9; simp; omega⟩
              · exact .inl (by simp; omega)
            clear h0 hm0
            rcases hb9 with b9 | ⟨b9, b1⟩
            all_goals
              cases hs : decide ((m : Int) < 128)
              · go_wp2_with fail
                refine (HNX.out _ hS).mono ?_
                rintro r w2 ⟨rfl, hS2⟩
                have c2 := isRd_cell_ok hS2
                clear c1 hS
                go_wp2_with fail
                exact ⟨ONW.out (by have := hs; simp at this; omega) _ hS2, by simp [intOf]; omega⟩
              · go_wp2_with fail
                refine (HNX.out _ hS).mono ?_
                rintro r w2 ⟨rfl, hS2⟩
                have c2 := isRd_cell_ok hS2
                clear c1 hS
                go_wp2_with fail
                go_ret
                exact RET.out (by have := hs; simp at this; omega) _ hS2
    · obtain ⟨c1, he⟩ := isRd_cell_er hS
      have b1 : (e == 0) = false := by simp; omega
      have HG := Lib.hid hgo
      clear hgo he
      go_wp2_with fail
      go_ret
      have e1 : stU (.ok l0) = (0, .error e) := by unfold stU; dsimp only; rw [HG.out]
      rw [e1]
      exact ⟨rfl, hS⟩
end Go.Proofs.YtcmjbjlliehdiaaDoor
/- Package wire: the reader's Uint at an error, Int, End, Raw. -/
namespace Go.Proofs.YtcmjbjlliehdiaaDoor
open Go.RowKit PA
def RSt.small : RSt → Prop
  | .ok l => l.length ≤ 1073742900
  | .error _ => True
theorem rduint_spec {W w : World} {A : Assn} (p : Nat) (st : RSt) (h : Sat W w (sep (isRd 129 p st) A)) (hl : RSt.small st) :
    Calls Tryd.prog 67 #[.pointer (some ⟨p, 0, none⟩)] w fun r w' => r = .returned (.int .u64 ((stU st).1 : Nat)) ∧ Sat W w' (sep (isRd 129 p (stU st).2) A) := by
  cases st with
  | ok l => exact rduint_ok p l h hl
  | error e =>
    obtain ⟨c1, he⟩ := isRd_cell_er h
    have b1 : (e == 0) = false := by simp; omega
    clear he hl
    go_enter Tryd.func67, Tryd.ntmps67
    go_wp2_with fail
    go_loop [3, 4] (fun _ iv => iv = .int .i64 0) (fun _ _ => 0)
    case atStart => exact rfl
    case round =>
      obtain rfl := hrel
      go_wp2_with fail
      go_ret
      exact ⟨rfl, h⟩
theorem stU_small {st : RSt} (h : RSt.small st) : RSt.small (stU st).2 := by
  cases st with
  | error e => exact h
  | ok l =>
    unfold stU; dsimp only
    cases hu : uintP l with
    | error e => trivial
    | ok x =>
      obtain ⟨n, l'⟩ := x
      obtain ⟨-, k, e⟩ := uintGo_lt l 0 0 (by omega) (by decide) n l' hu
      show l'.length ≤ _
      have : l.length ≤ 1073742900 := h
      rw [e, List.length_drop]; omega
theorem rdint_spec {W w : World} {A : Assn} (p : Nat) (st : RSt) (h : Sat W w (sep (isRd 129 p st) A)) (hl : RSt.small st) :
    Calls Tryd.prog 66 #[.pointer (some ⟨p, 0, none⟩)] w fun r w' => r = .returned (.int .i64 (stI st).1) ∧ Sat W w' (sep (isRd 129 p (stI st).2) A) := by
  have HU := Lib.hid (rduint_spec p st h hl)
  have HZ := Lib.hid (stU_lt st)
  obtain ⟨z, hz⟩ : ∃ z, z = (stU st).1 := ⟨_, rfl⟩
  have e1 : stI st = (unz z, (stU st).2) := by rw [hz]; rfl
  rw [← hz] at HU HZ
  have HE := Lib.hid e1
  clear e1 h hl hz
  go_enter Tryd.func66, Tryd.ntmps66
  go_wp2_with fail
  refine HU.out.mono ?_
  rintro r w2 ⟨rfl, hS⟩
  go_wp2_with fail
  refine (unzigzag_spec z _ HZ.out).mono ?_
  rintro r w3 ⟨rfl, rfl⟩
  go_wp2_with fail
  go_ret
  rw [HE.out]
  exact ⟨rfl, hS⟩
theorem rdend_spec {W w : World} {A : Assn} (p : Nat) (st : RSt) (h : Sat W w (sep (isRd 129 p st) A)) (hl : RSt.small st) :
    Calls Tryd.prog 68 #[.pointer (some ⟨p, 0, none⟩)] w fun r w' => r = .returned (.int .i64 (stE st)) ∧ Sat W w' (sep (isRd 129 p st) A) := by
  cases st with
  | error e =>
    obtain ⟨c1, he⟩ := isRd_cell_er h
    have b1 : (e == 0) = false := by simp; omega
    clear he hl
    go_enter Tryd.func68, Tryd.ntmps68
    go_wp2_with fail
    go_ret
    exact ⟨rfl, h⟩
  | ok l =>
    obtain ⟨a, c, -, h1⟩ := isRd_ok h
    obtain ⟨n, hn⟩ : ∃ n, n = l.length := ⟨_, rfl⟩
    rw [← hn] at h1
    have c0 : w.cell? ⟨p, 0, none⟩ = some (.slice a n c) := h1.cell 0
    have c1 : w.cell? ⟨p, 1, none⟩ = some (.int .i64 0) := h1.cell 1
    have hv : stE (.ok l) = if n = 0 then 0 else 2 := by
      unfold stE; dsimp only
      cases l with
      | nil => simp [hn]
      | cons x l => simp [hn]
    have HV := Lib.hid hv
    clear h1 hl hv hn
    by_cases h0 : n = 0
    · subst h0
      go_enter Tryd.func68, Tryd.ntmps68
      go_wp2_with fail
      go_ret
      exact ⟨by rw [HV.out]; rfl, h⟩
    · have hp : 0 < n := by omega
      have HP := Lib.hid h0
      clear h0
      go_enter Tryd.func68, Tryd.ntmps68
      go_wp2_with fail
      go_ret
      exact ⟨by rw [HV.out, if_neg HP.out]; rfl, h⟩
theorem isRd_slice {W w : World} {A : Assn} {T p : Nat} {st : RSt} (h : Sat W w (sep (isRd T p st) A)) : ∃ a n c, w.cell? ⟨p, 0, none⟩ = some (.slice a n c) ∧ (∀ l, st = .ok l → n = l.length) := by
  cases st with
  | error e =>
    obtain ⟨-, a, n, c, h1⟩ := isRd_er h
    exact ⟨a, n, c, h1.cell 0, fun l e => (by cases e)⟩
  | ok l =>
    obtain ⟨a, c, -, h1⟩ := isRd_ok h
    exact ⟨a, _, c, h1.cell 0, fun l' e => by cases e; rfl⟩
set_option maxHeartbeats 1000000 in
theorem list_er {W w : World} {A : Assn} (p : Nat) (st : RSt) (h : Sat W w (sep (isRd 129 p st) A)) (hl : RSt.small st) (e : Int) (he : stU st = (0, .error e)) (f : Value) :
    Calls Tryd.prog 72 #[.pointer (some ⟨p, 0, none⟩), f] w fun r w' => r = .returned (.slice none 0 0) ∧ Sat W w' (sep (isRd 129 p (.error e)) A) := by
  have hu := rduint_spec p st h hl
  rw [he] at hu
  have HU := Lib.hid hu
  clear hu he h hl
  go_enter Tryd.func72, Tryd.ntmps72
  go_wp2_with fail
  refine HU.out.mono ?_
  rintro r w2 ⟨rfl, hS⟩
  obtain ⟨c1, he⟩ := isRd_cell_er hS
  obtain ⟨a, n, c, c0, -⟩ := isRd_slice hS
  have b1 : (e == 0) = false := by simp; omega
  have b2 : (e != 0) = true := by simp; omega
  have e0 : ((0 : Nat) : Int) = 0 := rfl
  have hw0 : 0 ≤ IntKind.u64.wrap (n : Int) := by rw [IntKind.wrap_u64]; omega
  have hw1 : decide (IntKind.u64.wrap (n : Int) < 0) = false := by simp; omega
  have hw2 : ¬ IntKind.u64.wrap (n : Int) < 0 := by omega
  clear he hw0 hw2
  go_wp2_with fail
  go_loop [7] (fun iv => iv = .int .u64 0) (fun _ => 0)
  case atStart => exact rfl
  case round =>
    obtain rfl := hrel
    go_wp2_with fail
    go_ret
    exact ⟨rfl, hS⟩
end Go.Proofs.YtcmjbjlliehdiaaDoor
