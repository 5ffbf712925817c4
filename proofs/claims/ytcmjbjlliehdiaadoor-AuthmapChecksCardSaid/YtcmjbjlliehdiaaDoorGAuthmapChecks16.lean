/- Package authmap: isRange; pairs in memory; the first half of Range. -/
import Derived.Test.YtcmjbjlliehdiaaDoorGAuthmapChecks15
import Derived.Test.YtcmjbjlliehdiaaDoorGAuthmapChecks7
namespace PA
open Go Go.RowKit
theorem rows_app {α : Type} {R : Rep α} {k : Nat} {I : Mem} {cs cs' : List Value} {xs xs' : List α} (h : (R.rows k).rel I cs xs) (h' : (R.rows k).rel I cs' xs') : (R.rows k).rel I (cs ++ cs') (xs ++ xs') := by
  obtain ⟨css, rfl, h2⟩ := h
  obtain ⟨css', rfl, h2'⟩ := h'
  exact ⟨css ++ css', by simp, h2.append h2'⟩
theorem rows_one {α : Type} {R : Rep α} {k : Nat} {I : Mem} {c : List Value} {x : α} (h : R.rel I c x) (hk : c.length = k) : (R.rows k).rel I c [x] := ⟨[c], by simp, ⟨h, hk⟩, trivial⟩
theorem rowsk_snoc {W w : World} {A : Assn} {J : Mem} {α : Type} {R : Rep α} {k : Nat} {cells en : List Value} {L : List α} {x : α} (h : Sat W w (sep ((R.rows k).is cells L) (sep (kn J) A))) (he : R.rel J en x) (hk : en.length = k) :
    Sat W w (sep ((R.rows k).is (cells ++ en) (L ++ [x])) (sep (kn J) A)) := by
  refine h.wk ?_
  rintro K mm ⟨x1, y1, d1, e1, ⟨rfl, h1⟩, x2, y2, d2, rfl, ⟨rfl, hle⟩, h3⟩
  exact ⟨Mem.no, _, d1, e1, ⟨rfl, rows_app h1 (rows_one (R.mono hle he) hk)⟩, Mem.no, y2, d2, rfl, ⟨rfl, hle⟩, h3⟩
theorem rows_nil {W w : World} {A : Assn} {α : Type} (R : Rep α) (k : Nat) (h : Sat W w A) : Sat W w (sep ((R.rows k).is [] []) A) :=
  Sat.startPers W (fun I => (R.rows k).rel I [] []) (fun I J hl h => (R.rows k).mono hl h) h ⟨[], rfl, trivial⟩
def rPair : Rep (Int × List UInt8) := ⟨fun I cs x => ∃ a c, cs = [.int .i64 x.1, .slice a x.2.length c] ∧ rBytes.rel I [.slice a x.2.length c] x.2, fun hl ⟨a, c, h1, h2⟩ => ⟨a, c, h1, rBytes.mono hl h2⟩⟩
theorem rPair_one (I : Mem) (c : List Value) (x : Int × List UInt8) (h : rPair.rel I c x) : ∀ u ∈ c, u.oneCell' = true := by
  obtain ⟨a, n, rfl, _⟩ := h
  intro u hu
  simp at hu
  rcases hu with rfl | rfl <;> rfl
def inR (a b k : Int) : Bool := decide (a ≤ k) && decide (k ≤ b)
def pairsL (M : KVs) (a b : Int) (ks : List Int) : List (Int × List UInt8) := (ks.filter (inR a b)).map fun k => (k, (M k).getD [])
theorem pairsL_snoc (M : KVs) (a b : Int) (ks : List Int) (k : Int) : pairsL M a b (ks ++ [k]) = if inR a b k = true then pairsL M a b ks ++ [(k, (M k).getD [])] else pairsL M a b ks := by
  unfold pairsL
  rw [List.filter_append, List.map_append]
  by_cases h : inR a b k = true
  · rw [if_pos h]; simp [h]
  · rw [if_neg h]; simp [h]
theorem pairsL_len (M : KVs) (a b : Int) (ks : List Int) : (pairsL M a b ks).length ≤ ks.length := by
  unfold pairsL
  rw [List.length_map]
  exact List.length_filter_le _ _
end PA
namespace Go.Proofs.YtcmjbjlliehdiaaDoor
open Go.RowKit PA
attribute [local go_sem] Oper.semAt_some
theorem aisrange_spec (a b : Int) (w : World) : Calls Tryd.prog 51 #[.int .i64 a, .int .i64 b] w fun e w' => e = .returned (.bool (decide (0 ≤ a ∧ a ≤ b ∧ b ≤ 4095))) ∧ w' = w := by
  have H1 := Lib.hid (aiskey_spec a w)
  have H2 := Lib.hid (aiskey_spec b w)
  by_cases h1 : 0 ≤ a ∧ a ≤ 4095
  · by_cases h2 : 0 ≤ b ∧ b ≤ 4095
    · by_cases h3 : a ≤ b
      · rw [decide_eq_true h1] at H1
        rw [decide_eq_true h2] at H2
        rw [decide_eq_true ⟨h1.1, h3, h2.2⟩]
        have h3I : decide (a ≤ b) = true := decide_eq_true h3
        clear h1 h2 h3
        go_enter Tryd.func51, Tryd.ntmps51
        go_wp2_with fail
        refine H1.out.mono ?_
        rintro e w' ⟨rfl, rfl⟩
        go_wp2_with fail
        refine H2.out.mono ?_
        rintro e w' ⟨rfl, rfl⟩
        go_wp2_with fail
        go_ret
        exact ⟨rfl, rfl⟩
      · rw [decide_eq_true h1] at H1
        rw [decide_eq_true h2] at H2
        rw [decide_eq_false (fun h => h3 h.2.1)]
        have h3I : decide (a ≤ b) = false := decide_eq_false h3
        clear h1 h2 h3
        go_enter Tryd.func51, Tryd.ntmps51
        go_wp2_with fail
        refine H1.out.mono ?_
        rintro e w' ⟨rfl, rfl⟩
        go_wp2_with fail
        refine H2.out.mono ?_
        rintro e w' ⟨rfl, rfl⟩
        go_wp2_with fail
        go_ret
        exact ⟨rfl, rfl⟩
    · rw [decide_eq_true h1] at H1
      rw [decide_eq_false h2] at H2
      rw [decide_eq_false (fun h => h2 ⟨by omega, h.2.2⟩)]
      clear h1 h2
      go_enter Tryd.func51, Tryd.ntmps51
      go_wp2_with fail
      refine H1.out.mono ?_
      rintro e w' ⟨rfl, rfl⟩
      go_wp2_with fail
      refine H2.out.mono ?_
      rintro e w' ⟨rfl, rfl⟩
      go_wp2_with fail
      go_ret
      exact ⟨rfl, rfl⟩
  · rw [decide_eq_false h1] at H1
    rw [decide_eq_false (fun h => h1 ⟨h.1, by omega⟩)]
    clear h1
    go_enter Tryd.func51, Tryd.ntmps51
    go_wp2_with fail
    refine H1.out.mono ?_
    rintro e w' ⟨rfl, rfl⟩
    go_wp2_with fail
    go_ret
    exact ⟨rfl, rfl⟩
theorem arange_no {W w : World} {A : Assn} (p : Nat) (a b : Int) (h : Sat W w A) (hn : ¬ (0 ≤ a ∧ a ≤ b ∧ b ≤ 4095)) :
    Calls Tryd.prog 17 #[.pointer (some ⟨p, 0, none⟩), .int .i64 a, .int .i64 b] w fun e w' => e = .returned (.tuple #[.slice none 0 0, .agg #[.slice none 0 0, .slice none 0 0, .slice none 0 0], .int .i64 5]) ∧ Sat W w' A := by
  have hq := aisrange_spec a b ((((w.alloc (.cells #[.pointer (some ⟨p, 0, none⟩)] 25)).alloc (.cells #[.int .i64 a] 3)).alloc (.cells #[.slice none 0 0, .slice none 0 0, .slice none 0 0] 40)))
  rw [decide_eq_false hn] at hq
  obtain ⟨x, hx⟩ : ∃ x, x = w.heap.size := ⟨_, rfl⟩
  obtain ⟨w3, hw3⟩ : ∃ w3, w3 = (((w.alloc (.cells #[.pointer (some ⟨p, 0, none⟩)] 25)).alloc (.cells #[.int .i64 a] 3)).alloc (.cells #[.slice none 0 0, .slice none 0 0, .slice none 0 0] 40)) := ⟨_, rfl⟩
  rw [← hw3] at hq
  have h3 : Sat W w3 (sep (blk (x + 1 + 1) (.cells #[.slice none 0 0, .slice none 0 0, .slice none 0 0] 40 (0, 0))) (sep (blk (x + 1) (.cells #[.int .i64 a] 3 (0, 0))) (sep (blk x (.cells #[.pointer (some ⟨p, 0, none⟩)] 25 (0, 0))) A))) := by
    have h1 := ((h.alloc (.cells #[.pointer (some ⟨p, 0, none⟩)] 25)).alloc (.cells #[.int .i64 a] 3)).alloc (.cells #[.slice none 0 0, .slice none 0 0, .slice none 0 0] 40)
    simp only [World.size_alloc] at h1
    rw [← hw3, ← hx] at h1
    exact h1
  have HQ := Lib.hid hq
  have HW := Lib.hid (And.intro hx hw3)
  clear h hq hx hw3 hn
  go_enter Tryd.func17, Tryd.ntmps17
  go_upto_region 1 with (fail)
  rw [← HW.out.1, ← HW.out.2]
  have c0 : w3.cell? ⟨x + 1, 0, none⟩ = some (.int .i64 a) := h3.p1.cell 0
  have s0 : w3.cell? ⟨x + 1 + 1, 0, none⟩ = some (.slice none 0 0) := h3.cell 0
  have s1 : w3.cell? ⟨x + 1 + 1, 1, none⟩ = some (.slice none 0 0) := h3.cell 1
  have s2 : w3.cell? ⟨x + 1 + 1, 2, none⟩ = some (.slice none 0 0) := h3.cell 2
  have v0 : w3.frozen? ⟨x + 1 + 1, 0, none⟩ = false := h3.unfrozen 0
  have v1 : w3.frozen? ⟨x + 1 + 1, 1, none⟩ = false := h3.unfrozen 1
  have v2 : w3.frozen? ⟨x + 1 + 1, 2, none⟩ = false := h3.unfrozen 2
  have h4 := ((h3.setCell 0 (.slice none 0 0)).setCell 1 (.slice none 0 0)).setCell 2 (.slice none 0 0)
  have r0 := h4.cell 0
  have r1 := h4.cell 1
  have r2 := h4.cell 2
  have H4 := Lib.hid (And.intro h4.drop.drop.drop (And.intro r0 (And.intro r1 r2)))
  clear h3 h4 r0 r1 r2
  go_wp2_with fail
  refine HQ.out.mono ?_
  rintro e w' ⟨rfl, rfl⟩
  go_wp2_with fail
  refine bodyPost_ret (by simp [results, Tryd.results17, go_sem, H4.out.2.1, H4.out.2.2.1, H4.out.2.2.2]; try rfl) rfl ?_
  exact ⟨rfl, H4.out.1⟩
end Go.Proofs.YtcmjbjlliehdiaaDoor
/- A part of a slice, in one equation, for any program; where its cells lie. Plain Lean, no program in sight. -/
namespace PA
open Go Go.RowKit
/-- Where the elements from 'lo' on lie ('k' cells an element; 'd': nothing is left of the capacity). -/
def subA (a : Option Addr) (d : Prop) [Decidable d] (off : Nat) : Option Addr := if d then a else a.map (·.add off)
section
variable {P : Program} {t E : TypeId} {k : Nat}
theorem run_slice_pre (hT : P.underlying t = some (.slice E)) (hi : (P.info? E).map (·.size) = some k) (a : Option Addr) (n c j : Nat) (hj : j ≤ c) (w : World) :
    (Instr.slice t (.slice a n c) none (some (.int .i64 (j : Int))) none).run P w = .ok (.slice a j c) w := by
  obtain ⟨i, hi1, hi2⟩ : ∃ i, P.info? E = some i ∧ i.size = k := by
    cases hx : P.info? E with
    | none => rw [hx] at hi; cases hi
    | some i => rw [hx] at hi; simp at hi; exact ⟨i, rfl, hi⟩
  have hmap : Option.map (fun x => Addr.add x 0) a = a := by cases a <;> simp [Addr.add]
  simp [Instr.slice, Instr.sliceBounds, Instr.sliceBound, run_underlying hT, Go.sizeOf, typeInfo, hi1, hmap, asIntOf]
  intro h; omega
theorem run_slice_from (hT : P.underlying t = some (.slice E)) (hi : (P.info? E).map (·.size) = some k) (a : Option Addr) (n c i : Nat) (hi' : i ≤ n) (w : World) :
    (Instr.slice t (.slice a n c) (some (.int .i64 (i : Int))) none none).run P w = .ok (.slice (subA a (c = i) (i * k)) (n - i) (c - i)) w := by
  obtain ⟨ii, hi1, hi2⟩ : ∃ i, P.info? E = some i ∧ i.size = k := by
    cases hx : P.info? E with
    | none => rw [hx] at hi; cases hi
    | some i => rw [hx] at hi; simp at hi; exact ⟨i, rfl, hi⟩
  simp [Instr.slice, Instr.sliceBounds, Instr.sliceBound, run_underlying hT, Go.sizeOf, typeInfo, hi1, asIntOf, hi2, subA]
  intro h; omega
theorem run_slice_mid (hT : P.underlying t = some (.slice E)) (hi : (P.info? E).map (·.size) = some k) (a : Option Addr) (n c i j : Nat) (hij : i ≤ j) (hj : j ≤ c) (w : World) :
    (Instr.slice t (.slice a n c) (some (.int .i64 (i : Int))) (some (.int .i64 (j : Int))) none).run P w = .ok (.slice (subA a (c = i) (i * k)) (j - i) (c - i)) w := by
  obtain ⟨ii, hi1, hi2⟩ : ∃ i, P.info? E = some i ∧ i.size = k := by
    cases hx : P.info? E with
    | none => rw [hx] at hi; cases hi
    | some i => rw [hx] at hi; simp at hi; exact ⟨i, rfl, hi⟩
  simp [Instr.slice, Instr.sliceBounds, Instr.sliceBound, run_underlying hT, Go.sizeOf, typeInfo, hi1, asIntOf, hi2, subA]
  rw [if_pos hj, if_pos hij]
end
/-- Cells that are known where a slice begins. -/
def Src (w : World) (a : Option Addr) (xs : List Value) : Prop := ∀ b, a = some b → ∀ j u, xs[j]? = some u → w.cell? (b.add j) = some u
theorem Src.sub {w : World} {a : Option Addr} {xs : List Value} (h : Src w a xs) (d : Prop) [Decidable d] (off : Nat) (hd : d → xs.length ≤ off) : Src w (subA a d off) (xs.drop off) := by
  intro b hb j u hu
  rw [List.getElem?_drop] at hu
  have hlt := (List.getElem?_eq_some_iff.1 hu).1
  have hnd : ¬ d := fun h => by have := hd h; omega
  rw [subA, if_neg hnd] at hb
  cases a with
  | none => cases hb
  | some x =>
    simp only [Option.map_some, Option.some.injEq] at hb
    subst hb
    rw [Go.Addr.add_add]
    exact h x rfl _ _ hu
theorem Src.take {w : World} {a : Option Addr} {xs : List Value} (h : Src w a xs) (m : Nat) : Src w a (xs.take m) := by
  intro b hb j u hu
  rw [List.getElem?_take] at hu
  split at hu
  · exact h b hb j u hu
  · cases hu
section
variable {W w : World} {A : Assn} {E k : Nat} {a : Option Addr} {n c : Nat} {xs : List Value}
theorem Sat.osl_Src (h : Sat W w (sep (osl E k a n c xs) A)) : Src w a xs := by
  intro b hb j u hu
  obtain ⟨g, e, hc⟩ := h.osl_at (fun e => by rw [e] at hu; simp at hu)
  rw [e] at hb; cases hb
  have := hc j u hu
  unfold Addr.add
  split
  · rename_i e; subst e; exact this
  · simpa using this
theorem Sat.osl_none (h : Sat W w (sep (osl E k a n c xs) A)) (ha : a = none) : n = 0 ∧ c = 0 := by
  rcases h.osl_cases with ⟨_, h1, h2, _⟩ | ⟨g, cur, h1, _⟩
  · exact ⟨h1, h2⟩
  · rw [h1] at ha; cases ha
end
theorem subA_none {a : Option Addr} {d : Prop} [Decidable d] {off : Nat} (h : subA a d off = none) : a = none := by
  unfold subA at h
  split at h
  · exact h
  · cases a with
    | none => rfl
    | some x => cases h
end PA
