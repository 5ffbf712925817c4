/- authmap.known: the walk. -/
import Derived.Laws.EntriesVeiled
import Derived.Test.YtcmjbjlliehdiaaDoorGAuthmapChecks24
import Derived.Test.YtcmjbjlliehdiaaDoorGAuthmapChecks34
import Derived.Test.YtcmjbjlliehdiaaDoorGAuthmapChecks43
import Derived.Test.YtcmjbjlliehdiaaDoorGAuthmapChecks12
namespace Go.Proofs.YtcmjbjlliehdiaaDoor
open Go.RowKit PA
attribute [local go_sem] Oper.semAt_some
def kV (K : KMap) : Nat × Int → Option Value := fun x => (K x).map sumV
theorem kV_set (K : KMap) (x : Nat × Int) (v : Option Nat) : gset (kV K) x (some (sumV v)) = kV (kset K x v) := by
  funext y
  unfold gset kV kset
  split <;> rfl
theorem kset_kset (K : KMap) (x : Nat × Int) (u v : Option Nat) : kset (kset K x u) x v = kset K x v := by
  funext y; unfold kset; split <;> rfl
theorem zeroSum (w : World) : (zeroValue 96).run Tryd.prog w = .ok (.agg #[.int .u64 0, .bool false]) w := by kernel_rfl
/-- What is left of a list of hashes behind its first one. -/
theorem tail_hs {I : Mem} {a : Option Addr} {n c : Nat} {h : Nat} {l : List Nat} (hr : rHs.rel I [.slice a n c] (h :: l)) :
    ∃ b o a' c', n = l.length + 1 ∧ a = some ⟨b, o, none⟩ ∧ (∀ w, (Instr.slice 38 (.slice a n c) (some (.int .i64 1)) none none).run Tryd.prog w = .ok (.slice a' l.length c') w) ∧ rHs.rel I [.slice a' l.length c'] l ∧
      ∀ w', Ext I w' → w'.cell? ⟨b, o, none⟩ = some (.int .u64 (h : Nat)) := by
  obtain ⟨a0, c0, e, hw, hc⟩ := hs_rel.1 hr
  simp only [Value.slice.injEq] at e
  obtain ⟨rfl, hn, rfl⟩ := e
  rw [List.length_cons] at hn hw
  obtain ⟨b, o, rfl, hx⟩ := cells_ext hc (by simp)
  have hcI : (c : Int) ≤ 9223372036854775807 := by have := hw.2.1; unfold maxLen at this; omega
  have hu := Tryd.underlying38
  have hx0 : ∀ w', Ext I w' → w'.cell? ⟨b, o, none⟩ = some (.int .u64 (h : Nat)) := fun w' he => by
    have := hx w' he 0 (uv h) (by simp)
    rw [Nat.add_zero] at this
    exact this
  have h1c : (1 : Int) ≤ (c : Int) := by have := hw.1; omega
  have hnc : l.length + 1 ≤ c := hw.1
  by_cases h1 : c = 1
  · subst h1
    have hl : l = [] := List.eq_nil_of_length_eq_zero (by omega)
    subst hl
    refine ⟨b, o, some ⟨b, o, none⟩, 0, hn, rfl, fun w => ?_, hs_rel.2 ⟨_, 0, rfl, ⟨Nat.le_refl _, Nat.zero_le _, fun _ => rfl⟩, .inl rfl⟩, hx0⟩
    rw [hn]
    simp [Instr.slice, Instr.sliceBounds, Instr.sliceBound, go_sem]
  · have hc1 : c - 1 ≠ 0 := by omega
    refine ⟨b, o, some ⟨b, o + 1, none⟩, c - 1, hn, rfl, fun w => ?_, hs_rel.2 ⟨_, _, rfl, ⟨by omega, by have := hw.2.1; omega, fun e => by cases e⟩, ?_⟩, hx0⟩
    · rw [hn]
      have g1 : ¬ c = 1 := h1
      have g2 : 1 ≤ c := by omega
      have g3 : ¬ (c : Int) < 1 := by omega
      simp [Instr.slice, Instr.sliceBounds, Instr.sliceBound, go_sem, Addr.add]
      rw [if_pos (by omega), if_neg h1]
    · rcases hc with hc | ⟨b', o', cs, t, f, h2, h3, h4⟩
      · cases hc
      · cases h2
        refine .inr ⟨b, o + 1, cs, t, f, rfl, h3, fun i u hu => ?_⟩
        have := h4 (i + 1) u (by simpa using hu)
        rw [show o + 1 + i = o + (i + 1) by omega]
        exact this
def KC (J : Mem) (b : Int) (s : List UInt8) (t0 : KSt) (t8 t9 t11 t12 t13 m : Nat) (pre : List (Nat × Int)) : Assn :=
  PA.ex fun y : KSt × (Option Addr × Nat) × (Option Addr × Nat) × Nat => sep (fact (knF b s t0 pre = some y.1 ∧ y.1.i = pre.length ∧ rHs.rel J [.slice y.2.1.1 y.1.l.length y.2.1.2] y.1.l ∧ rHs.rel J [.slice y.2.2.1.1 y.1.r.length y.2.2.1.2] y.1.r))
    (sep (kn J) (sep (blk t8 (.cells #[.map none] 135 (0, 0))) (sep (blk t9 (.cells #[.bool false] 4 (0, 0))) (sep (blk t11 (.cells #[.slice y.2.1.1 y.1.l.length y.2.1.2] 38 (0, 0))) (sep (blk t12 (.cells #[.slice y.2.2.1.1 y.1.r.length y.2.2.1.2] 38 (0, 0)))
      (sep (blk t13 (.cells #[.int .i64 (y.1.i : Nat)] 3 (0, 0))) (gmap bkv m (kV y.1.K) y.2.2.2)))))))
def KZ (J : Mem) (b : Int) (s : List UInt8) (t0 : KSt) (t8 t9 : Nat) : Code → List (Nat × Int) → Assn
  | .ret, pre => sep (fact (knF b s t0 pre = none)) (sep (kn J) (sep (blk t8 (.cells #[.map none] 135 (0, 0))) (blk t9 (.cells #[.bool false] 4 (0, 0)))))
  | _, _ => fact False
section
variable {W w : World} {A : Assn} {J : Mem} {b : Int} {s : List UInt8} {t0 : KSt} {t8 t9 t11 t12 t13 m : Nat} {pre : List (Nat × Int)}
theorem KC_open (h : Sat W w (sep (KC J b s t0 t8 t9 t11 t12 t13 m pre) A)) : ∃ (t : KSt) (la : Option Addr) (lc : Nat) (ra : Option Addr) (rc n : Nat), knF b s t0 pre = some t ∧ t.i = pre.length ∧ rHs.rel J [.slice la t.l.length lc] t.l ∧ rHs.rel J [.slice ra t.r.length rc] t.r ∧
    Sat W w (sep (kn J) (sep (blk t8 (.cells #[.map none] 135 (0, 0))) (sep (blk t9 (.cells #[.bool false] 4 (0, 0))) (sep (blk t11 (.cells #[.slice la t.l.length lc] 38 (0, 0))) (sep (blk t12 (.cells #[.slice ra t.r.length rc] 38 (0, 0)))
      (sep (blk t13 (.cells #[.int .i64 (t.i : Nat)] 3 (0, 0))) (sep (gmap bkv m (kV t.K) n) A))))))) := by
  obtain ⟨⟨t, ⟨la, lc⟩, ⟨ra, rc⟩, n⟩, ⟨h1, h2, h3, h4⟩, h5⟩ := ex_fact h
  exact ⟨t, la, lc, ra, rc, n, h1, h2, h3, h4, by simpa only [sep_assoc] using h5⟩
theorem KC_mk {t : KSt} {la : Option Addr} {lc : Nat} {ra : Option Addr} {rc n nl nr i : Nat} (h1 : knF b s t0 pre = some t) (h2 : t.i = pre.length) (h3 : rHs.rel J [.slice la nl lc] t.l) (h4 : rHs.rel J [.slice ra nr rc] t.r) (e1 : nl = t.l.length) (e2 : nr = t.r.length) (e3 : i = t.i)
    (h : Sat W w (sep (kn J) (sep (blk t8 (.cells #[.map none] 135 (0, 0))) (sep (blk t9 (.cells #[.bool false] 4 (0, 0))) (sep (blk t11 (.cells #[.slice la nl lc] 38 (0, 0))) (sep (blk t12 (.cells #[.slice ra nr rc] 38 (0, 0)))
      (sep (blk t13 (.cells #[.int .i64 (i : Nat)] 3 (0, 0))) (sep (gmap bkv m (kV t.K) n) A)))))))) : Sat W w (sep (KC J b s t0 t8 t9 t11 t12 t13 m pre) A) := by
  subst e1 e2 e3
  exact fact_ex (t, (la, lc), (ra, rc), n) ⟨h1, h2, h3, h4⟩ (by simpa only [sep_assoc] using h)
theorem KZ_mk (h1 : knF b s t0 pre = none) (h : Sat W w (sep (kn J) (sep (blk t8 (.cells #[.map none] 135 (0, 0))) (sep (blk t9 (.cells #[.bool false] 4 (0, 0))) A)))) : Sat W w (sep (KZ J b s t0 t8 t9 .ret pre) A) := by
  show Sat W w (sep (sep (fact _) _) A)
  rw [sep_assoc]
  exact Sat.fact.2 ⟨h1, by simpa only [sep_assoc] using h⟩
theorem KZ_stop {X B : Assn} (h1 : knF b s t0 pre = none) (h : Sat W w (sep (kn J) (sep (blk t8 (.cells #[.map none] 135 (0, 0))) (sep (blk t9 (.cells #[.bool false] 4 (0, 0))) (sep X (sep A B)))))) :
    Sat W ((w.setCell ⟨t8, 0, none⟩ (.map none)).setCell ⟨t9, 0, none⟩ (.bool false)) (sep (sep (KZ J b s t0 t8 t9 .ret pre) A) B) := by
  have h2 := h.p1.setCell 0 (.map none)
  have h3 := (show Sat W _ (sep (blk t9 (.cells #[.bool false] 4 (0, 0))) _) from h2.p2).setCell 0 (.bool false)
  have h4 : Sat W ((w.setCell ⟨t8, 0, none⟩ (.map none)).setCell ⟨t9, 0, none⟩ (.bool false)) (sep X (sep (kn J) (sep (blk t8 (.cells #[.map none] 135 (0, 0))) (sep (blk t9 (.cells #[.bool false] 4 (0, 0))) (sep A B))))) := by
    simpa only [sep_comm, sep_lcomm, sep_assoc, List.setIfInBounds_toArray, List.set_cons_zero] using h3
  have h5 := KZ_mk h1 h4.drop
  simpa only [sep_comm, sep_lcomm, sep_assoc] using h5
end
end Go.Proofs.YtcmjbjlliehdiaaDoor
