/- AuthmapBytes in plain: which proofs come up, and how long their encodings are. -/
import Derived.Test.YtcmjbjlliehdiaaDoorGAuthmapBytesSQb
import Derived.Test.YtcmjbjlliehdiaaDoorGAuthmapBytesSQn
import Derived.Test.YtcmjbjlliehdiaaDoorGAuthmapBytesSQg
import Derived.Test.YtcmjbjlliehdiaaDoorGAuthmapBytes24
import Derived.Test.YtcmjbjlliehdiaaDoorReg4
namespace Go.Proofs.YtcmjbjlliehdiaaDoor
open Go.RowKit PA
structure PrfS (p : Prf) : Prop where
  l : p.l.length ≤ 5000
  r : p.r.length ≤ 5000
  s : p.s.length ≤ 5000
  bl : ∀ h ∈ p.l, h < 18446744073709551616
  br : ∀ h ∈ p.r, h < 18446744073709551616
theorem PrfS.ok {p : Prf} (h : PrfS p) : PrfOK p := ⟨by have := h.l; omega, by have := h.r; omega, by have := h.s; omega, h.bl, h.br⟩
theorem PrfS.len {p : Prf} (h : PrfS p) : (encP p).length ≤ 200000 ∧ 1 ≤ (encP p).length := by
  have h1 := hvsE_len p.l (by have := h.l; omega) h.bl
  have h2 := hvsE_len p.r (by have := h.r; omega) h.br
  have h3 := encR_lenQ p.s (by have := h.s; omega)
  have h4 := h.l
  have h5 := h.r
  have h6 := h.s
  have h7 : 1 ≤ (encR p.s).length := by
    unfold encR
    rw [List.length_append]
    have : 1 ≤ (Lib.uvarint p.s.length).length := by
      unfold Lib.uvarint
      split <;> simp
    omega
  unfold encP
  simp only [List.length_append]
  omega
theorem rngP_small (M : KVs) (a b : Int) : (rngP M a b).l.length ≤ 4096 ∧ (rngP M a b).r.length ≤ 4096 ∧ (rngP M a b).s.length ≤ 4096 ∧ (∀ h ∈ (rngP M a b).l, h < 18446744073709551616) ∧ ∀ h ∈ (rngP M a b).r, h < 18446744073709551616 := by
  have h0 := outL_top a b
  have h1 := leftL_len M a (outL a b 12 0)
  have h2 := rightL_len M a (outL a b 12 0)
  unfold rngP
  refine ⟨by dsimp only; omega, by dsimp only; omega, by simp only [shapeL, List.length_map]; omega, fun h hh => ?_, fun h hh => ?_⟩
  · obtain ⟨x, -, hx⟩ := List.mem_filterMap.1 hh
    unfold leftF at hx
    split at hx
    · exact hbN_lt _ _ _ _ hx
    · cases hx
  · obtain ⟨x, -, hx⟩ := List.mem_filterMap.1 hh
    unfold rightF at hx
    split at hx
    · cases hx
    · exact hbN_lt _ _ _ _ hx
theorem rngP_S (M : KVs) (a b : Int) : PrfS (rngP M a b) := by
  obtain ⟨h1, h2, h3, h4, h5⟩ := rngP_small M a b
  exact ⟨by omega, by omega, by omega, h4, h5⟩
theorem mem_set_lt {l : List Nat} {i h m : Nat} (hl : ∀ x ∈ l, x < m) (hh : h < m) : ∀ x ∈ l.set i h, x < m := fun x hx => by
  rcases List.mem_or_eq_of_mem_set hx with hx | rfl
  · exact hl x hx
  · exact hh
theorem bentP_S {p : Prf} (h1 : p.l.length ≤ 4900 ∧ p.r.length ≤ 4900 ∧ p.s.length ≤ 4900) (h : PrfS p) (k i j m hh : Nat) (hlt : hh < 18446744073709551616) : PrfS (bentP p k i j m hh) := by
  obtain ⟨a1, a2, a3⟩ := h1
  unfold bentP
  have g1 : ∀ x ∈ p.l ++ [hh], x < 18446744073709551616 := fun x hx => by
    rcases List.mem_append.1 hx with hx | hx
    · exact h.bl x hx
    · rw [List.mem_singleton.1 hx]; exact hlt
  have g2 : ∀ x ∈ p.r ++ [hh], x < 18446744073709551616 := fun x hx => by
    rcases List.mem_append.1 hx with hx | hx
    · exact h.br x hx
    · rw [List.mem_singleton.1 hx]; exact hlt
  split
  · exact ⟨by simpa using h.l, h.r, h.s, mem_set_lt h.bl hlt, h.br⟩
  · split
    · exact ⟨h.l, by simpa using h.r, h.s, h.bl, mem_set_lt h.br hlt⟩
    · split
      · exact ⟨by simp; omega, h.r, h.s, g1, h.br⟩
      · split
        · exact ⟨h.l, by simp; omega, h.s, h.bl, g2⟩
        · split
          · exact ⟨h.l, h.r, by simpa using h.s, h.bl, h.br⟩
          · split
            · exact ⟨h.l, h.r, by simp; omega, h.bl, h.br⟩
            · split
              · exact ⟨by simp; omega, h.r, h.s, fun x hx => h.bl x (List.mem_of_mem_drop hx), h.br⟩
              · exact ⟨h.l, h.r, by simp; omega, h.bl, h.br⟩
theorem noP_S : PrfS ⟨[], [], []⟩ := ⟨by simp, by simp, by simp, fun x hx => (by cases hx), fun x hx => (by cases hx)⟩
theorem noP_R (I : Mem) : prfR I (.agg #[.slice none 0 0, .slice none 0 0, .slice none 0 0]) ⟨[], [], []⟩ := ⟨_, _, _, rfl, hs_nil I, hs_nil I, bytes_rel.2 ⟨none, 0, rfl, ⟨Nat.le_refl _, Nat.zero_le _, fun _ => rfl⟩, .inl rfl⟩⟩
/-- Equal bytes, both settled. -/
theorem sameBytes_kn {W w : World} {A : Assn} {I : Mem} (v u : Value) (x y : List UInt8) (h : Sat W w (sep (kn I) A)) (h1 : rBytes.rel I [v] x) (h2 : rBytes.rel I [u] y) :
    Calls Tryd.prog 34 #[v, u] w fun e w' => e = .returned (.bool (decide (x = y))) ∧ Sat W w' (sep (kn I) A) := by
  have t1 : Sat W w (sep (rBytes.is [u] y) (sep (kn I) A)) := h.tell h2
  have t2 : Sat W w (sep (rBytes.is [v] x) (sep (kn I) (sep (rBytes.is [u] y) A))) := t1.p1.tell h1
  have t3 : Sat W w (sep (rBytes.is [v] x) (sep (rBytes.is [u] y) (sep (kn I) A))) := by simpa only [sep_comm, sep_lcomm, sep_assoc] using t2
  refine (sameBytes_spec v u x y t3).mono ?_
  rintro e w' ⟨rfl, h4⟩
  exact ⟨rfl, h4.drop.drop⟩
/-- The cells of a slice of proofs. -/
theorem prf_cells {w : World} {q : Nat} {J : Mem} {cs : Array Value} {t : Nat} (hq : J q = some (.cells cs t (0, 0))) (he : Ext J w) (i : Nat) : w.cell? ⟨q, i, none⟩ = cs[i]? := cell_of_row w q i cs t (0, 0) (he _ _ hq)
theorem prfR_form {I : Mem} {v : Value} {p : Prf} (h : prfR I v p) : ∃ a1 n1 c1 a2 n2 c2 a3 n3 c3, v = .agg #[.slice a1 n1 c1, .slice a2 n2 c2, .slice a3 n3 c3] ∧ n3 = p.s.length := by
  obtain ⟨v1, v2, v3, rfl, r1, r2, r3⟩ := h
  obtain ⟨la, lc, rfl, -, -⟩ := hs_rel.1 r1
  obtain ⟨ra, rc, rfl, -, -⟩ := hs_rel.1 r2
  obtain ⟨sa, sc, rfl, -, -⟩ := bytes_rel.1 r3
  exact ⟨_, _, _, _, _, _, _, _, _, rfl, rfl⟩
theorem rel_okQ {W w : World} {A : Assn} {I : Mem} {a : Option Addr} {n c : Nat} {bs : List UInt8} (h : Sat W w (sep (kn I) A)) (hr : rBytes.rel I [.slice a n c] bs) : SrcOkQ w a n (bs.map bv) := by
  obtain ⟨a', c', e, hw, hc⟩ := bytes_rel.1 hr
  simp only [Value.slice.injEq] at e
  obtain ⟨rfl, rfl, rfl⟩ := e
  exact ⟨by rw [List.length_map, Nat.mul_one], fun e => by have := hw.2.2 e; have := hw.1; omega, src_ext hc h.ext, bv_one bs⟩
theorem rel_takeQ {I : Mem} {a : Option Addr} {n c : Nat} {l : List UInt8} (k : Nat) (hk : k ≤ n) (hv : rBytes.rel I [.slice a n c] l) : rBytes.rel I [.slice a k c] (l.take k) ∧ k ≤ c ∧ (c : Int) ≤ 9223372036854775807 ∧ (l.take k).length = k := by
  obtain ⟨a', c', e, hw, hc⟩ := bytes_rel.1 hv
  simp only [Value.slice.injEq] at e
  obtain ⟨rfl, rfl, rfl⟩ := e
  have hl : (l.take k).length = k := by rw [List.length_take]; omega
  refine ⟨bytes_rel.2 ⟨a, c, by rw [hl], ⟨by rw [hl]; have := hw.1; omega, hw.2.1, hw.2.2⟩, ?_⟩, by have := hw.1; omega, by have := hw.2.1; unfold maxLen at this; omega, hl⟩
  rcases hc with hc | ⟨b, o, cs, t, f, h1, h2, h3⟩
  · left
    have : l = [] := by simpa using hc
    rw [this]; simp
  · refine .inr ⟨b, o, cs, t, f, h1, h2, fun i u hu => h3 i u ?_⟩
    rw [List.map_take, List.getElem?_take] at hu
    split at hu
    · exact hu
    · cases hu
theorem slice_preQ (a : Option Addr) (n c j : Nat) (hj : j ≤ c) (hc : (c : Int) ≤ 9223372036854775807) (w : World) : (Instr.slice 32 (.slice a n c) none (some (.int .i64 (j : Int))) none).run Tryd.prog w = .ok (.slice a j c) w := by
  have hjI : (j : Int) ≤ (c : Int) := by omega
  have hu := Tryd.underlying32
  cases a with
  | none => simp [Instr.slice, Instr.sliceBounds, Instr.sliceBound, go_sem]; exact fun h => absurd h (by omega)
  | some x => simp [Instr.slice, Instr.sliceBounds, Instr.sliceBound, go_sem, Addr.add]; exact fun h => absurd h (by omega)
theorem ex_fact {W w : World} {α : Type} {p : α → Prop} {B : α → Assn} {R : Assn} (h : Sat W w (sep (PA.ex fun x => sep (fact (p x)) (B x)) R)) : ∃ x, p x ∧ Sat W w (sep (B x) R) := by
  rw [ex_sep, Sat.ex] at h
  obtain ⟨x, h⟩ := h
  rw [sep_assoc] at h
  obtain ⟨h1, h2⟩ := Sat.fact.1 h
  exact ⟨x, h1, h2⟩
theorem fact_ex {W w : World} {α : Type} {p : α → Prop} {B : α → Assn} {R : Assn} (x : α) (hp : p x) (h : Sat W w (sep (B x) R)) : Sat W w (sep (PA.ex fun x => sep (fact (p x)) (B x)) R) := by
  rw [ex_sep, Sat.ex]
  refine ⟨x, ?_⟩
  rw [sep_assoc]
  exact Sat.fact.2 ⟨hp, h⟩
theorem dn_one {i : Nat} {dn : List (Nat × Value)} (h : dn.map (·.1) = [i]) : ∃ v, dn = [(i, v)] := by
  match dn, h with
  | [(k, v)], h => simp at h; exact ⟨v, by rw [h]⟩
theorem dn_two {i j : Nat} {dn : List (Nat × Value)} (h : dn.map (·.1) = [i, j]) : ∃ v u, dn = [(i, v), (j, u)] := by
  match dn, h with
  | [(k, v), (l, u)], h => simp at h; exact ⟨v, u, by rw [h.1, h.2]⟩
/-! the three threads of the last region -/
def thF (J : Mem) (n : Nat) (F : List UInt8) : List Value → Assn
  | [] => kn J
  | v :: _ => PA.ex fun ac : Option Addr × Nat => sep (fact (v = .slice ac.1 n ac.2)) (osl 5 1 ac.1 n ac.2 (F.map bv))
def thC (J : Mem) (n : Nat) (C : List UInt8) : List Value → Assn
  | [] => kn J
  | [v] => PA.ex fun g : Nat => sep (fact (v = .slice (some ⟨g, 0, none⟩) 0 0)) (sep (kn J) (osl 5 1 (some ⟨g, 0, none⟩) 0 0 []))
  | _ :: v :: _ => PA.ex fun ac : Option Addr × Nat => sep (fact (v = .slice ac.1 n ac.2)) (osl 5 1 ac.1 n ac.2 (C.map bv))
def thX (x : UInt8) : List Value → Assn
  | [] => emp
  | v :: _ => PA.ex fun g : Nat => sep (fact (v = .slice (some ⟨g, 0, none⟩) 1 1)) (osl 5 1 (some ⟨g, 0, none⟩) 1 1 [bv x])
theorem does_append {W w : World} {A B : Assn} {ac : Act} {o : Oper} (s y : Operand) (ho : o.op = .call { callee := .builtin .append, args := #[s, y], argTypes := #[32, 32] })
    {a x : Option Addr} {n c m cc : Nat} {xs news : List Value} (hs : ac.eval s = .slice a n c) (h : Sat W w (sep (osl 5 1 a n c xs) A)) (hy : ac.eval y = .slice x m cc) (hok : SrcOkQ w x m news) (hb : n + m ≤ 140737488355328)
    {Post : Value → Assn} (hP : ∀ a' c' w', Sat W w' (sep (osl 5 1 a' (n + m) c' (xs ++ news)) A) → Sat W w' (sep (Post (.slice a' (n + m) c')) B)) :
    ∃ v w', (execOp ac.eval o).run Tryd.prog w = .ok (.value v) w' ∧ Sat W w' (sep (Post v) B) := by
  obtain ⟨i, hi1, hi2, hi3, hi4⟩ := info_parts infoU8w
  obtain ⟨a', c', w', hr, hS⟩ := run_append_osl (P := Tryd.prog) 32 o.type 5 1 1 i (.int .u8 0) Tryd.underlying32 hi1 hi2 hi3 hi4 rfl h x m cc news hok.len hok.nil hok.src hok.one (by unfold maxLen; omega) (by omega)
  exact ⟨_, w', exec_append s y 32 32 ho (by rw [hs, hy]; exact hr), hP a' c' w' hS⟩
end Go.Proofs.YtcmjbjlliehdiaaDoor
