/- A range over a function whose left sides lie in blocks of their own. Plain Lean, no program in sight. -/
import Derived.Test.YtfapiopnjllnnaaGreatDoorGTitleApart23
import Derived.Test.YtfapiopnjllnnaaGreatDoorGTitleApartSTg
import Derived.Test.YtfapiopnjllnnaaGreatDoorGTitleApart25
import Derived.Test.YtfapiopnjllnnaaGreatDoorGTitleApart24
namespace PA
open Go Go.RowKit
section
variable {α : Type} {F : Fence} {P : Program}
/-- The statement, the assignments to the left sides being free to lay out blocks. -/
theorem wpIn_range2 {n : Nat} {W : World} {g : Operand} {ps : Array Tmp} {assign body : Code} {Q : Exit → Act → World → Prop} {a : Act} {w : World}
    (hro : F.round = none) (h1 : 1 ≤ n) {gf : Nat} {lb : Array Value} (hg : a.eval g = .func (.func gf) #[] lb) (hFg : F.fn gf) (eg : ∀ args w, (callFunc gf args).run P w = .ok (.enter gf args) w)
    {encs : α → Array Value} {Fx : α → Assn} {N : Nat} {S : List α → Prop} {Pre Post : Assn} (hps : ∀ x, (encs x).size = ps.size)
    (hseq : Gives F (n - 1) P W gf lb encs Fx N S Pre Post)
    (C : List α → Assn) (h0 : Sat W w (sep (C []) Pre)) (Mid : List α → α → Act → Assn → Prop)
    (hassign : ∀ (l : Nat) (pre : List α) (x : α) (w' : World) (B : Assn) (K : Act → World → Prop), pre.length < N → Sat W w' (sep (C pre) (sep (Fx x) B)) → (∀ a₁ w₁ E, Mid pre x a₁ E → Sat W w₁ (sep E B) → K a₁ w₁) →
      assign.wpIn (F.inRound l) (n - 1 - 1) P (Exit.then K (fun _ _ _ => False)) { tmps := (ps.zip (encs x)).foldl (fun t (p, v) => t.setIfInBounds p v) a.tmps, defers := [] } w')
    (hbody : ∀ (l : Nat) (pre : List α) (x : α) (a₁ : Act) (E : Assn) (w' : World) (B : Assn), pre.length < N → Mid pre x a₁ E → Sat W w' (sep E B) →
      body.wpIn (F.inRound l) (n - 1 - 1) P (Round W (sep (C (pre ++ [x])) B)) a₁ w')
    (hdone : ∀ (D : Nat) (xs : List α) (w' : World), S xs → Sat W w' (sep (blk D (.deferred (some []))) (sep (C xs) Post)) →
      Q .normal { a with defers := { target := .collected D, args := #[] } :: a.defers } w') :
    (Code.rangeFunc g ps assign body).wpIn F n P Q a w := by
  refine wpIn_rangeFunc fun fn hfn => ?_
  rw [hro]
  obtain ⟨D, hD⟩ : ∃ D, D = w.heap.size := ⟨_, rfl⟩
  obtain ⟨mk, hmk⟩ : ∃ mk : LoopState → Option Code → Loop, mk = fun st pe => ⟨st, pe, fn, a.tmps, ps, assign, body, D⟩ := ⟨_, rfl⟩
  obtain ⟨w1, hw1⟩ : ∃ w1, w1 = (w.alloc (.deferred (some []))).alloc (.loop (mk .ready none)) := ⟨_, rfl⟩
  have hS1 : Sat W w1 (sep (sep (C []) (sep (blk (D + 1) (.loop (mk .ready none))) (blk D (.deferred (some []))))) Pre) := by
    have h := (h0.alloc (.deferred (some []))).alloc (.loop (mk .ready none))
    rw [World.size_alloc, ← hw1, ← hD] at h
    simpa only [sep_comm, sep_lcomm, sep_assoc] using h
  have henter := run_enterLoop_outer (P := P) (w := w) fn a.tmps ps assign body
  refine ⟨D + 1, [{ target := .collected D, args := #[] }], w1, { target := .fn (.func gf) lb, args := #[.func (.yield (D + 1)) #[] #[]] }, w1, gf, #[.func (.yield (D + 1)) #[] #[]] ++ lb, w1, ?_, ?_, ?_, ?_, fun _ => h1, ?_⟩
  · rw [hw1, hmk, hD]; exact henter
  · simp only [resolve, hg]
    simp [go_sem]
  · intro f' hf'; simp [Target.leads] at hf'; subst hf'; exact hFg
  · simp [invoke, go_sem, eg]
  · refine (hseq (D + 1) (fun pre => sep (C pre) (sep (blk (D + 1) (.loop (mk .ready none))) (blk D (.deferred (some []))))) w1 ?_ hS1).mono ?_
    · intro pre x w2 B hlen hS
      have hl : Sat W w2 (sep (blk (D + 1) (.loop (mk .ready none))) (sep (C pre) (sep (Fx x) (sep B (blk D (.deferred (some []))))))) := by simpa only [sep_comm, sep_lcomm, sep_assoc] using hS
      have hy := run_yield (P := P) (args := encs x) hl.blk_heap (by rw [hmk]; exact hps x)
      rw [hmk] at hy
      refine ⟨fn, _, assign, body, hy, roundIn_of_wpIn hfn (hassign _ pre x w2 (sep (blk (D + 1) (.loop (mk .ready none))) (sep B (blk D (.deferred (some []))))) _ hlen (by simpa only [sep_comm, sep_lcomm, sep_assoc] using hS) ?_)⟩
      intro a₁ w₁ E hmid hE
      have hl1 : Sat W w₁ (sep (blk (D + 1) (.loop (mk .ready none))) (sep E (sep B (blk D (.deferred (some []))))) ) := by simpa only [sep_comm, sep_lcomm, sep_assoc] using hE
      refine ⟨_, run_beginRound hl1.blk_heap (by rw [hmk]), ?_⟩
      have h3 := (hl1.putObj (.loop { mk .ready none with state := .busy })).p1
      refine wpIn_mono (hbody _ pre x a₁ E _ (sep (blk (D + 1) (.loop { mk .ready none with state := .busy })) (sep B (blk D (.deferred (some []))))) hlen hmid (by simpa only [sep_comm, sep_lcomm, sep_assoc] using h3)) ?_
      rintro e a3 w3 hp
      cases e with
      | normal =>
        have h4 : Sat W w3 (sep (blk (D + 1) (.loop { mk .ready none with state := .busy })) (sep (C (pre ++ [x])) (sep B (blk D (.deferred (some [])))))) := Sat.p1 hp
        have hr := run_endRound (P := P) none h4.blk_heap
        have h5 := h4.putObj (.loop (mk .ready none))
        refine ⟨_, _, hr, rfl, ?_⟩
        have e : ({ mk .ready none with state := .busy } : Loop) = mk .busy none := by rw [hmk]
        rw [e]
        have e2 : ({ mk .busy none with state := if (none : Option Code).isNone then .ready else .done, pending := none } : Loop) = mk .ready none := by rw [hmk]; rfl
        rw [e2]
        simpa only [sep_comm, sep_lcomm, sep_assoc] using h5
      | ret => exact hp.elim
      | exit id => exact hp.elim
      | goto t => exact hp.elim
      | panic ch => exact hp.elim
      | outgrown => exact hp.elim
    · rintro e w2 ⟨⟨v, rfl⟩, xs, hS, h2⟩
      have h3 : Sat W w2 (sep (blk (D + 1) (.loop (mk .ready none))) (sep (C xs) (sep Post (blk D (.deferred (some [])))))) := by simpa only [sep_comm, sep_lcomm, sep_assoc] using h2
      have e : (mk .ready none).pending = none := by rw [hmk]
      have hr := run_endLoop (P := P) h3.blk_heap (by rw [hmk]; simp)
      have h4 := (h3.putObj (.loop { mk .ready none with state := .exhausted })).drop
      rw [e] at hr
      refine ⟨none, _, hr, hdone D xs _ hS ?_⟩
      dsimp only at h4
      rw [e] at h4
      simpa only [sep_comm, sep_lcomm, sep_assoc] using h4
/-- The same, the frame behind the assignments being the loop's own with some slots set: g is the block that the left side was laid in. -/
theorem wpIn_range3 {n : Nat} {W : World} {g : Operand} {ps : Array Tmp} {assign body : Code} {Q : Exit → Act → World → Prop} {a : Act} {w : World}
    (hro : F.round = none) (h1 : 1 ≤ n) {gf : Nat} {lb : Array Value} (hg : a.eval g = .func (.func gf) #[] lb) (hFg : F.fn gf) (eg : ∀ args w, (callFunc gf args).run P w = .ok (.enter gf args) w)
    {encs : α → Array Value} {Fx : α → Assn} {N : Nat} {S : List α → Prop} {Pre Post : Assn} (hps : ∀ x, (encs x).size = ps.size)
    (hseq : Gives F (n - 1) P W gf lb encs Fx N S Pre Post)
    (C : List α → Assn) (h0 : Sat W w (sep (C []) Pre)) (upd : α → Nat → Array Value → Array Value) (Cm : List α → α → Nat → Assn)
    (hassign : ∀ (l : Nat) (pre : List α) (x : α) (w' : World) (B : Assn) (K : Act → World → Prop), pre.length < N → Sat W w' (sep (C pre) (sep (Fx x) B)) → (∀ g w₁, Sat W w₁ (sep (Cm pre x g) B) → K { tmps := upd x g a.tmps, defers := [] } w₁) →
      assign.wpIn (F.inRound l) (n - 1 - 1) P (Exit.then K (fun _ _ _ => False)) { tmps := (ps.zip (encs x)).foldl (fun t (p, v) => t.setIfInBounds p v) a.tmps, defers := [] } w')
    (hbody : ∀ (l : Nat) (pre : List α) (x : α) (g : Nat) (w' : World) (B : Assn), pre.length < N → Sat W w' (sep (Cm pre x g) B) →
      body.wpIn (F.inRound l) (n - 1 - 1) P (Round W (sep (C (pre ++ [x])) B)) { tmps := upd x g a.tmps, defers := [] } w')
    (hdone : ∀ (D : Nat) (xs : List α) (w' : World), S xs → Sat W w' (sep (blk D (.deferred (some []))) (sep (C xs) Post)) →
      Q .normal { a with defers := { target := .collected D, args := #[] } :: a.defers } w') :
    (Code.rangeFunc g ps assign body).wpIn F n P Q a w := by
  refine wpIn_range2 hro h1 hg hFg eg hps hseq C h0 (fun pre x a₁ E => ∃ g, a₁ = { tmps := upd x g a.tmps, defers := [] } ∧ E = Cm pre x g) ?_ ?_ hdone
  · intro l pre x w' B K hl hS hK
    exact hassign l pre x w' B K hl hS fun g w₁ h => hK _ w₁ _ ⟨g, rfl, rfl⟩ h
  · rintro l pre x a₁ E w' B hl ⟨g, rfl, rfl⟩ hS
    exact hbody l pre x g w' B hl hS
end
end PA
/- Package title: the closure of Chain; slices.Backward of steps. -/
namespace Go.Proofs.YtfapiopnjllnnaaGreatDoor
open Go.RowKit PA
def kS : Nat := 20
theorem sizeStep (w : World) : (Go.sizeOf 102).run Tryz.prog w = .ok kS w := by kernel_rfl
def bdStep (p : Array (Nat × Value)) : Sem Value := Instr.build 102 p
theorem build_step (p : Array (Nat × Value)) : Instr.build 102 p = bdStep p := rfl
def bsStep (p : Array (Nat × Value)) : Sem Value := Instr.buildSlice 100 1 p
theorem buildSlice_step (p : Array (Nat × Value)) : Instr.buildSlice 100 1 p = bsStep p := rfl
def stepC (s : Nat × Ac) : List Value := .int .i64 s.1 :: s.2.cells
theorem stepC_len (s : Nat × Ac) : (stepC s).length = 20 := rfl
theorem stepC_one (s : Nat × Ac) : ∀ u ∈ stepC s, u.oneCell' = true := by
  intro u hu
  rcases List.mem_cons.1 hu with rfl | hu
  · rfl
  · exact s.2.one u hu
def stsC (l : List (Nat × Ac)) : List Value := l.flatMap stepC
theorem stsC_len (l : List (Nat × Ac)) : (stsC l).length = l.length * 20 := by
  induction l with
  | nil => rfl
  | cons x xs ih => rw [stsC, List.flatMap_cons, List.length_append, ← stsC, ih, List.length_cons, stepC_len]; omega
theorem stsC_at (xs : List (Nat × Ac)) (i : Nat) (hi : i < xs.length) (j : Nat) (hj : j < 20) : (stsC xs)[i * 20 + j]? = (stepC xs[i])[j]? := by
  have e : xs = xs.take i ++ xs[i] :: xs.drop (i + 1) := by rw [← List.drop_eq_getElem_cons hi, List.take_append_drop]
  have hl : (stsC (xs.take i)).length = i * 20 := by rw [stsC_len, List.length_take, Nat.min_eq_left (by omega)]
  conv => lhs; rw [e]
  unfold stsC at hl ⊢
  rw [List.flatMap_append, List.getElem?_append_right (by omega), hl, Nat.add_sub_cancel_left, List.flatMap_cons, List.getElem?_append_left (by rw [stepC_len]; exact hj)]
theorem infoStep : (Tryz.prog.info? 102).map (fun i => (i.zero, i.size, i.bytes)) = some (some (.agg (stepC (0, Ac.zero)).toArray), 20, 256) := by kernel_rfl
theorem run_bdStep (i : Nat) (x : Ac) (w : World) : (bdStep #[(0, .int .i64 i), (1, .agg x.cells.toArray)]).run Tryz.prog w = .ok (.agg (stepC (i, x)).toArray) w := by kernel_rfl
theorem run_bsStep (s : Nat × Ac) (w : World) : (bsStep #[(0, .agg (stepC s).toArray)]).run Tryz.prog w = .ok (.slice (some ⟨w.heap.size, 0, none⟩) 1 1) (w.alloc (.cells (stepC s).toArray 102)) := by
  obtain ⟨i, h1, h2, h3, h4⟩ := info_parts infoStep
  exact run_buildSlice w 100 102 1 _ _ i _ Tryz.underlying100 h1 h2 (by rw [h3]; omega) (by rw [h3]; omega) (by rw [h3]; kernel_rfl)
theorem act_rdW {w : World} {q : Nat} {x : Ac} (h : ∀ i v, x.cells[i]? = some v → w.cell? ⟨q, i, none⟩ = some v) : Sem.run Tryz.prog (loadCellsFrom ⟨q, 0, none⟩ 0 kA #[]) w = .ok x.cells.toArray w := by
  have hl : x.cells.length = kA := rfl
  have := run_loadCells_list (P := Tryz.prog) w ⟨q, 0, none⟩ x.cells (fun j v hj => by
    have e : (⟨q, 0, none⟩ : Addr).add j = ⟨q, j, none⟩ := by unfold Addr.add; split <;> simp_all
    rw [e]
    exact h j v hj)
  rw [hl] at this
  exact this
attribute [local go_sem ↓] sizeAct build_step buildSlice_step
/-- The transfers that have effect, with their indices. -/
def evD (s : List (Nat × Ac)) (i : Nat) (x : Ac) (dn : Bool) : List (Nat × Ac) := if x.k = 16 ∧ dn = true then s ++ [(i, x)] else s
theorem evD_len {s : List (Nat × Ac)} {i : Nat} {x : Ac} {dn : Bool} (h : s.length ≤ i) : (evD s i x dn).length ≤ i + 1 := by
  unfold evD
  split
  · rw [List.length_append, List.length_singleton]; omega
  · omega
/-- A captured slice of steps. -/
def capD (V : Nat) (s : List (Nat × Ac)) : Assn := ex fun ac : Option Addr × Nat => sep (blk V (.cells #[.slice ac.1 s.length ac.2] 100 (0, 0))) (osl 102 20 ac.1 s.length ac.2 (stsC s))
theorem capD_open {W w : World} {A : Assn} {V : Nat} {s : List (Nat × Ac)} (h : Sat W w (sep (capD V s) A)) : ∃ a c, Sat W w (sep (blk V (.cells #[.slice a s.length c] 100 (0, 0))) (sep (osl 102 20 a s.length c (stsC s)) A)) := by
  rw [capD, ex_sep, Sat.ex] at h
  obtain ⟨⟨a, c⟩, h⟩ := h
  rw [sep_assoc] at h
  exact ⟨a, c, h⟩
theorem capD_mk {W w : World} {A : Assn} {V : Nat} {s : List (Nat × Ac)} {a : Option Addr} {c : Nat} (h : Sat W w (sep (blk V (.cells #[.slice a s.length c] 100 (0, 0))) (sep (osl 102 20 a s.length c (stsC s)) A))) : Sat W w (sep (capD V s) A) := by
  rw [capD, ex_sep, Sat.ex]
  exact ⟨(a, c), by rw [sep_assoc]; exact h⟩
set_option maxHeartbeats 2000000 in
theorem chain1_spec {W w : World} {B : Assn} (V : Nat) (s : List (Nat × Ac)) (i : Nat) (x : Ac) (dn : Bool) (pt : Value) (hi : i < 40) (hs : s.length ≤ i) (h : Sat W w (sep (capD V s) B)) :
    Calls Tryz.prog 46 #[pt, .int .i64 i, .agg x.cells.toArray, .bool dn, .pointer (some ⟨V, 0, none⟩)] w fun e w' => e = .returned (.tuple #[]) ∧ Sat W w' (sep (capD V (evD s i x dn)) B) := by
  obtain ⟨a, c, h0⟩ := capD_open h
  have h1 := h0.alloc0 (.cells x.cells.toArray 57)
  obtain ⟨w1, hw1⟩ : ∃ w1, w1 = w.alloc (.cells x.cells.toArray 57) := ⟨_, rfl⟩
  have b0 : (w.alloc (.cells x.cells.toArray 57)).cell? ⟨w.heap.size, 0, none⟩ = some (.int .i64 x.k) := act_box w x 0
  have l1 : Sem.run Tryz.prog (loadCellsFrom ⟨w.heap.size, 0, none⟩ 0 kA #[]) (w.alloc (.cells x.cells.toArray 57)) = .ok x.cells.toArray (w.alloc (.cells x.cells.toArray 57)) := act_rdW fun j v hj => by rw [act_box]; exact hj
  obtain ⟨Bx, hBx⟩ : ∃ Bx, Bx = w.heap.size := ⟨_, rfl⟩
  rw [← hw1, ← hBx] at b0 l1
  rw [← hw1] at h1
  obtain ⟨n, hn⟩ : ∃ n, n = s.length := ⟨_, rfl⟩
  rw [← hn] at h1
  have H1 := Lib.hid h1
  have HW1 := Lib.hid hw1
  have HBX := Lib.hid hBx
  have HN := Lib.hid hn
  have hn40 : n ≤ 40 := by omega
  clear h h0 h1 hw1 hBx hn hs
  by_cases hc : x.k = 16 ∧ dn = true
  · obtain ⟨hk, rfl⟩ := hc
    have HE : Hid (evD s i x true = s ++ [(i, x)]) := Lib.hid (by unfold evD; rw [if_pos ⟨hk, rfl⟩])
    rw [hk] at b0
    have v0 : w1.cell? ⟨V, 0, none⟩ = some (.slice a n c) := H1.out.cell 0
    have hbd := run_bdStep i x
    have hbs := run_bsStep (i, x)
    have hB : Sat W (w1.alloc (.cells (stepC (i, x)).toArray 102)) (sep (osl 102 20 a n c (stsC s)) (sep (blk V (.cells #[.slice a n c] 100 (0, 0))) B)) := (H1.out.alloc0 _).p1
    have HSRC := Lib.hid (new_src w1 (stepC (i, x)) 102)
    have HB := Lib.hid hB
    clear hk hB
    go_enter Tryz.func46, Tryz.ntmps46
    go_upto_region 1 with (fail)
    rw [← HBX.out, ← HW1.out]
    go_wp2_with (at_builtin; refine wpl_append_osl rfl _ _ 100 rfl 102 20 256 _ Tryz.underlying100 infoStep rfl rfl HB.out rfl (stepC (i, x)) rfl (by simp) (by intro b' hb; cases hb; exact HSRC.out) (stepC_one _) (by omega) (by unfold maxLen; omega) ?_)
    intro a2 c2 w4 h5
    have h6 := h5.p1
    have u0 := h6.unfrozen 0
    have v1 : w4.cell? ⟨V, 0, none⟩ = some (.slice a n c) := h6.cell 0
    have H7 := Lib.hid (h6.setCell 0 (.slice a2 (n + 1) c2))
    clear h5 h6 HB hbd hbs l1
    go_wp2
    go_end0
    refine ⟨rfl, ?_⟩
    rw [HE.out]
    have hl : (s ++ [(i, x)]).length = n + 1 := by rw [List.length_append, ← HN.out]; rfl
    refine capD_mk (a := a2) (c := c2) ?_
    rw [hl, show stsC (s ++ [(i, x)]) = stsC s ++ stepC (i, x) by simp [stsC]]
    exact H7.out
  · have HE : Hid (evD s i x dn = s) := Lib.hid (by unfold evD; rw [if_neg hc])
    have HFIN : Hid (Sat W w1 (sep (capD V s) B)) := Lib.hid (capD_mk (a := a) (c := c) (by rw [← HN.out]; exact H1.out))
    clear l1
    by_cases hk : x.k = 16
    · have hdn : dn = false := by cases dn <;> simp_all
      rw [hk] at b0
      subst hdn
      clear hc hk
      go_enter Tryz.func46, Tryz.ntmps46
      go_upto_region 1 with (fail)
      rw [← HBX.out, ← HW1.out]
      go_wp2
      go_end0
      exact ⟨rfl, by rw [HE.out]; exact HFIN.out⟩
    · have bz : (x.k == 16) = false := by simp [hk]
      clear hc hk
      go_enter Tryz.func46, Tryz.ntmps46
      go_upto_region 1 with (fail)
      rw [← HBX.out, ← HW1.out]
      go_wp2
      go_end0
      exact ⟨rfl, by rw [HE.out]; exact HFIN.out⟩
theorem backSteps_spec (a : Option Addr) (n c : Nat) (w : World) :
    Calls Tryz.prog 48 #[.slice a n c] w fun e w' => e = .returned (.func (.func 71) #[] #[.pointer (some ⟨w.heap.size, 0, none⟩)]) ∧ w' = w.alloc (.cells #[.slice a n c] 100) := by
  have hmf : ∀ (fn : Fn) (first cap : Array Value) (w : World), (Instr.makeFunc fn first cap).run Tryz.prog w = .ok (.func fn first cap) w := fun _ _ _ _ => rfl
  go_enter Tryz.func48, Tryz.ntmps48
  go_wp2
  go_ret
  exact ⟨rfl, rfl⟩
end Go.Proofs.YtfapiopnjllnnaaGreatDoor
/- slices.Backward of steps, as an iterator; slices.Reverse of ints. -/
namespace Go.Proofs.YtfapiopnjllnnaaGreatDoor
open Go.RowKit PA
attribute [local go_sem] Oper.semAt_some
attribute [local go_sem ↓] sizeStep
theorem steps_ld {W w : World} {A : Assn} {a : Option Addr} {m c : Nat} {s : List (Nat × Ac)} (hm : s.length = m) (h : Sat W w (sep (osl 102 20 a m c (stsC s)) A)) (i : Nat) (hi : i < m) :
    ∃ g x, a = some ⟨g, 0, none⟩ ∧ s[i]? = some x ∧ Sem.run Tryz.prog (loadCellsFrom ⟨g, i * 20, none⟩ 0 kS #[]) w = .ok (stepC x).toArray w := by
  have hil : i < s.length := by omega
  obtain ⟨g, rfl, hc⟩ := h.osl_at (fun e => by have := congrArg List.length e; rw [stsC_len, List.length_nil] at this; omega)
  refine ⟨g, s[i], rfl, List.getElem?_eq_getElem hil, ?_⟩
  have hl : (stepC s[i]).length = kS := rfl
  have := run_loadCells_list (P := Tryz.prog) w ⟨g, i * 20, none⟩ (stepC s[i]) (fun j v hj => by
    have hj20 : j < 20 := (List.getElem?_eq_some_iff.1 hj).1
    have e : (⟨g, i * 20, none⟩ : Addr).add j = ⟨g, i * 20 + j, none⟩ := by unfold Addr.add; split <;> simp_all
    rw [e]
    exact hc _ _ (by rw [stsC_at s i hil j hj20]; exact hj))
  rw [hl] at this
  exact this
def encY (y : Nat × (Nat × Ac)) : Array Value := #[.int .i64 y.1, .agg (stepC y.2).toArray]
def noY (_ : Nat × (Nat × Ac)) : Assn := emp
/-- The last t steps, the last one first, with their places. -/
def backP (s : List (Nat × Ac)) (t : Nat) : List (Nat × (Nat × Ac)) := (List.range t).map fun k => (s.length - 1 - k, s.getD (s.length - 1 - k) (0, Ac.zero))
theorem backP_succ (s : List (Nat × Ac)) (i : Nat) (x : Nat × Ac) (hx : s[i]? = some x) : backP s (s.length - i) = backP s (s.length - (i + 1)) ++ [(i, x)] := by
  obtain ⟨hi, e⟩ := List.getElem?_eq_some_iff.1 hx
  unfold backP
  rw [show s.length - i = (s.length - (i + 1)) + 1 by omega, List.range_succ, List.map_append]
  congr 1
  have e2 : s.length - 1 - (s.length - (i + 1)) = i := by omega
  simp only [List.map_cons, List.map_nil, e2]
  rw [List.getD_eq_getElem?_getD, hx]; rfl
theorem backP_all (s : List (Nat × Ac)) : (backP s s.length).map (·.2) = s.reverse := by
  unfold backP
  rw [List.map_map]
  apply List.ext_getElem
  · simp
  · intro k h1 h2
    have hk : k < s.length := by simpa using h2
    simp only [List.getElem_map, List.getElem_range, Function.comp_apply, List.getElem_reverse]
    rw [List.getD_eq_getElem?_getD, List.getElem?_eq_getElem (by omega)]; rfl
set_option maxRecDepth 100000 in
set_option maxHeartbeats 4000000 in
theorem back1_gives {W : World} {A : Assn} (n : Nat) (hn : 1 ≤ n) (Bs : Nat) (a : Option Addr) (m c : Nat) (s : List (Nat × Ac)) (hm : s.length = m) (h40 : m ≤ 40) :
    Gives Fence.wide n Tryz.prog W 71 #[.pointer (some ⟨Bs, 0, none⟩)] encY noY 41 (fun xs => xs = backP s s.length)
      (sep (blk Bs (.cells #[.slice a m c] 100 (0, 0))) (sep (osl 102 20 a m c (stsC s)) A)) (sep (osl 102 20 a m c (stsC s)) A) := by
  intro lp R w hY h0
  have HY := Lib.hid hY
  clear hY
  have HM := Lib.hid hm
  have c0 : w.cell? ⟨Bs, 0, none⟩ = some (.slice a m c) := h0.p1.cell 0
  have HH0 := Lib.hid h0
  have hmI : (m : Int) ≤ 40 := by omega
  clear h0 hm
  refine callsIn_of_wp Tryz.func71 rfl trivial ?_ rfl
  simp only [Tryz.ntmps71, List.size_toArray, List.length_cons, List.length_nil, Nat.reduceAdd, Nat.reduceSub, Array.replicate_succ, Array.replicate_zero, List.push_toArray, List.append_toArray, List.nil_append, List.cons_append]
  gi_wp2_with fail
  gi_loopw [3] (fun iv wr => ∃ k : Nat, k ≤ m ∧ iv = .int .i64 ((k : Int) - 1) ∧ Sat W wr (sep (R (backP s (s.length - k))) (sep (blk Bs (.cells #[.slice a m c] 100 (0, 0))) (sep (osl 102 20 a m c (stsC s)) A)))) (fun iv _ => (intOf iv + 1).toNat)
  case atStart =>
    refine ⟨m, by omega, rfl, ?_⟩
    rw [show s.length - m = 0 by have := HM.out; omega]
    exact HH0.out
  case round =>
    obtain ⟨k, hk, rfl, hS⟩ := hrel
    clear c0 HH0
    cases k with
    | zero =>
      have e : ((0 : Nat) : Int) - 1 = -1 := rfl
      rw [e]
      have HS := Lib.hid hS
      clear hS e
      gi_wp2_with fail
      go_end0
      refine ⟨⟨_, rfl⟩, _, rfl, ?_⟩
      have := HS.out.p1.drop
      exact this
    | succ i =>
      have e : ((i + 1 : Nat) : Int) - 1 = (i : Int) := by omega
      rw [e]
      have hlt : i < m := by omega
      have hltz : (i : Int) < (m : Int) := by omega
      obtain ⟨g, x, rfl, hx, l1⟩ := steps_ld HM.out hS.p2 i hlt
      have c0 : wr.cell? ⟨Bs, 0, none⟩ = some (.slice (some ⟨g, 0, none⟩) m c) := hS.p1.cell 0
      have hsucc := backP_succ s i x hx
      have hxx : Sat W wr (sep (R (backP s (s.length - (i + 1)))) (sep (noY (i, x)) (sep (blk Bs (.cells #[.slice (some ⟨g, 0, none⟩) m c] 100 (0, 0))) (sep (osl 102 20 (some ⟨g, 0, none⟩) m c (stsC s)) A)))) := by
        unfold noY
        rw [emp_sep]; exact hS
      obtain ⟨fn, tmps, assign, body, hy, hR⟩ := HY.out (backP s (s.length - (i + 1))) (i, x) wr _ (by unfold backP; simp; have := HM.out; omega) hxx
      dsimp only [encY] at hy
      have HSU := Lib.hid hsucc
      clear hx hS hxx hsucc e
      gi_wp2_with fail
      refine hR.mono ?_
      rintro e' w5 ⟨rfl, h9⟩
      rw [← HSU.out] at h9
      have H9 := Lib.hid h9
      clear hR hy l1 c0 h9
      gi_wp2_with fail
      go_roundw
      case rel => exact ⟨i, by omega, rfl, H9.out⟩
      case measure => simp [intOf]
end Go.Proofs.YtfapiopnjllnnaaGreatDoor
