/- A range over a function whose left sides lie in blocks of their own. Plain Lean, no program in sight. -/
import Derived.Test.YtfapiopnjllnnaaGreatDoorRf
namespace PA
open Go Go.RowKit
section
variable {α : Type} {F : Fence} {P : Program}
/-- The statement, the assignments to the left sides being free to lay out blocks. -/
theorem wpIn_range2 {n : Nat} {W : World} {g : Operand} {ps : Array Tmp} {assign body : Code} {Q : Exit → Act → World → Prop} {a : Act} {w : World}
    (hro : F.round = none) (h1 : 1 ≤ n) {gf : Nat} {lb : Array Value} (hg : a.eval g = .func (.func gf) #[] lb) (hFg : F.fn gf) (eg : ∀ args w, (callFunc gf args).run P w = .ok (.enter gf args) w)
    {encs : α → Array Value} {Fx : α → Assn} {N : Nat} {S : List α → Prop} {Pre Post : Assn} (hps : ∀ x, (encs x).size = ps.size)
    (hseq : Gives F (n - 1) P W gf lb encs Fx N S Pre Post)
    (C : List α → Assn) (h0 : Sat W w (sep (C []) Pre)) (Mid : List α → α → Act → Assn → Prop)
    (hassign : ∀ (l : Nat) (pre : List α) (x : α) (w' : World) (B : Assn) (K : Act → World → Prop), pre.length < N → Sat W w' (sep (C pre) (sep (Fx x) B)) → (∀ a₁ w₁ E, Mid pre x a₁ E → Sat W w₁ (sep E B) → K a₁ w₁) →
      assign.wpIn (F.inRound l) (n - 1 - 1) P (Exit.then K (fun _ _ _ => False)) { tmps := (ps.zip (encs x)).foldl (fun t (p, v) => t.setIfInBounds p v) a.tmps, defers := [] } w')
    (hbody : ∀ (l : Nat) (pre : List α) (x : α) (a₁ : Act) (E : Assn) (w' : World) (B : Assn), pre.length < N → Mid pre x a₁ E → Sat W w' (sep E B) →
      body.wpIn (F.inRound l) (n - 1 - 1) P (Round W (sep (C (pre ++ [x])) B)) a₁ w')
    (hdone : ∀ (D : Nat) (xs : List α) (w' : World), S xs → Sat W w' (sep (blk D (.deferred (some []))) (sep (C xs) Post)) →
      Q .normal { a with defers := { target := .collected D, args := #[] } :: a.defers } w') :
    (Code.rangeFunc g ps assign body).wpIn F n P Q a w := by
  refine wpIn_rangeFunc fun fn hfn => ?_
  rw [hro]
  obtain ⟨D, hD⟩ : ∃ D, D = w.heap.size := ⟨_, rfl⟩
  obtain ⟨mk, hmk⟩ : ∃ mk : LoopState → Option Code → Loop, mk = fun st pe => ⟨st, pe, fn, a.tmps, ps, assign, body, D⟩ := ⟨_, rfl⟩
  obtain ⟨w1, hw1⟩ : ∃ w1, w1 = (w.alloc (.deferred (some []))).alloc (.loop (mk .ready none)) := ⟨_, rfl⟩
  have hS1 : Sat W w1 (sep (sep (C []) (sep (blk (D + 1) (.loop (mk .ready none))) (blk D (.deferred (some []))))) Pre) := by
    have h := (h0.alloc (.deferred (some []))).alloc (.loop (mk .ready none))
    rw [World.size_alloc, ← hw1, ← hD] at h
    simpa only [sep_comm, sep_lcomm, sep_assoc] using h
  have henter := run_enterLoop_outer (P := P) (w := w) fn a.tmps ps assign body
  refine ⟨D + 1, [{ target := .collected D, args := #[] }], w1, { target := .fn (.func gf) lb, args := #[.func (.yield (D + 1)) #[] #[]] }, w1, gf, #[.func (.yield (D + 1)) #[] #[]] ++ lb, w1, ?_, ?_, ?_, ?_, fun _ => h1, ?_⟩
  · rw [hw1, hmk, hD]; exact henter
  · simp only [resolve, hg]
    simp [go_sem]
  · intro f' hf'; simp [Target.leads] at hf'; subst hf'; exact hFg
  · simp [invoke, go_sem, eg]
  · refine (hseq (D + 1) (fun pre => sep (C pre) (sep (blk (D + 1) (.loop (mk .ready none))) (blk D (.deferred (some []))))) w1 ?_ hS1).mono ?_
    · intro pre x w2 B hlen hS
      have hl : Sat W w2 (sep (blk (D + 1) (.loop (mk .ready none))) (sep (C pre) (sep (Fx x) (sep B (blk D (.deferred (some []))))))) := by simpa only [sep_comm, sep_lcomm, sep_assoc] using hS
      have hy := run_yield (P := P) (args := encs x) hl.blk_heap (by rw [hmk]; exact hps x)
      rw [hmk] at hy
      refine ⟨fn, _, assign, body, hy, roundIn_of_wpIn hfn (hassign _ pre x w2 (sep (blk (D + 1) (.loop (mk .ready none))) (sep B (blk D (.deferred (some []))))) _ hlen (by simpa only [sep_comm, sep_lcomm, sep_assoc] using hS) ?_)⟩
      intro a₁ w₁ E hmid hE
      have hl1 : Sat W w₁ (sep (blk (D + 1) (.loop (mk .ready none))) (sep E (sep B (blk D (.deferred (some []))))) ) := by simpa only [sep_comm, sep_lcomm, sep_assoc] using hE
      refine ⟨_, run_beginRound hl1.blk_heap (by rw [hmk]), ?_⟩
      have h3 := (hl1.putObj (.loop { mk .ready none with state := .busy })).p1
      refine wpIn_mono (hbody _ pre x a₁ E _ (sep (blk (D + 1) (.loop { mk .ready none with state := .busy })) (sep B (blk D (.deferred (some []))))) hlen hmid (by simpa only [sep_comm, sep_lcomm, sep_assoc] using h3)) ?_
      rintro e a3 w3 hp
      cases e with
      | normal =>
        have h4 : Sat W w3 (sep (blk (D + 1) (.loop { mk .ready none with state := .busy })) (sep (C (pre ++ [x])) (sep B (blk D (.deferred (some [])))))) := Sat.p1 hp
        have hr := run_endRound (P := P) none h4.blk_heap
        have h5 := h4.putObj (.loop (mk .ready none))
        refine ⟨_, _, hr, rfl, ?_⟩
        have e : ({ mk .ready none with state := .busy } : Loop) = mk .busy none := by rw [hmk]
        rw [e]
        have e2 : ({ mk .busy none with state := if (none : Option Code).isNone then .ready else .done, pending := none } : Loop) = mk .ready none := by rw [hmk]; rfl
        rw [e2]
        simpa only [sep_comm, sep_lcomm, sep_assoc] using h5
      | ret => exact hp.elim
      | exit id => exact hp.elim
      | goto t => exact hp.elim
      | panic ch => exact hp.elim
      | outgrown => exact hp.elim
    · rintro e w2 ⟨⟨v, rfl⟩, xs, hS, h2⟩
      have h3 : Sat W w2 (sep (blk (D + 1) (.loop (mk .ready none))) (sep (C xs) (sep Post (blk D (.deferred (some [])))))) := by simpa only [sep_comm, sep_lcomm, sep_assoc] using h2
      have e : (mk .ready none).pending = none := by rw [hmk]
      have hr := run_endLoop (P := P) h3.blk_heap (by rw [hmk]; simp)
      have h4 := (h3.putObj (.loop { mk .ready none with state := .exhausted })).drop
      rw [e] at hr
      refine ⟨none, _, hr, hdone D xs _ hS ?_⟩
      dsimp only at h4
      rw [e] at h4
      simpa only [sep_comm, sep_lcomm, sep_assoc] using h4
/-- The same, the frame behind the assignments being the loop's own with some slots set: g is the block that the left side was laid in. -/
theorem wpIn_range3 {n : Nat} {W : World} {g : Operand} {ps : Array Tmp} {assign body : Code} {Q : Exit → Act → World → Prop} {a : Act} {w : World}
    (hro : F.round = none) (h1 : 1 ≤ n) {gf : Nat} {lb : Array Value} (hg : a.eval g = .func (.func gf) #[] lb) (hFg : F.fn gf) (eg : ∀ args w, (callFunc gf args).run P w = .ok (.enter gf args) w)
    {encs : α → Array Value} {Fx : α → Assn} {N : Nat} {S : List α → Prop} {Pre Post : Assn} (hps : ∀ x, (encs x).size = ps.size)
    (hseq : Gives F (n - 1) P W gf lb encs Fx N S Pre Post)
    (C : List α → Assn) (h0 : Sat W w (sep (C []) Pre)) (upd : α → Nat → Array Value → Array Value) (Cm : List α → α → Nat → Assn)
    (hassign : ∀ (l : Nat) (pre : List α) (x : α) (w' : World) (B : Assn) (K : Act → World → Prop), pre.length < N → Sat W w' (sep (C pre) (sep (Fx x) B)) → (∀ g w₁, Sat W w₁ (sep (Cm pre x g) B) → K { tmps := upd x g a.tmps, defers := [] } w₁) →
      assign.wpIn (F.inRound l) (n - 1 - 1) P (Exit.then K (fun _ _ _ => False)) { tmps := (ps.zip (encs x)).foldl (fun t (p, v) => t.setIfInBounds p v) a.tmps, defers := [] } w')
    (hbody : ∀ (l : Nat) (pre : List α) (x : α) (g : Nat) (w' : World) (B : Assn), pre.length < N → Sat W w' (sep (Cm pre x g) B) →
      body.wpIn (F.inRound l) (n - 1 - 1) P (Round W (sep (C (pre ++ [x])) B)) { tmps := upd x g a.tmps, defers := [] } w')
    (hdone : ∀ (D : Nat) (xs : List α) (w' : World), S xs → Sat W w' (sep (blk D (.deferred (some []))) (sep (C xs) Post)) →
      Q .normal { a with defers := { target := .collected D, args := #[] } :: a.defers } w') :
    (Code.rangeFunc g ps assign body).wpIn F n P Q a w := by
  refine wpIn_range2 hro h1 hg hFg eg hps hseq C h0 (fun pre x a₁ E => ∃ g, a₁ = { tmps := upd x g a.tmps, defers := [] } ∧ E = Cm pre x g) ?_ ?_ hdone
  · intro l pre x w' B K hl hS hK
    exact hassign l pre x w' B K hl hS fun g w₁ h => hK _ w₁ _ ⟨g, rfl, rfl⟩ h
  · rintro l pre x a₁ E w' B hl ⟨g, rfl, rfl⟩ hS
    exact hbody l pre x g w' B hl hS
end
end PA
