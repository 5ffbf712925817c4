/- A range over a function, said with Sat: what the consumer holds and what the iterator holds are parts of one assertion; the loop's record and its block of deferred calls are owned blocks beside them. Plain Lean, no program in sight. -/
import Derived.RangeFuncSeq
import Derived.RangeFuncRecord
import Derived.RangeFuncIn
import Derived.OwnWalkIn
import Derived.Test.YtfapiopnjllnnaaGreatDoorKn
namespace PA
open Go Go.RowKit
theorem Sat.putObj {W w : World} {A : Assn} {l : Nat} {o : Obj} (h : Sat W w (sep (blk l o) A)) (o' : Obj) : Sat W (w.putObj l o') (sep (blk l o') A) :=
  h.change rfl rfl rfl (World.putObj_heap_same h.lt) fun _ hk _ => World.putObj_heap_other hk
section
variable {α : Type} {F : Fence} {P : Program}
/-- The yield of loop l takes x: what the consumer holds grows by x, whatever the iterator holds beside it. -/
def Takes (F : Fence) (n : Nat) (P : Program) (W : World) (l : Nat) (encs : α → Array Value) (Fx : α → Assn) (N : Nat) (R : List α → Assn) : Prop :=
  ∀ (pre : List α) (x : α) (w : World) (B : Assn), pre.length < N → Sat W w (sep (R pre) (sep (Fx x) B)) →
    YieldAt F n P l (encs x) w fun e w' => e = .returned (.bool true) ∧ Sat W w' (sep (R (pre ++ [x])) B)
/-- An iterator that gives all of xs, S xs. -/
def Gives (F : Fence) (n : Nat) (P : Program) (W : World) (gf : Nat) (lb : Array Value) (encs : α → Array Value) (Fx : α → Assn) (N : Nat) (S : List α → Prop) (Pre Post : Assn) : Prop :=
  ∀ (l : Nat) (R : List α → Assn) (w : World), Takes F (n - 1) P W l encs Fx N R → Sat W w (sep (R []) Pre) →
    CallsIn F n P gf (#[.func (.yield l) #[] #[]] ++ lb) w fun e w' => (∃ v, e = .returned v) ∧ ∃ xs, S xs ∧ Sat W w' (sep (R xs) Post)
/-- How a round's body is left. -/
def Round (W : World) (A : Assn) : Exit → Act → World → Prop
  | .normal, _, w => Sat W w A
  | _, _, _ => False
theorem wpIn_range {n : Nat} {W : World} {g : Operand} {ps : Array Tmp} {assign body : Code} {Q : Exit → Act → World → Prop} {a : Act} {w : World}
    (hro : F.round = none) (h1 : 1 ≤ n) {gf : Nat} {lb : Array Value} (hg : a.eval g = .func (.func gf) #[] lb) (hFg : F.fn gf) (eg : ∀ args w, (callFunc gf args).run P w = .ok (.enter gf args) w)
    {encs : α → Array Value} {Fx : α → Assn} {N : Nat} {S : List α → Prop} {Pre Post : Assn} (hps : ∀ x, (encs x).size = ps.size)
    (hseq : Gives F (n - 1) P W gf lb encs Fx N S Pre Post)
    (C : List α → Assn) (h0 : Sat W w (sep (C []) Pre)) (a₁ : α → Act)
    (hassign : ∀ (l : Nat) (x : α) (w' : World) (K : Act → World → Prop), K (a₁ x) w' →
      assign.wpIn (F.inRound l) (n - 1 - 1) P (Exit.then K (fun _ _ _ => False)) { tmps := (ps.zip (encs x)).foldl (fun t (p, v) => t.setIfInBounds p v) a.tmps, defers := [] } w')
    (hbody : ∀ (l : Nat) (pre : List α) (x : α) (w' : World) (B : Assn), pre.length < N → Sat W w' (sep (C pre) (sep (Fx x) B)) →
      body.wpIn (F.inRound l) (n - 1 - 1) P (Round W (sep (C (pre ++ [x])) B)) (a₁ x) w')
    (hdone : ∀ (D : Nat) (xs : List α) (w' : World), S xs → Sat W w' (sep (blk D (.deferred (some []))) (sep (C xs) Post)) →
      Q .normal { a with defers := { target := .collected D, args := #[] } :: a.defers } w') :
    (Code.rangeFunc g ps assign body).wpIn F n P Q a w := by
  refine wpIn_rangeFunc fun fn hfn => ?_
  rw [hro]
  obtain ⟨D, hD⟩ : ∃ D, D = w.heap.size := ⟨_, rfl⟩
  obtain ⟨mk, hmk⟩ : ∃ mk : LoopState → Option Code → Loop, mk = fun st pe => ⟨st, pe, fn, a.tmps, ps, assign, body, D⟩ := ⟨_, rfl⟩
  obtain ⟨w1, hw1⟩ : ∃ w1, w1 = (w.alloc (.deferred (some []))).alloc (.loop (mk .ready none)) := ⟨_, rfl⟩
  have hS1 : Sat W w1 (sep (sep (C []) (sep (blk (D + 1) (.loop (mk .ready none))) (blk D (.deferred (some []))))) Pre) := by
    have h := (h0.alloc (.deferred (some []))).alloc (.loop (mk .ready none))
    rw [World.size_alloc, ← hw1, ← hD] at h
    simpa only [sep_comm, sep_lcomm, sep_assoc] using h
  have henter := run_enterLoop_outer (P := P) (w := w) fn a.tmps ps assign body
  refine ⟨D + 1, [{ target := .collected D, args := #[] }], w1, { target := .fn (.func gf) lb, args := #[.func (.yield (D + 1)) #[] #[]] }, w1, gf, #[.func (.yield (D + 1)) #[] #[]] ++ lb, w1, ?_, ?_, ?_, ?_, fun _ => h1, ?_⟩
  · rw [hw1, hmk, hD]; exact henter
  · simp only [resolve, hg]
    simp [go_sem]
  · intro f' hf'; simp [Target.leads] at hf'; subst hf'; exact hFg
  · simp [invoke, go_sem, eg]
  · refine (hseq (D + 1) (fun pre => sep (C pre) (sep (blk (D + 1) (.loop (mk .ready none))) (blk D (.deferred (some []))))) w1 ?_ hS1).mono ?_
    · intro pre x w2 B hlen hS
      have hl : Sat W w2 (sep (blk (D + 1) (.loop (mk .ready none))) (sep (C pre) (sep (Fx x) (sep B (blk D (.deferred (some []))))))) := by simpa only [sep_comm, sep_lcomm, sep_assoc] using hS
      have hy := run_yield (P := P) (args := encs x) hl.blk_heap (by rw [hmk]; exact hps x)
      rw [hmk] at hy
      refine ⟨fn, _, assign, body, hy, roundIn_of_wpIn hfn (hassign _ x w2 _ ⟨_, run_beginRound hl.blk_heap (by rw [hmk]), ?_⟩)⟩
      have h3 := (hl.putObj (.loop { mk .ready none with state := .busy })).p1
      refine wpIn_mono (hbody _ pre x _ (sep (blk (D + 1) (.loop { mk .ready none with state := .busy })) (sep B (blk D (.deferred (some []))))) hlen (by simpa only [sep_comm, sep_lcomm, sep_assoc] using h3)) ?_
      rintro e a3 w3 hp
      cases e with
      | normal =>
        have h4 : Sat W w3 (sep (blk (D + 1) (.loop { mk .ready none with state := .busy })) (sep (C (pre ++ [x])) (sep B (blk D (.deferred (some [])))))) := Sat.p1 hp
        have hr := run_endRound (P := P) none h4.blk_heap
        have h5 := h4.putObj (.loop (mk .ready none))
        refine ⟨_, _, hr, rfl, ?_⟩
        have e : ({ mk .ready none with state := .busy } : Loop) = mk .busy none := by rw [hmk]
        rw [e]
        have e2 : ({ mk .busy none with state := if (none : Option Code).isNone then .ready else .done, pending := none } : Loop) = mk .ready none := by rw [hmk]; rfl
        rw [e2]
        simpa only [sep_comm, sep_lcomm, sep_assoc] using h5
      | ret => exact hp.elim
      | exit id => exact hp.elim
      | goto t => exact hp.elim
      | panic ch => exact hp.elim
      | outgrown => exact hp.elim
    · rintro e w2 ⟨⟨v, rfl⟩, xs, hS, h2⟩
      have h3 : Sat W w2 (sep (blk (D + 1) (.loop (mk .ready none))) (sep (C xs) (sep Post (blk D (.deferred (some [])))))) := by simpa only [sep_comm, sep_lcomm, sep_assoc] using h2
      have e : (mk .ready none).pending = none := by rw [hmk]
      have hr := run_endLoop (P := P) h3.blk_heap (by rw [hmk]; simp)
      have h4 := (h3.putObj (.loop { mk .ready none with state := .exhausted })).drop
      rw [e] at hr
      refine ⟨none, _, hr, hdone D xs _ hS ?_⟩
      dsimp only at h4
      rw [e] at h4
      simpa only [sep_comm, sep_lcomm, sep_assoc] using h4
/-- 'append' onto an owned row, inside a fence. -/
theorem wpli_append_osl {F : Fence} {n' : Nat} {P : Program} {W w : World} {A : Assn} {ops : Array Oper} {rest : List Oper} {o : Oper} {ac : Act} {Q : Exit → Act → World → Prop} (hgd : o.guard = none) (s y : Operand) (t : TypeId)
    (ho : o.op = .call { callee := .builtin .append, args := #[s, y], argTypes := #[t, t] })
    (E k by_ : Nat) (z : Value) (ht : P.underlying t = some (.slice E)) (hi : (P.info? E).map (fun i => (i.zero, i.size, i.bytes)) = some (some z, k, by_)) (hzs : z.cells.size = k)
    {a : Option Addr} {n c : Nat} {xs : List Value} (hs : ac.eval s = .slice a n c) (h : Sat W w (sep (osl E k a n c xs) A))
    {x : Option Addr} {m cc : Nat} (hy : ac.eval y = .slice x m cc) (news : List Value) (hl : news.length = m * k) (hx0 : x = none → m = 0) (hx : ∀ b, x = some b → ∀ j u, news[j]? = some u → w.cell? (b.add j) = some u)
    (h1 : ∀ u ∈ news, u.oneCell' = true) (hby : (n + m) * by_ ≤ 140737488355328) (h63 : n + m ≤ maxLen)
    (hK : ∀ a' c' w', Sat W w' (sep (osl E k a' (n + m) c' (xs ++ news)) A) → wpListIn F n' P ops Q rest (ac.put o.dst (.slice a' (n + m) c')) w') : wpListIn F n' P ops Q (o :: rest) ac w := by
  refine wpListIn_plain hgd fun K hK' => ?_
  obtain ⟨i, hi1, hi2, hi3, hi4⟩ := info_parts hi
  obtain ⟨a', c', w', hr, hS⟩ := run_append_osl t o.type E k by_ i z ht hi1 hi2 hi3 hi4 hzs h x m cc news hl hx0 hx h1 h63 hby
  unfold Oper.wpIn
  refine ⟨?_, ?_⟩
  · simp [Oper.about, ho, resolve, Target.leads, Sem.run_pure]
  · rw [Oper.semAt_plain F _ _ (by rw [ho]; intro c hc'; cases hc')]
    rw [exec_append s y t t ho (by rw [hs, hy]; exact hr)]
    exact hK' _ _ (hK a' c' w' hS)
end
end PA
