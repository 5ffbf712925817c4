/- A range over a function, said with Sat: what the consumer holds and what the iterator holds are parts of one assertion; the loop's record and its block of deferred calls are owned blocks beside them. Plain Lean, no program in sight. -/
import Derived.RangeFuncSeq
import Derived.RangeFuncRecord
import Derived.RangeFuncIn
import Derived.OwnWalkIn
import Derived.Test.YtcmjbjlliehdiaaDoorKn
import Derived.Test.YtcmjbjlliehdiaaDoorReg
import Derived.OrdersIn
import Derived.TacticsIn
import Derived.RangeFuncCalls
namespace PA
open Go Go.RowKit
theorem Sat.putObj {W w : World} {A : Assn} {l : Nat} {o : Obj} (h : Sat W w (sep (blk l o) A)) (o' : Obj) : Sat W (w.putObj l o') (sep (blk l o') A) :=
  h.change rfl rfl rfl (World.putObj_heap_same h.lt) fun _ hk _ => World.putObj_heap_other hk
section
variable {α : Type} {F : Fence} {P : Program}
/-- The yield of loop l takes x: what the consumer holds grows by x, whatever the iterator holds beside it. -/
def Takes (F : Fence) (n : Nat) (P : Program) (W : World) (l : Nat) (encs : α → Array Value) (Fx : α → Assn) (N : Nat) (R : List α → Assn) : Prop :=
  ∀ (pre : List α) (x : α) (w : World) (B : Assn), pre.length < N → Sat W w (sep (R pre) (sep (Fx x) B)) →
    YieldAt F n P l (encs x) w fun e w' => e = .returned (.bool true) ∧ Sat W w' (sep (R (pre ++ [x])) B)
/-- An iterator that gives all of xs, S xs. -/
def Gives (F : Fence) (n : Nat) (P : Program) (W : World) (gf : Nat) (lb : Array Value) (encs : α → Array Value) (Fx : α → Assn) (N : Nat) (S : List α → Prop) (Pre Post : Assn) : Prop :=
  ∀ (l : Nat) (R : List α → Assn) (w : World), Takes F (n - 1) P W l encs Fx N R → Sat W w (sep (R []) Pre) →
    CallsIn F n P gf (#[.func (.yield l) #[] #[]] ++ lb) w fun e w' => (∃ v, e = .returned v) ∧ ∃ xs, S xs ∧ Sat W w' (sep (R xs) Post)
/-- How a round's body is left. -/
def Round (W : World) (A : Assn) : Exit → Act → World → Prop
  | .normal, _, w => Sat W w A
  | _, _, _ => False
theorem wpIn_range {n : Nat} {W : World} {g : Operand} {ps : Array Tmp} {assign body : Code} {Q : Exit → Act → World → Prop} {a : Act} {w : World}
    (hro : F.round = none) (h1 : 1 ≤ n) {gf : Nat} {lb : Array Value} (hg : a.eval g = .func (.func gf) #[] lb) (hFg : F.fn gf) (eg : ∀ args w, (callFunc gf args).run P w = .ok (.enter gf args) w)
    {encs : α → Array Value} {Fx : α → Assn} {N : Nat} {S : List α → Prop} {Pre Post : Assn} (hps : ∀ x, (encs x).size = ps.size)
    (hseq : Gives F (n - 1) P W gf lb encs Fx N S Pre Post)
    (C : List α → Assn) (h0 : Sat W w (sep (C []) Pre)) (a₁ : α → Act)
    (hassign : ∀ (l : Nat) (x : α) (w' : World) (K : Act → World → Prop), K (a₁ x) w' →
      assign.wpIn (F.inRound l) (n - 1 - 1) P (Exit.then K (fun _ _ _ => False)) { tmps := (ps.zip (encs x)).foldl (fun t (p, v) => t.setIfInBounds p v) a.tmps, defers := [] } w')
    (hbody : ∀ (l : Nat) (pre : List α) (x : α) (w' : World) (B : Assn), pre.length < N → Sat W w' (sep (C pre) (sep (Fx x) B)) →
      body.wpIn (F.inRound l) (n - 1 - 1) P (Round W (sep (C (pre ++ [x])) B)) (a₁ x) w')
    (hdone : ∀ (D : Nat) (xs : List α) (w' : World), S xs → Sat W w' (sep (blk D (.deferred (some []))) (sep (C xs) Post)) →
      Q .normal { a with defers := { target := .collected D, args := #[] } :: a.defers } w') :
    (Code.rangeFunc g ps assign body).wpIn F n P Q a w := by
  refine wpIn_rangeFunc fun fn hfn => ?_
  rw [hro]
  obtain ⟨D, hD⟩ : ∃ D, D = w.heap.size := ⟨_, rfl⟩
  obtain ⟨mk, hmk⟩ : ∃ mk : LoopState → Option Code → Loop, mk = fun st pe => ⟨st, pe, fn, a.tmps, ps, assign, body, D⟩ := ⟨_, rfl⟩
  obtain ⟨w1, hw1⟩ : ∃ w1, w1 = (w.alloc (.deferred (some []))).alloc (.loop (mk .ready none)) := ⟨_, rfl⟩
  have hS1 : Sat W w1 (sep (sep (C []) (sep (blk (D + 1) (.loop (mk .ready none))) (blk D (.deferred (some []))))) Pre) := by
    have h := (h0.alloc (.deferred (some []))).alloc (.loop (mk .ready none))
    rw [World.size_alloc, ← hw1, ← hD] at h
    simpa only [sep_comm, sep_lcomm, sep_assoc] using h
  have henter := run_enterLoop_outer (P := P) (w := w) fn a.tmps ps assign body
  refine ⟨D + 1, [{ target := .collected D, args := #[] }], w1, { target := .fn (.func gf) lb, args := #[.func (.yield (D + 1)) #[] #[]] }, w1, gf, #[.func (.yield (D + 1)) #[] #[]] ++ lb, w1, ?_, ?_, ?_, ?_, fun _ => h1, ?_⟩
  · rw [hw1, hmk, hD]; exact henter
  · simp only [resolve, hg]
    simp [go_sem]
  · intro f' hf'; simp [Target.leads] at hf'; subst hf'; exact hFg
  · simp [invoke, go_sem, eg]
  · refine (hseq (D + 1) (fun pre => sep (C pre) (sep (blk (D + 1) (.loop (mk .ready none))) (blk D (.deferred (some []))))) w1 ?_ hS1).mono ?_
    · intro pre x w2 B hlen hS
      have hl : Sat W w2 (sep (blk (D + 1) (.loop (mk .ready none))) (sep (C pre) (sep (Fx x) (sep B (blk D (.deferred (some []))))))) := by simpa only [sep_comm, sep_lcomm, sep_assoc] using hS
      have hy := run_yield (P := P) (args := encs x) hl.blk_heap (by rw [hmk]; exact hps x)
      rw [hmk] at hy
      refine ⟨fn, _, assign, body, hy, roundIn_of_wpIn hfn (hassign _ x w2 _ ⟨_, run_beginRound hl.blk_heap (by rw [hmk]), ?_⟩)⟩
      have h3 := (hl.putObj (.loop { mk .ready none with state := .busy })).p1
      refine wpIn_mono (hbody _ pre x _ (sep (blk (D + 1) (.loop { mk .ready none with state := .busy })) (sep B (blk D (.deferred (some []))))) hlen (by simpa only [sep_comm, sep_lcomm, sep_assoc] using h3)) ?_
      rintro e a3 w3 hp
      cases e with
      | normal =>
        have h4 : Sat W w3 (sep (blk (D + 1) (.loop { mk .ready none with state := .busy })) (sep (C (pre ++ [x])) (sep B (blk D (.deferred (some [])))))) := Sat.p1 hp
        have hr := run_endRound (P := P) none h4.blk_heap
        have h5 := h4.putObj (.loop (mk .ready none))
        refine ⟨_, _, hr, rfl, ?_⟩
        have e : ({ mk .ready none with state := .busy } : Loop) = mk .busy none := by rw [hmk]
        rw [e]
        have e2 : ({ mk .busy none with state := if (none : Option Code).isNone then .ready else .done, pending := none } : Loop) = mk .ready none := by rw [hmk]; rfl
        rw [e2]
        simpa only [sep_comm, sep_lcomm, sep_assoc] using h5
      | ret => exact hp.elim
      | exit id => exact hp.elim
      | goto t => exact hp.elim
      | panic ch => exact hp.elim
      | outgrown => exact hp.elim
    · rintro e w2 ⟨⟨v, rfl⟩, xs, hS, h2⟩
      have h3 : Sat W w2 (sep (blk (D + 1) (.loop (mk .ready none))) (sep (C xs) (sep Post (blk D (.deferred (some [])))))) := by simpa only [sep_comm, sep_lcomm, sep_assoc] using h2
      have e : (mk .ready none).pending = none := by rw [hmk]
      have hr := run_endLoop (P := P) h3.blk_heap (by rw [hmk]; simp)
      have h4 := (h3.putObj (.loop { mk .ready none with state := .exhausted })).drop
      rw [e] at hr
      refine ⟨none, _, hr, hdone D xs _ hS ?_⟩
      dsimp only at h4
      rw [e] at h4
      simpa only [sep_comm, sep_lcomm, sep_assoc] using h4
/-- 'append' onto an owned row, inside a fence. -/
theorem wpli_append_osl {F : Fence} {n' : Nat} {P : Program} {W w : World} {A : Assn} {ops : Array Oper} {rest : List Oper} {o : Oper} {ac : Act} {Q : Exit → Act → World → Prop} (hgd : o.guard = none) (s y : Operand) (t : TypeId)
    (ho : o.op = .call { callee := .builtin .append, args := #[s, y], argTypes := #[t, t] })
    (E k by_ : Nat) (z : Value) (ht : P.underlying t = some (.slice E)) (hi : (P.info? E).map (fun i => (i.zero, i.size, i.bytes)) = some (some z, k, by_)) (hzs : z.cells.size = k)
    {a : Option Addr} {n c : Nat} {xs : List Value} (hs : ac.eval s = .slice a n c) (h : Sat W w (sep (osl E k a n c xs) A))
    {x : Option Addr} {m cc : Nat} (hy : ac.eval y = .slice x m cc) (news : List Value) (hl : news.length = m * k) (hx0 : x = none → m = 0) (hx : ∀ b, x = some b → ∀ j u, news[j]? = some u → w.cell? (b.add j) = some u)
    (h1 : ∀ u ∈ news, u.oneCell' = true) (hby : (n + m) * by_ ≤ 140737488355328) (h63 : n + m ≤ maxLen)
    (hK : ∀ a' c' w', Sat W w' (sep (osl E k a' (n + m) c' (xs ++ news)) A) → wpListIn F n' P ops Q rest (ac.put o.dst (.slice a' (n + m) c')) w') : wpListIn F n' P ops Q (o :: rest) ac w := by
  refine wpListIn_plain hgd fun K hK' => ?_
  obtain ⟨i, hi1, hi2, hi3, hi4⟩ := info_parts hi
  obtain ⟨a', c', w', hr, hS⟩ := run_append_osl t o.type E k by_ i z ht hi1 hi2 hi3 hi4 hzs h x m cc news hl hx0 hx h1 h63 hby
  unfold Oper.wpIn
  refine ⟨?_, ?_⟩
  · simp [Oper.about, ho, resolve, Target.leads, Sem.run_pure]
  · rw [Oper.semAt_plain F _ _ (by rw [ho]; intro c hc'; cases hc')]
    rw [exec_append s y t t ho (by rw [hs, hy]; exact hr)]
    exact hK' _ _ (hK a' c' w' hS)
end
end PA
/- A region that leaves its order open, within a round of a range over a function: one walk in one order serves every order. Plain Lean, no program in sight. -/
namespace PA
open Go Go.RowKit
section
variable {P : Program} {ops : Array Oper} {Q : Exit → Act → World → Prop} {S : World → Prop}
theorem rowsIn_wide {n : Nat} {row : String} {args : Array Value} {w : World} {R : Value → World → Prop} (h : Rows P row args w R) : RowsIn Fence.wide n P row args w R :=
  fun c cs _ => let ⟨v, w', r, s⟩ := h c cs; ⟨v, w', r, stepsIn_wide.2 s⟩
theorem wpOpIn_round {l n i : Nat} {K : Act → World → Prop} {a : Act} {w : World} (hno : ¬ LetsOut Q) (hnd : ∀ o, ops[i]? = some o → ∀ c, o.op ≠ .defer c) (h : wpOp P ops Q i K a w) : wpOpIn (Fence.wide.inRound l) n P ops Q i K a w := by
  unfold wpOp at h
  unfold wpOpIn
  cases ho : ops[i]? with
  | none => simpa [ho] using h
  | some o =>
    simp only [ho] at h ⊢
    split
    · rename_i hw
      simp only [hw, if_true] at h
      rcases h with h | ⟨-, h⟩
      · refine ⟨fun _ _ => trivial, ?_⟩
        rw [show (Fence.wide.inRound l).round = some l from rfl, Oper.semAt_some l _ _ (hnd o ho)]
        unfold Oper.wp at h
        generalize (execOp a.eval o).run P w = r at *
        cases r with
        | ok x w' =>
          cases x <;> simp only [Oper.upon, Oper.uponIn] at h ⊢
          case value v => exact h
          case skip => exact h
          case defer d => exact h
          case enter f args => exact ⟨fun hd => (by simp [Fence.inRound, Fence.wide] at hd), callsIn_wide.2 h⟩
          case row row args => exact ⟨fun hd => (by simp [Fence.inRound, Fence.wide] at hd), rowsIn_wide h⟩
        | halt x w' => cases x <;> simp only [Oper.upon, Oper.uponIn] at h ⊢; exact h
      · exact absurd h hno
    · rename_i hw
      simp only [hw] at h
      exact ⟨fun _ _ => trivial, h⟩
theorem anyIn_round {l n : Nat} {md : Region.Mode} (hno : ¬ LetsOut Q) (hnd : ∀ (i : Nat) o, ops[i]? = some o → ∀ c, o.op ≠ .defer c) : ∀ (fuel : Nat) (listed : Array Bool) (a : Act) (w : World), wpAny P md ops Q fuel listed a w → wpAnyIn (Fence.wide.inRound l) n P md ops Q fuel listed a w
  | 0, _, _, _, h => h
  | fuel + 1, listed, a, w, h => ⟨h.1, fun i hi => wpOpIn_round hno (hnd i) (wpOp_mono (fun a w h => anyIn_round hno hnd fuel _ a w h) (h.2 i hi))⟩
theorem noPanic_letsOut (h : ¬ LetsOut Q) : ¬ LetsOut (NoPanic Q) := fun ⟨a, w, hq⟩ => h ⟨a, w, hq⟩
def noDef (ops : Array Oper) : Bool := ops.all fun o => match o.op with | .defer .. => false | _ => true
theorem noDef_spec (h : noDef ops = true) : ∀ (i : Nat) o, ops[i]? = some o → ∀ c, o.op ≠ .defer c := by
  intro i o ho c hc
  simp only [noDef, Array.all_eq_true] at h
  obtain ⟨hi, rfl⟩ := Array.getElem?_eq_some_iff.1 ho
  have := h i hi
  rw [hc] at this
  cases this
/-- THE RULE, in a round. -/
theorem wp_region_round {l n id : Nat} {a : Act} {w : World} (hm : P.follows .mixedOrders = true) (S : World → Prop) (L : List (Nat × Kd)) (hok : (canonOK ops (Region.before ops) L && noDef ops) = true) (hno : ¬ LetsOut Q)
    (h : wpC P ops (NoPanic Q) S L a w.drew) : (Code.region id ops true).wpIn (Fence.wide.inRound l) n P Q a w := by
  rw [Bool.and_eq_true] at hok
  obtain ⟨hok, hnd⟩ := hok
  simp only [canonOK, Bool.and_eq_true] at hok
  obtain ⟨⟨⟨⟨⟨⟨⟨h1, h2⟩, h3⟩, h4⟩, h7⟩, h8⟩, h5⟩, h6⟩ := hok
  have hlen : L.length = ops.size := by simpa using h4
  have hall : ∀ i, i < ops.size → i ∈ L.map (·.1) := fun i hi => by
    simp only [List.all_eq_true, List.mem_range] at h5
    simpa using h5 i hi
  have hback : ∀ i, i ∈ L.map (·.1) → i < ops.size := fun i hi => by
    rw [List.all_eq_true] at h8
    simpa using h8 i hi
  have hp := okAll_pair L h1
  refine wpIn_mono (wpIn_region_any hm (anyIn_round (noPanic_letsOut hno) (noDef_spec hnd) ops.size _ a _ ?_)) NoPanic.imp
  refine any_of_C (bf := Region.before ops) (S := S) ?_ ?_ h3 ?_ ops.size L _ hlen ?_ a w.drew h
  · intro j o cs b ho hsel
    simp only [noSel, Array.all_eq_true] at h2
    obtain ⟨hj, rfl⟩ := Array.getElem?_eq_some_iff.1 ho
    have := h2 j hj
    rw [hsel] at this
    cases this
  · intro c a d v w hh; exact hh
  · intro j o ho e he hb
    obtain ⟨hj, rfl⟩ := Array.getElem?_eq_some_iff.1 ho
    rw [Array.all_eq_true] at h6
    have := h6 j hj
    rw [Array.all_eq_true] at this
    obtain ⟨k, hk, rfl⟩ := Array.mem_iff_getElem.1 he
    have := this k hk
    simpa [hb] using this
  · refine ⟨by simp, fun i => ⟨fun hi => ?_, fun hi => hall i hi.1⟩, nodup_of_B _ h7, hp.1, hp.2, fun d r _ hd => ?_⟩
    · have := hback i hi
      exact ⟨this, by simp [Array.getD, this]⟩
    · exfalso
      simp only [Array.getD, Array.size_replicate] at hd
      split at hd <;> simp at hd
end
end PA
