/- What Check of the reference knows, settled; what the steps over the outside give. -/
import Derived.Test.YtcmjbjlliehdiaaDoorGAuthmapChecks29
import Derived.Test.YtcmjbjlliehdiaaDoorGAuthmapChecksSQg
import Derived.Test.YtcmjbjlliehdiaaDoorGAuthmapChecksSRf2
namespace Go.Proofs.YtcmjbjlliehdiaaDoor
open Go.RowKit PA
theorem stepK_lt {b : Int} {s : List UInt8} {x : Nat × Int} {t t' : KSt} (h : stepK b s x t = some t') (hl : ∀ h ∈ t.l, h < 18446744073709551616) (hr : ∀ h ∈ t.r, h < 18446744073709551616) (hK : ∀ y h, t.K y = some (some h) → h < 18446744073709551616) :
    (∀ h ∈ t'.l, h < 18446744073709551616) ∧ (∀ h ∈ t'.r, h < 18446744073709551616) ∧ ∀ y h, t'.K y = some (some h) → h < 18446744073709551616 := by
  have hk : ∀ v : Option Nat, (∀ h, v = some h → h < 18446744073709551616) → ∀ y h, kset t.K x v y = some (some h) → h < 18446744073709551616 := fun v hv y h hy => by
    unfold kset at hy
    split at hy
    · exact hv h (by simpa using hy)
    · exact hK y h hy
  unfold stepK at h
  split at h
  · cases h
  · split at h
    · cases h
    · split at h
      · split at h
        · split at h
          · cases h
          · rename_i h0 r0 e0
            cases h
            rw [e0] at hr
            exact ⟨hl, fun z hz => hr z (by simp [hz]), hk _ fun z hz => by cases hz; exact hr _ (by simp)⟩
        · split at h
          · cases h
          · rename_i h0 l0 e0
            cases h
            rw [e0] at hl
            exact ⟨fun z hz => hl z (by simp [hz]), hr, hk _ fun z hz => by cases hz; exact hl _ (by simp)⟩
      · cases h
        exact ⟨hl, hr, hk _ fun z hz => by cases hz⟩
theorem knF_lt {b : Int} {s : List UInt8} : ∀ (xs : List (Nat × Int)) {t0 t : KSt}, knF b s t0 xs = some t → (∀ h ∈ t0.l, h < 18446744073709551616) → (∀ h ∈ t0.r, h < 18446744073709551616) → (∀ y h, t0.K y = some (some h) → h < 18446744073709551616) → ∀ y h, t.K y = some (some h) → h < 18446744073709551616
  | [], t0, t, h, _, _, hK => by
    rw [knF_nil] at h
    cases h
    exact hK
  | x :: xs, t0, t, h, hl, hr, hK => by
    obtain ⟨t1, h1, h2⟩ := knF_cons h
    obtain ⟨a1, a2, a3⟩ := stepK_lt h1 hl hr hK
    exact knF_lt xs h2 a1 a2 a3
theorem known_settle {W w : World} {A : Assn} {J : Mem} {q m : Nat} {ab ah : Option Addr} {cb ch : Nat} {E : KEs} (h : Sat W w (sep (blk q (.cells #[.slice ab m cb, .slice ah m ch] 145 (0, 0))) (sep (osl 117 2 ab m cb (blkC (List.map (·.1) E))) (sep (osl 43 1 ah m ch ((List.map (·.2) E).map uv)) (sep (kn J) A)))))
    (hm : m = E.length) : ∃ J', Mem.le J J' ∧ KnR J' q E ∧ Sat W w (sep (kn J') A) := by
  have w1 := h.p1.swf_of_osl
  have w2 := h.p2.swf_of_osl
  obtain ⟨J1, l1, k1, h1⟩ := (show Sat W w (sep (rsl ab (blkC (List.map (·.1) E))) (sep (kn J) (sep (blk q (.cells #[.slice ab m cb, .slice ah m ch] 145 (0, 0))) (sep (osl 43 1 ah m ch ((List.map (·.2) E).map uv)) A)))) by
    have := h.p1.osl_settle
    simpa only [sep_comm, sep_lcomm, sep_assoc] using this).learn
  obtain ⟨J2, l2, k2, h2⟩ := (show Sat W w (sep (rsl ah ((List.map (·.2) E).map uv)) (sep (kn J1) (sep (blk q (.cells #[.slice ab m cb, .slice ah m ch] 145 (0, 0))) A))) by
    have := h1.p2.osl_settle
    simpa only [sep_comm, sep_lcomm, sep_assoc] using this).learn
  obtain ⟨J3, l3, k3, h3⟩ := (show Sat W w (sep (imm q (.cells #[.slice ab m cb, .slice ah m ch] 145 (0, 0))) (sep (kn J2) A)) by
    have := h2.p1.settle
    exact this).learn
  subst hm
  refine ⟨J3, Mem.le_trans l1 (Mem.le_trans l2 l3), ⟨ab, cb, ah, ch, w1.1, w1.2.1, w2.1, w2.2.1, fun w' he => ⟨cell_of_row w' q 0 _ _ _ (he _ _ k3), cell_of_row w' q 1 _ _ _ (he _ _ k3)⟩, fun i hi => ?_⟩, h3⟩
  have hi1 : i < (List.map (·.1) E).length := by simpa using hi
  have hne1 : blkC (List.map (·.1) E) ≠ [] := fun e => by have := congrArg List.length e; rw [blkC_len, List.length_map, List.length_nil] at this; omega
  have hne2 : (List.map (·.2) E).map uv ≠ [] := fun e => by have := congrArg List.length e; simp at this; rw [this] at hi; simp at hi
  obtain ⟨b, o, rfl, hx⟩ := cells_ext k1 hne1
  obtain ⟨b', o', rfl, hy⟩ := cells_ext k2 hne2
  obtain ⟨g0, g1⟩ := blkC_get (List.map (·.1) E) i hi1
  refine ⟨b, o, b', o', rfl, rfl, fun w' he => ?_⟩
  have e1 : Ext J1 w' := fun b o hb => he b o (l3 b o (l2 b o hb))
  have e2 : Ext J2 w' := fun b o hb => he b o (l3 b o hb)
  refine ⟨?_, ?_, ?_⟩
  · have := hx w' e1 _ _ g0
    simpa [bFirst] using this
  · have := hx w' e1 _ _ g1
    rw [← Nat.add_assoc] at this
    simpa using this
  · exact hy w' e2 i _ (by simp [hi]; rfl)
/-- Where a block of the outside lies. -/
theorem out_side {a b : Int} (hab : a ≤ b) {x : Nat × Int} (hx : x ∈ outL a b 12 0) : bFirst x < a ↔ ¬ b < bFirst x := by
  have h1 := (outL_in_block 12 0 x hx).2.2
  rcases outL_sideK hab 12 0 x hx with ⟨h2, h3⟩ | ⟨h2, h3⟩
  · exact ⟨fun _ => h3, fun _ => by omega⟩
  · exact ⟨fun h => by omega, fun h => absurd h3 h⟩
theorem nodup_take {X : Type} {xs : List X} (h : xs.Nodup) {i : Nat} (hi : i < xs.length) : xs[i] ∉ xs.take i := by
  intro hm
  obtain ⟨j, hj, e⟩ := List.mem_iff_getElem.1 hm
  rw [List.getElem_take] at e
  rw [List.length_take] at hj
  exact List.pairwise_iff_getElem.1 h j i (by omega) hi (by omega) e
end Go.Proofs.YtcmjbjlliehdiaaDoor
/- A range over a function whose rounds may be left early (return, break): what the stopped loop holds is said beside. Plain Lean, no program in sight. -/
namespace PA
open Go Go.RowKit
section
variable {α : Type} {F : Fence} {P : Program}
/-- The yield of loop l takes x: it says true, and what the consumer holds grows by x; or it says false, and the loop has stopped. -/
def TakesS (F : Fence) (n : Nat) (P : Program) (W : World) (l : Nat) (encs : α → Array Value) (Fx : α → Assn) (N : Nat) (R Z : List α → Assn) : Prop :=
  ∀ (pre : List α) (x : α) (w : World) (B : Assn), pre.length < N → Sat W w (sep (R pre) (sep (Fx x) B)) →
    YieldAt F n P l (encs x) w fun e w' => (e = .returned (.bool true) ∧ Sat W w' (sep (R (pre ++ [x])) B)) ∨ (e = .returned (.bool false) ∧ Sat W w' (sep (Z (pre ++ [x])) B))
/-- An iterator that gives xs, S xs, or stops behind xs, Sp xs. -/
def GivesS (F : Fence) (n : Nat) (P : Program) (W : World) (gf : Nat) (lb : Array Value) (encs : α → Array Value) (Fx : α → Assn) (N : Nat) (S Sp : List α → Prop) (Pre Post : Assn) : Prop :=
  ∀ (l : Nat) (R Z : List α → Assn) (w : World), TakesS F (n - 1) P W l encs Fx N R Z → Sat W w (sep (R []) Pre) →
    CallsIn F n P gf (#[.func (.yield l) #[] #[]] ++ lb) w fun e w' => (∃ v, e = .returned v) ∧ ((∃ xs, S xs ∧ Sat W w' (sep (R xs) Post)) ∨ ∃ xs, Sp xs ∧ Sat W w' (sep (Z xs) Post))
/-- How a round's body is left. -/
def RoundS (W : World) (A : Assn) (Z : Code → Assn) : Exit → Act → World → Prop
  | .normal, _, w => Sat W w A
  | .ret, _, w => Sat W w (Z .ret)
  | .exit id, _, w => Sat W w (Z (.exit id))
  | _, _, _ => False
/-- The statement, the assignments to the left sides being free to lay out blocks. -/
theorem wpIn_rangeS2 {n : Nat} {W : World} {g : Operand} {ps : Array Tmp} {assign body : Code} {Q : Exit → Act → World → Prop} {a : Act} {w : World}
    (hro : F.round = none) (h1 : 1 ≤ n) {gf : Nat} {lb : Array Value} (hg : a.eval g = .func (.func gf) #[] lb) (hFg : F.fn gf) (eg : ∀ args w, (callFunc gf args).run P w = .ok (.enter gf args) w)
    {encs : α → Array Value} {Fx : α → Assn} {N : Nat} {S Sp : List α → Prop} {Pre Post : Assn} (hps : ∀ x, (encs x).size = ps.size)
    (hseq : GivesS F (n - 1) P W gf lb encs Fx N S Sp Pre Post)
    (C : List α → Assn) (Zc : Code → List α → Assn) (h0 : Sat W w (sep (C []) Pre)) (Mid : List α → α → Act → Assn → Prop)
    (hassign : ∀ (l : Nat) (pre : List α) (x : α) (w' : World) (B : Assn) (K : Act → World → Prop), pre.length < N → Sat W w' (sep (C pre) (sep (Fx x) B)) → (∀ a₁ w₁ E, Mid pre x a₁ E → Sat W w₁ (sep E B) → K a₁ w₁) →
      assign.wpIn (F.inRound l) (n - 1 - 1) P (Exit.then K (fun _ _ _ => False)) { tmps := (ps.zip (encs x)).foldl (fun t (p, v) => t.setIfInBounds p v) a.tmps, defers := [] } w')
    (hbody : ∀ (l : Nat) (pre : List α) (x : α) (a₁ : Act) (E : Assn) (w' : World) (B : Assn), pre.length < N → Mid pre x a₁ E → Sat W w' (sep E B) →
      body.wpIn (F.inRound l) (n - 1 - 1) P (RoundS W (sep (C (pre ++ [x])) B) (fun c => sep (Zc c (pre ++ [x])) B)) a₁ w')
    (hdone : ∀ (D : Nat) (xs : List α) (w' : World), S xs → Sat W w' (sep (blk D (.deferred (some []))) (sep (C xs) Post)) →
      Q .normal { a with defers := { target := .collected D, args := #[] } :: a.defers } w')
    (hstop : ∀ (D : Nat) (c : Code) (xs : List α) (w' : World), Sp xs → Sat W w' (sep (blk D (.deferred (some []))) (sep (Zc c xs) Post)) →
      c.wpIn F n P Q { a with defers := { target := .collected D, args := #[] } :: a.defers } w') :
    (Code.rangeFunc g ps assign body).wpIn F n P Q a w := by
  refine wpIn_rangeFunc fun fn hfn => ?_
  rw [hro]
  obtain ⟨D, hD⟩ : ∃ D, D = w.heap.size := ⟨_, rfl⟩
  obtain ⟨mk, hmk⟩ : ∃ mk : LoopState → Option Code → Loop, mk = fun st pe => ⟨st, pe, fn, a.tmps, ps, assign, body, D⟩ := ⟨_, rfl⟩
  obtain ⟨w1, hw1⟩ : ∃ w1, w1 = (w.alloc (.deferred (some []))).alloc (.loop (mk .ready none)) := ⟨_, rfl⟩
  have hS1 : Sat W w1 (sep (sep (C []) (sep (blk (D + 1) (.loop (mk .ready none))) (blk D (.deferred (some []))))) Pre) := by
    have h := (h0.alloc (.deferred (some []))).alloc (.loop (mk .ready none))
    rw [World.size_alloc, ← hw1, ← hD] at h
    simpa only [sep_comm, sep_lcomm, sep_assoc] using h
  have henter := run_enterLoop_outer (P := P) (w := w) fn a.tmps ps assign body
  refine ⟨D + 1, [{ target := .collected D, args := #[] }], w1, { target := .fn (.func gf) lb, args := #[.func (.yield (D + 1)) #[] #[]] }, w1, gf, #[.func (.yield (D + 1)) #[] #[]] ++ lb, w1, ?_, ?_, ?_, ?_, fun _ => h1, ?_⟩
  · rw [hw1, hmk, hD]; exact henter
  · simp only [resolve, hg]
    simp [go_sem]
  · intro f' hf'; simp [Target.leads] at hf'; subst hf'; exact hFg
  · simp [invoke, go_sem, eg]
  · refine (hseq (D + 1) (fun pre => sep (C pre) (sep (blk (D + 1) (.loop (mk .ready none))) (blk D (.deferred (some [])))))
      (fun pre => ex fun c : Code => sep (Zc c pre) (sep (blk (D + 1) (.loop (mk .done (some c)))) (blk D (.deferred (some []))))) w1 ?_ hS1).mono ?_
    · intro pre x w2 B hlen hS
      have hl : Sat W w2 (sep (blk (D + 1) (.loop (mk .ready none))) (sep (C pre) (sep (Fx x) (sep B (blk D (.deferred (some []))))))) := by simpa only [sep_comm, sep_lcomm, sep_assoc] using hS
      have hy := run_yield (P := P) (args := encs x) hl.blk_heap (by rw [hmk]; exact hps x)
      rw [hmk] at hy
      refine ⟨fn, _, assign, body, hy, roundIn_of_wpIn hfn (hassign _ pre x w2 (sep (blk (D + 1) (.loop (mk .ready none))) (sep B (blk D (.deferred (some []))))) _ hlen (by simpa only [sep_comm, sep_lcomm, sep_assoc] using hS) ?_)⟩
      intro a₁ w₁ E hmid hE
      have hl1 : Sat W w₁ (sep (blk (D + 1) (.loop (mk .ready none))) (sep E (sep B (blk D (.deferred (some []))))) ) := by simpa only [sep_comm, sep_lcomm, sep_assoc] using hE
      refine ⟨_, run_beginRound hl1.blk_heap (by rw [hmk]), ?_⟩
      have h3 := (hl1.putObj (.loop { mk .ready none with state := .busy })).p1
      have ebz : ({ mk .ready none with state := .busy } : Loop) = mk .busy none := by rw [hmk]
      refine wpIn_mono (hbody _ pre x a₁ E _ (sep (blk (D + 1) (.loop { mk .ready none with state := .busy })) (sep B (blk D (.deferred (some []))))) hlen hmid (by simpa only [sep_comm, sep_lcomm, sep_assoc] using h3)) ?_
      have stop : ∀ (c : Code) (w3 : World), Sat W w3 (sep (Zc c (pre ++ [x])) (sep (blk (D + 1) (.loop { mk .ready none with state := .busy })) (sep B (blk D (.deferred (some [])))))) →
          ∃ v w', (Instr.endRound (D + 1) (some c)).run P w3 = .ok v w' ∧ ((Ending.returned v = .returned (.bool true) ∧ Sat W w' (sep (sep (C (pre ++ [x])) (sep (blk (D + 1) (.loop (mk .ready none))) (blk D (.deferred (some []))))) B)) ∨
            (Ending.returned v = .returned (.bool false) ∧ Sat W w' (sep (ex fun c : Code => sep (Zc c (pre ++ [x])) (sep (blk (D + 1) (.loop (mk .done (some c)))) (blk D (.deferred (some []))))) B))) := by
        intro c w3 hp
        have h4 : Sat W w3 (sep (blk (D + 1) (.loop { mk .ready none with state := .busy })) (sep (Zc c (pre ++ [x])) (sep B (blk D (.deferred (some [])))))) := Sat.p1 hp
        have hr := run_endRound (P := P) (some c) h4.blk_heap
        have h5 := h4.putObj (.loop (mk .done (some c)))
        refine ⟨_, _, hr, .inr ⟨rfl, ?_⟩⟩
        rw [ebz]
        have e2 : ({ mk .busy none with state := if (some c : Option Code).isNone then .ready else .done, pending := some c } : Loop) = mk .done (some c) := by rw [hmk]; rfl
        rw [e2, ex_sep, Sat.ex]
        exact ⟨c, by simpa only [sep_comm, sep_lcomm, sep_assoc] using h5⟩
      rintro e a3 w3 hp
      cases e with
      | normal =>
        have h4 : Sat W w3 (sep (blk (D + 1) (.loop { mk .ready none with state := .busy })) (sep (C (pre ++ [x])) (sep B (blk D (.deferred (some [])))))) := Sat.p1 hp
        have hr := run_endRound (P := P) none h4.blk_heap
        have h5 := h4.putObj (.loop (mk .ready none))
        refine ⟨_, _, hr, .inl ⟨rfl, ?_⟩⟩
        rw [ebz]
        have e2 : ({ mk .busy none with state := if (none : Option Code).isNone then .ready else .done, pending := none } : Loop) = mk .ready none := by rw [hmk]; rfl
        rw [e2]
        simpa only [sep_comm, sep_lcomm, sep_assoc] using h5
      | ret => exact stop .ret w3 hp
      | exit id => exact stop (.exit id) w3 hp
      | goto t => exact hp.elim
      | panic ch => exact hp.elim
      | outgrown => exact hp.elim
    · rintro e w2 ⟨⟨v, rfl⟩, ⟨xs, hS, h2⟩ | ⟨xs, hS, h2⟩⟩
      · have h3 : Sat W w2 (sep (blk (D + 1) (.loop (mk .ready none))) (sep (C xs) (sep Post (blk D (.deferred (some [])))))) := by simpa only [sep_comm, sep_lcomm, sep_assoc] using h2
        have e : (mk .ready none).pending = none := by rw [hmk]
        have hr := run_endLoop (P := P) h3.blk_heap (by rw [hmk]; simp)
        have h4 := (h3.putObj (.loop { mk .ready none with state := .exhausted })).drop
        rw [e] at hr
        refine ⟨none, _, hr, hdone D xs _ hS ?_⟩
        dsimp only at h4
        rw [e] at h4
        simpa only [sep_comm, sep_lcomm, sep_assoc] using h4
      · rw [ex_sep, Sat.ex] at h2
        obtain ⟨c, h2⟩ := h2
        have h3 : Sat W w2 (sep (blk (D + 1) (.loop (mk .done (some c)))) (sep (Zc c xs) (sep Post (blk D (.deferred (some [])))))) := by simpa only [sep_comm, sep_lcomm, sep_assoc] using h2
        have e : (mk .done (some c)).pending = some c := by rw [hmk]
        have hr := run_endLoop (P := P) h3.blk_heap (by rw [hmk]; simp)
        have h4 := (h3.putObj (.loop { mk .done (some c) with state := .exhausted })).drop
        rw [e] at hr
        refine ⟨some c, _, hr, hstop D c xs _ hS ?_⟩
        dsimp only at h4
        rw [e] at h4
        simpa only [sep_comm, sep_lcomm, sep_assoc] using h4
/-- The same, the frame behind the assignments being the loop's own with some slots set: g is the block that the left side was laid in. -/
theorem wpIn_rangeS3 {n : Nat} {W : World} {g : Operand} {ps : Array Tmp} {assign body : Code} {Q : Exit → Act → World → Prop} {a : Act} {w : World}
    (hro : F.round = none) (h1 : 1 ≤ n) {gf : Nat} {lb : Array Value} (hg : a.eval g = .func (.func gf) #[] lb) (hFg : F.fn gf) (eg : ∀ args w, (callFunc gf args).run P w = .ok (.enter gf args) w)
    {encs : α → Array Value} {Fx : α → Assn} {N : Nat} {S Sp : List α → Prop} {Pre Post : Assn} (hps : ∀ x, (encs x).size = ps.size)
    (hseq : GivesS F (n - 1) P W gf lb encs Fx N S Sp Pre Post)
    (C : List α → Assn) (Zc : Code → List α → Assn) (h0 : Sat W w (sep (C []) Pre)) (upd : α → Nat → Array Value → Array Value) (Cm : List α → α → Nat → Assn)
    (hassign : ∀ (l : Nat) (pre : List α) (x : α) (w' : World) (B : Assn) (K : Act → World → Prop), pre.length < N → Sat W w' (sep (C pre) (sep (Fx x) B)) → (∀ g w₁, Sat W w₁ (sep (Cm pre x g) B) → K { tmps := upd x g a.tmps, defers := [] } w₁) →
      assign.wpIn (F.inRound l) (n - 1 - 1) P (Exit.then K (fun _ _ _ => False)) { tmps := (ps.zip (encs x)).foldl (fun t (p, v) => t.setIfInBounds p v) a.tmps, defers := [] } w')
    (hbody : ∀ (l : Nat) (pre : List α) (x : α) (g : Nat) (w' : World) (B : Assn), pre.length < N → Sat W w' (sep (Cm pre x g) B) →
      body.wpIn (F.inRound l) (n - 1 - 1) P (RoundS W (sep (C (pre ++ [x])) B) (fun c => sep (Zc c (pre ++ [x])) B)) { tmps := upd x g a.tmps, defers := [] } w')
    (hdone : ∀ (D : Nat) (xs : List α) (w' : World), S xs → Sat W w' (sep (blk D (.deferred (some []))) (sep (C xs) Post)) →
      Q .normal { a with defers := { target := .collected D, args := #[] } :: a.defers } w')
    (hstop : ∀ (D : Nat) (c : Code) (xs : List α) (w' : World), Sp xs → Sat W w' (sep (blk D (.deferred (some []))) (sep (Zc c xs) Post)) →
      c.wpIn F n P Q { a with defers := { target := .collected D, args := #[] } :: a.defers } w') :
    (Code.rangeFunc g ps assign body).wpIn F n P Q a w := by
  refine wpIn_rangeS2 hro h1 hg hFg eg hps hseq C Zc h0 (fun pre x a₁ E => ∃ g, a₁ = { tmps := upd x g a.tmps, defers := [] } ∧ E = Cm pre x g) ?_ ?_ hdone hstop
  · intro l pre x w' B K hl hS hK
    exact hassign l pre x w' B K hl hS fun g w₁ h => hK _ w₁ _ ⟨g, rfl, rfl⟩ h
  · rintro l pre x a₁ E w' B hl ⟨g, rfl, rfl⟩ hS
    exact hbody l pre x g w' B hl hS
end
end PA
