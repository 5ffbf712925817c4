/- known and Check in plain: the hashes of blocks that a proof makes known, and what follows from them. No program in sight. -/
import Derived.Test.YtcmjbjlliehdiaaDoorGAuthmapApart22
import Derived.Test.YtcmjbjlliehdiaaDoorGAuthmapApartSRf2
namespace Go.Proofs.YtcmjbjlliehdiaaDoor
open Go Go.RowKit PA
/-- The blocks whose hashes are known: none: it has no pairs. -/
abbrev KMap := Nat × Int → Option (Option Nat)
def kset (K : KMap) (x : Nat × Int) (v : Option Nat) : KMap := fun y => if y = x then some v else K y
structure KSt where
  i : Nat
  K : KMap
  l : List Nat
  r : List Nat
def stepK (b : Int) (s : List UInt8) (x : Nat × Int) (t : KSt) : Option KSt :=
  match s[t.i]? with
  | none => none
  | some c => if 1 < c then none else if c = 1 then
      (if b < bFirst x then (match t.r with | [] => none | h :: r => some ⟨t.i + 1, kset t.K x (some h), t.l, r⟩)
       else (match t.l with | [] => none | h :: l => some ⟨t.i + 1, kset t.K x (some h), l, t.r⟩))
    else some ⟨t.i + 1, kset t.K x none, t.l, t.r⟩
def knF (b : Int) (s : List UInt8) (t0 : KSt) (xs : List (Nat × Int)) : Option KSt := xs.foldl (fun o x => o.bind (stepK b s x)) (some t0)
theorem knF_nil (b : Int) (s : List UInt8) (t0 : KSt) : knF b s t0 [] = some t0 := rfl
theorem knF_snoc (b : Int) (s : List UInt8) (t0 : KSt) (xs : List (Nat × Int)) (x : Nat × Int) : knF b s t0 (xs ++ [x]) = (knF b s t0 xs).bind (stepK b s x) := by simp [knF, List.foldl_append]
theorem knF_none {b : Int} {s : List UInt8} : ∀ (xs : List (Nat × Int)), xs.foldl (fun o x => o.bind (stepK b s x)) none = none
  | [] => rfl
  | _ :: xs => knF_none xs
theorem knF_stop {b : Int} {s : List UInt8} {t0 : KSt} {xs : List (Nat × Int)} (ys : List (Nat × Int)) (h : knF b s t0 xs = none) : knF b s t0 (xs ++ ys) = none := by
  unfold knF at *
  rw [List.foldl_append, h]
  exact knF_none ys
/-- The pairs of the range. -/
def knE (K : KMap) (ps : List (Int × List UInt8)) : KMap := ps.foldl (fun K x => kset K (0, x.1) (some (leafN x.1 x.2))) K
theorem knE_snoc (K : KMap) (ps : List (Int × List UInt8)) (x : Int × List UInt8) : knE K (ps ++ [x]) = kset (knE K ps) (0, x.1) (some (leafN x.1 x.2)) := by simp [knE, List.foldl_append]
/-- The hash of a block, from those that are known. -/
def compP (K : KMap) : Nat → Int → Option Nat
  | 0, n => (K (0, n)).getD none
  | l + 1, n => match K (l + 1, n) with | some h => h | none => joinN (compP K l (2 * n)) (compP K l (2 * n + 1))
def wrongP (a b : Int) : List (Int × List UInt8) → Option Int → Bool
  | [], _ => false
  | x :: l, o => decide (x.1 < a) || decide (b < x.1) || (match o with | none => false | some k => decide (x.1 ≤ k)) || decide (65536 < x.2.length) || wrongP a b l (some x.1)
/-- What known says: none: the proof has another form. -/
def formP (a b : Int) (ps : List (Int × List UInt8)) (p : Prf) : Option KMap :=
  match knF b p.s ⟨0, fun _ => none, p.l, p.r⟩ (outL a b 12 0) with
  | none => none
  | some t => if t.i = p.s.length ∧ t.l = [] ∧ t.r = [] then some (knE t.K ps) else none
def checkP (root : Nat) (a b : Int) (ps : List (Int × List UInt8)) (p : Prf) : Int :=
  if ¬ (0 ≤ a ∧ a ≤ b ∧ b ≤ 4095) then 5 else if wrongP a b ps none = true then 1 else
    match formP a b ps p with
    | none => 2
    | some K => if (compP K 12 0).getD 0 = root then 0 else 10
theorem compP_lt {K : KMap} (hK : ∀ x h, K x = some (some h) → h < 18446744073709551616) : ∀ (l : Nat) (n : Int) (h : Nat), compP K l n = some h → h < 18446744073709551616
  | 0, n, h, e => by
    rw [compP] at e
    cases hk : K (0, n) with
    | none => rw [hk] at e; cases e
    | some o => rw [hk] at e; simp at e; exact hK (0, n) h (by rw [hk, e])
  | l + 1, n, h, e => by
    rw [compP] at e
    cases hk : K (l + 1, n) with
    | none => rw [hk] at e; exact joinN_lt _ _ h e
    | some o => rw [hk] at e; exact hK _ h (by rw [hk, ← e])
/-! ### proofs that are made from hashes of the outside -/
abbrev HMap := Nat × Int → Option Nat
def leftH (H : HMap) (a : Int) (xs : List (Nat × Int)) : List Nat := xs.filterMap fun x => if bLast x < a then H x else none
def rightH (H : HMap) (a : Int) (xs : List (Nat × Int)) : List Nat := xs.filterMap fun x => if bLast x < a then none else H x
def shapeH (H : HMap) (xs : List (Nat × Int)) : List UInt8 := xs.map fun x => if (H x).isSome = true then 1 else 0
def prfH (H : HMap) (a b : Int) : Prf := ⟨leftH H a (outL a b 12 0), rightH H a (outL a b 12 0), shapeH H (outL a b 12 0)⟩
def kH (H : HMap) (xs : List (Nat × Int)) : KMap := fun y => if y ∈ xs then some (H y) else none
theorem outL_sideK {a b : Int} (hab : a ≤ b) : ∀ (l : Nat) (n : Int) (x : Nat × Int), x ∈ outL a b l n → (bLast x < a ∧ ¬ b < bFirst x) ∨ (¬ bLast x < a ∧ b < bFirst x)
  | 0, n, x, h => by
    rw [outL] at h
    split at h
    · rename_i ho
      rw [List.mem_singleton.1 h]
      have : bFirst (0, n) ≤ bLast (0, n) := by unfold bFirst bLast; simp
      omega
    · cases h
  | l + 1, n, x, h => by
    rw [outL] at h
    split at h
    · rename_i ho
      rw [List.mem_singleton.1 h]
      have hp := pow_pos2 (l + 1)
      have : bFirst (l + 1, n) ≤ bLast (l + 1, n) := by
        unfold bFirst bLast
        dsimp only
        rw [Int.add_mul, Int.one_mul]
        omega
      omega
    · split at h
      · cases h
      · rcases List.mem_append.1 h with h | h
        · exact outL_sideK hab l _ x h
        · exact outL_sideK hab l _ x h
theorem knF_H {a b : Int} (H : HMap) : ∀ (xs : List (Nat × Int)) (s0 : List UInt8) (t : KSt) (l r : List Nat), (∀ x ∈ xs, (bLast x < a ∧ ¬ b < bFirst x) ∨ (¬ bLast x < a ∧ b < bFirst x)) → t.i = s0.length → t.l = leftH H a xs ++ l → t.r = rightH H a xs ++ r →
    ∃ K, knF b (s0 ++ shapeH H xs) t xs = some ⟨s0.length + xs.length, K, l, r⟩ ∧ ∀ y, K y = if y ∈ xs then some (H y) else t.K y
  | [], s0, t, l, r, _, hi, hl, hr => by
    refine ⟨t.K, ?_, fun y => by simp⟩
    rw [knF_nil]
    obtain ⟨i, K, tl, tr⟩ := t
    simp only [leftH, rightH, List.filterMap_nil, List.nil_append] at hl hr hi ⊢
    simp [hi, hl, hr]
  | x :: xs, s0, t, l, r, hs, hi, hl, hr => by
    have hx := hs x (by simp)
    have hget : (s0 ++ shapeH H (x :: xs))[t.i]? = some (if (H x).isSome = true then 1 else 0) := by
      rw [hi, List.getElem?_append_right (Nat.le_refl _), Nat.sub_self]
      simp [shapeH]
    have hsplit : s0 ++ shapeH H (x :: xs) = (s0 ++ [if (H x).isSome = true then (1 : UInt8) else 0]) ++ shapeH H xs := by simp [shapeH]
    have key : ∃ t', stepK b (s0 ++ shapeH H (x :: xs)) x t = some t' ∧ t'.i = s0.length + 1 ∧ t'.K = kset t.K x (H x) ∧ t'.l = leftH H a xs ++ l ∧ t'.r = rightH H a xs ++ r := by
      unfold stepK
      rw [hget]
      cases hH : H x with
      | none =>
        refine ⟨_, rfl, by simp [hi], by simp, ?_, ?_⟩
        · simpa [leftH, hH] using hl
        · simpa [rightH, hH] using hr
      | some h =>
        rcases hx with ⟨h1, h2⟩ | ⟨h1, h2⟩
        · have e : t.l = h :: (leftH H a xs ++ l) := by rw [hl]; simp [leftH, h1, hH]
          have e2 : t.r = rightH H a xs ++ r := by rw [hr]; simp [rightH, h1]
          refine ⟨⟨t.i + 1, kset t.K x (some h), leftH H a xs ++ l, t.r⟩, ?_, by simp [hi], rfl, rfl, e2⟩
          have d1 : ¬ (1 : UInt8) < 1 := by decide
          simp only [Option.isSome_some, if_true, if_neg d1, if_neg h2, e]
        · have e : t.r = h :: (rightH H a xs ++ r) := by rw [hr]; simp [rightH, h1, hH]
          have e2 : t.l = leftH H a xs ++ l := by rw [hl]; simp [leftH, h1]
          refine ⟨⟨t.i + 1, kset t.K x (some h), t.l, rightH H a xs ++ r⟩, ?_, by simp [hi], rfl, e2, rfl⟩
          have d1 : ¬ (1 : UInt8) < 1 := by decide
          simp only [Option.isSome_some, if_true, if_neg d1, if_pos h2, e]
    obtain ⟨t', hst, h1, h2, h3, h4⟩ := key
    obtain ⟨K, hK, hKy⟩ := knF_H H xs (s0 ++ [if (H x).isSome = true then (1 : UInt8) else 0]) t' l r (fun y hy => hs y (by simp [hy])) (by rw [h1]; simp) h3 h4
    refine ⟨K, ?_, fun y => ?_⟩
    · have : knF b (s0 ++ shapeH H (x :: xs)) t (x :: xs) = knF b (s0 ++ shapeH H (x :: xs)) t' xs := by
        unfold knF
        rw [List.foldl_cons, Option.bind_some, hst]
      rw [this, hsplit, hK]
      simp; omega
    · rw [hKy, h2]
      unfold kset
      by_cases hy : y ∈ xs
      · simp [hy]
      · by_cases hyx : y = x
        · simp [hyx]
        · simp [hy, hyx]
/-- A proof that is made from hashes of the outside has the right form. -/
theorem formP_H {a b : Int} (hab : a ≤ b) (H : HMap) (ps : List (Int × List UInt8)) : ∃ K, formP a b ps (prfH H a b) = some (knE K ps) ∧ ∀ y, K y = if y ∈ outL a b 12 0 then some (H y) else none := by
  obtain ⟨K, h1, h2⟩ := knF_H (a := a) (b := b) H (outL a b 12 0) [] ⟨0, fun _ => none, leftH H a (outL a b 12 0), rightH H a (outL a b 12 0)⟩ [] [] (fun x hx => outL_sideK hab 12 0 x hx) rfl (by simp) (by simp)
  refine ⟨K, ?_, h2⟩
  unfold formP prfH
  simp only [List.nil_append, List.length_nil, Nat.zero_add] at h1
  simp only [h1]
  rw [if_pos (by simp [shapeH])]
theorem rngP_H (M : KVs) (a b : Int) : rngP M a b = prfH (fun x => hbN M x.1 x.2) a b := by
  unfold rngP prfH leftL rightL shapeL leftH rightH shapeH leftF rightF someB
  rfl
end Go.Proofs.YtcmjbjlliehdiaaDoor
/- A range over a function whose rounds may be left early (return, break): what the stopped loop holds is said beside. Plain Lean, no program in sight. -/
namespace PA
open Go Go.RowKit
section
variable {α : Type} {F : Fence} {P : Program}
/-- The yield of loop l takes x: it says true, and what the consumer holds grows by x; or it says false, and the loop has stopped. -/
def TakesS (F : Fence) (n : Nat) (P : Program) (W : World) (l : Nat) (encs : α → Array Value) (Fx : α → Assn) (N : Nat) (R Z : List α → Assn) : Prop :=
  ∀ (pre : List α) (x : α) (w : World) (B : Assn), pre.length < N → Sat W w (sep (R pre) (sep (Fx x) B)) →
    YieldAt F n P l (encs x) w fun e w' => (e = .returned (.bool true) ∧ Sat W w' (sep (R (pre ++ [x])) B)) ∨ (e = .returned (.bool false) ∧ Sat W w' (sep (Z (pre ++ [x])) B))
/-- An iterator that gives xs, S xs, or stops behind xs, Sp xs. -/
def GivesS (F : Fence) (n : Nat) (P : Program) (W : World) (gf : Nat) (lb : Array Value) (encs : α → Array Value) (Fx : α → Assn) (N : Nat) (S Sp : List α → Prop) (Pre Post : Assn) : Prop :=
  ∀ (l : Nat) (R Z : List α → Assn) (w : World), TakesS F (n - 1) P W l encs Fx N R Z → Sat W w (sep (R []) Pre) →
    CallsIn F n P gf (#[.func (.yield l) #[] #[]] ++ lb) w fun e w' => (∃ v, e = .returned v) ∧ ((∃ xs, S xs ∧ Sat W w' (sep (R xs) Post)) ∨ ∃ xs, Sp xs ∧ Sat W w' (sep (Z xs) Post))
/-- How a round's body is left. -/
def RoundS (W : World) (A : Assn) (Z : Code → Assn) : Exit → Act → World → Prop
  | .normal, _, w => Sat W w A
  | .ret, _, w => Sat W w (Z .ret)
  | .exit id, _, w => Sat W w (Z (.exit id))
  | _, _, _ => False
/-- The statement, the assignments to the left sides being free to lay out blocks. -/
theorem wpIn_rangeS2 {n : Nat} {W : World} {g : Operand} {ps : Array Tmp} {assign body : Code} {Q : Exit → Act → World → Prop} {a : Act} {w : World}
    (hro : F.round = none) (h1 : 1 ≤ n) {gf : Nat} {lb : Array Value} (hg : a.eval g = .func (.func gf) #[] lb) (hFg : F.fn gf) (eg : ∀ args w, (callFunc gf args).run P w = .ok (.enter gf args) w)
    {encs : α → Array Value} {Fx : α → Assn} {N : Nat} {S Sp : List α → Prop} {Pre Post : Assn} (hps : ∀ x, (encs x).size = ps.size)
    (hseq : GivesS F (n - 1) P W gf lb encs Fx N S Sp Pre Post)
    (C : List α → Assn) (Zc : Code → List α → Assn) (h0 : Sat W w (sep (C []) Pre)) (Mid : List α → α → Act → Assn → Prop)
    (hassign : ∀ (l : Nat) (pre : List α) (x : α) (w' : World) (B : Assn) (K : Act → World → Prop), pre.length < N → Sat W w' (sep (C pre) (sep (Fx x) B)) → (∀ a₁ w₁ E, Mid pre x a₁ E → Sat W w₁ (sep E B) → K a₁ w₁) →
      assign.wpIn (F.inRound l) (n - 1 - 1) P (Exit.then K (fun _ _ _ => False)) { tmps := (ps.zip (encs x)).foldl (fun t (p, v) => t.setIfInBounds p v) a.tmps, defers := [] } w')
    (hbody : ∀ (l : Nat) (pre : List α) (x : α) (a₁ : Act) (E : Assn) (w' : World) (B : Assn), pre.length < N → Mid pre x a₁ E → Sat W w' (sep E B) →
      body.wpIn (F.inRound l) (n - 1 - 1) P (RoundS W (sep (C (pre ++ [x])) B) (fun c => sep (Zc c (pre ++ [x])) B)) a₁ w')
    (hdone : ∀ (D : Nat) (xs : List α) (w' : World), S xs → Sat W w' (sep (blk D (.deferred (some []))) (sep (C xs) Post)) →
      Q .normal { a with defers := { target := .collected D, args := #[] } :: a.defers } w')
    (hstop : ∀ (D : Nat) (c : Code) (xs : List α) (w' : World), Sp xs → Sat W w' (sep (blk D (.deferred (some []))) (sep (Zc c xs) Post)) →
      c.wpIn F n P Q { a with defers := { target := .collected D, args := #[] } :: a.defers } w') :
    (Code.rangeFunc g ps assign body).wpIn F n P Q a w := by
  refine wpIn_rangeFunc fun fn hfn => ?_
  rw [hro]
  obtain ⟨D, hD⟩ : ∃ D, D = w.heap.size := ⟨_, rfl⟩
  obtain ⟨mk, hmk⟩ : ∃ mk : LoopState → Option Code → Loop, mk = fun st pe => ⟨st, pe, fn, a.tmps, ps, assign, body, D⟩ := ⟨_, rfl⟩
  obtain ⟨w1, hw1⟩ : ∃ w1, w1 = (w.alloc (.deferred (some []))).alloc (.loop (mk .ready none)) := ⟨_, rfl⟩
  have hS1 : Sat W w1 (sep (sep (C []) (sep (blk (D + 1) (.loop (mk .ready none))) (blk D (.deferred (some []))))) Pre) := by
    have h := (h0.alloc (.deferred (some []))).alloc (.loop (mk .ready none))
    rw [World.size_alloc, ← hw1, ← hD] at h
    simpa only [sep_comm, sep_lcomm, sep_assoc] using h
  have henter := run_enterLoop_outer (P := P) (w := w) fn a.tmps ps assign body
  refine ⟨D + 1, [{ target := .collected D, args := #[] }], w1, { target := .fn (.func gf) lb, args := #[.func (.yield (D + 1)) #[] #[]] }, w1, gf, #[.func (.yield (D + 1)) #[] #[]] ++ lb, w1, ?_, ?_, ?_, ?_, fun _ => h1, ?_⟩
  · rw [hw1, hmk, hD]; exact henter
  · simp only [resolve, hg]
    simp [go_sem]
  · intro f' hf'; simp [Target.leads] at hf'; subst hf'; exact hFg
  · simp [invoke, go_sem, eg]
  · refine (hseq (D + 1) (fun pre => sep (C pre) (sep (blk (D + 1) (.loop (mk .ready none))) (blk D (.deferred (some [])))))
      (fun pre => ex fun c : Code => sep (Zc c pre) (sep (blk (D + 1) (.loop (mk .done (some c)))) (blk D (.deferred (some []))))) w1 ?_ hS1).mono ?_
    · intro pre x w2 B hlen hS
      have hl : Sat W w2 (sep (blk (D + 1) (.loop (mk .ready none))) (sep (C pre) (sep (Fx x) (sep B (blk D (.deferred (some []))))))) := by simpa only [sep_comm, sep_lcomm, sep_assoc] using hS
      have hy := run_yield (P := P) (args := encs x) hl.blk_heap (by rw [hmk]; exact hps x)
      rw [hmk] at hy
      refine ⟨fn, _, assign, body, hy, roundIn_of_wpIn hfn (hassign _ pre x w2 (sep (blk (D + 1) (.loop (mk .ready none))) (sep B (blk D (.deferred (some []))))) _ hlen (by simpa only [sep_comm, sep_lcomm, sep_assoc] using hS) ?_)⟩
      intro a₁ w₁ E hmid hE
      have hl1 : Sat W w₁ (sep (blk (D + 1) (.loop (mk .ready none))) (sep E (sep B (blk D (.deferred (some []))))) ) := by simpa only [sep_comm, sep_lcomm, sep_assoc] using hE
      refine ⟨_, run_beginRound hl1.blk_heap (by rw [hmk]), ?_⟩
      have h3 := (hl1.putObj (.loop { mk .ready none with state := .busy })).p1
      have ebz : ({ mk .ready none with state := .busy } : Loop) = mk .busy none := by rw [hmk]
      refine wpIn_mono (hbody _ pre x a₁ E _ (sep (blk (D + 1) (.loop { mk .ready none with state := .busy })) (sep B (blk D (.deferred (some []))))) hlen hmid (by simpa only [sep_comm, sep_lcomm, sep_assoc] using h3)) ?_
      have stop : ∀ (c : Code) (w3 : World), Sat W w3 (sep (Zc c (pre ++ [x])) (sep (blk (D + 1) (.loop { mk .ready none with state := .busy })) (sep B (blk D (.deferred (some [])))))) →
          ∃ v w', (Instr.endRound (D + 1) (some c)).run P w3 = .ok v w' ∧ ((Ending.returned v = .returned (.bool true) ∧ Sat W w' (sep (sep (C (pre ++ [x])) (sep (blk (D + 1) (.loop (mk .ready none))) (blk D (.deferred (some []))))) B)) ∨
            (Ending.returned v = .returned (.bool false) ∧ Sat W w' (sep (ex fun c : Code => sep (Zc c (pre ++ [x])) (sep (blk (D + 1) (.loop (mk .done (some c)))) (blk D (.deferred (some []))))) B))) := by
        intro c w3 hp
        have h4 : Sat W w3 (sep (blk (D + 1) (.loop { mk .ready none with state := .busy })) (sep (Zc c (pre ++ [x])) (sep B (blk D (.deferred (some [])))))) := Sat.p1 hp
        have hr := run_endRound (P := P) (some c) h4.blk_heap
        have h5 := h4.putObj (.loop (mk .done (some c)))
        refine ⟨_, _, hr, .inr ⟨rfl, ?_⟩⟩
        rw [ebz]
        have e2 : ({ mk .busy none with state := if (some c : Option Code).isNone then .ready else .done, pending := some c } : Loop) = mk .done (some c) := by rw [hmk]; rfl
        rw [e2, ex_sep, Sat.ex]
        exact ⟨c, by simpa only [sep_comm, sep_lcomm, sep_assoc] using h5⟩
      rintro e a3 w3 hp
      cases e with
      | normal =>
        have h4 : Sat W w3 (sep (blk (D + 1) (.loop { mk .ready none with state := .busy })) (sep (C (pre ++ [x])) (sep B (blk D (.deferred (some [])))))) := Sat.p1 hp
        have hr := run_endRound (P := P) none h4.blk_heap
        have h5 := h4.putObj (.loop (mk .ready none))
        refine ⟨_, _, hr, .inl ⟨rfl, ?_⟩⟩
        rw [ebz]
        have e2 : ({ mk .busy none with state := if (none : Option Code).isNone then .ready else .done, pending := none } : Loop) = mk .ready none := by rw [hmk]; rfl
        rw [e2]
        simpa only [sep_comm, sep_lcomm, sep_assoc] using h5
      | ret => exact stop .ret w3 hp
      | exit id => exact stop (.exit id) w3 hp
      | goto t => exact hp.elim
      | panic ch => exact hp.elim
      | outgrown => exact hp.elim
    · rintro e w2 ⟨⟨v, rfl⟩, ⟨xs, hS, h2⟩ | ⟨xs, hS, h2⟩⟩
      · have h3 : Sat W w2 (sep (blk (D + 1) (.loop (mk .ready none))) (sep (C xs) (sep Post (blk D (.deferred (some [])))))) := by simpa only [sep_comm, sep_lcomm, sep_assoc] using h2
        have e : (mk .ready none).pending = none := by rw [hmk]
        have hr := run_endLoop (P := P) h3.blk_heap (by rw [hmk]; simp)
        have h4 := (h3.putObj (.loop { mk .ready none with state := .exhausted })).drop
        rw [e] at hr
        refine ⟨none, _, hr, hdone D xs _ hS ?_⟩
        dsimp only at h4
        rw [e] at h4
        simpa only [sep_comm, sep_lcomm, sep_assoc] using h4
      · rw [ex_sep, Sat.ex] at h2
        obtain ⟨c, h2⟩ := h2
        have h3 : Sat W w2 (sep (blk (D + 1) (.loop (mk .done (some c)))) (sep (Zc c xs) (sep Post (blk D (.deferred (some [])))))) := by simpa only [sep_comm, sep_lcomm, sep_assoc] using h2
        have e : (mk .done (some c)).pending = some c := by rw [hmk]
        have hr := run_endLoop (P := P) h3.blk_heap (by rw [hmk]; simp)
        have h4 := (h3.putObj (.loop { mk .done (some c) with state := .exhausted })).drop
        rw [e] at hr
        refine ⟨some c, _, hr, hstop D c xs _ hS ?_⟩
        dsimp only at h4
        rw [e] at h4
        simpa only [sep_comm, sep_lcomm, sep_assoc] using h4
/-- The same, the frame behind the assignments being the loop's own with some slots set: g is the block that the left side was laid in. -/
theorem wpIn_rangeS3 {n : Nat} {W : World} {g : Operand} {ps : Array Tmp} {assign body : Code} {Q : Exit → Act → World → Prop} {a : Act} {w : World}
    (hro : F.round = none) (h1 : 1 ≤ n) {gf : Nat} {lb : Array Value} (hg : a.eval g = .func (.func gf) #[] lb) (hFg : F.fn gf) (eg : ∀ args w, (callFunc gf args).run P w = .ok (.enter gf args) w)
    {encs : α → Array Value} {Fx : α → Assn} {N : Nat} {S Sp : List α → Prop} {Pre Post : Assn} (hps : ∀ x, (encs x).size = ps.size)
    (hseq : GivesS F (n - 1) P W gf lb encs Fx N S Sp Pre Post)
    (C : List α → Assn) (Zc : Code → List α → Assn) (h0 : Sat W w (sep (C []) Pre)) (upd : α → Nat → Array Value → Array Value) (Cm : List α → α → Nat → Assn)
    (hassign : ∀ (l : Nat) (pre : List α) (x : α) (w' : World) (B : Assn) (K : Act → World → Prop), pre.length < N → Sat W w' (sep (C pre) (sep (Fx x) B)) → (∀ g w₁, Sat W w₁ (sep (Cm pre x g) B) → K { tmps := upd x g a.tmps, defers := [] } w₁) →
      assign.wpIn (F.inRound l) (n - 1 - 1) P (Exit.then K (fun _ _ _ => False)) { tmps := (ps.zip (encs x)).foldl (fun t (p, v) => t.setIfInBounds p v) a.tmps, defers := [] } w')
    (hbody : ∀ (l : Nat) (pre : List α) (x : α) (g : Nat) (w' : World) (B : Assn), pre.length < N → Sat W w' (sep (Cm pre x g) B) →
      body.wpIn (F.inRound l) (n - 1 - 1) P (RoundS W (sep (C (pre ++ [x])) B) (fun c => sep (Zc c (pre ++ [x])) B)) { tmps := upd x g a.tmps, defers := [] } w')
    (hdone : ∀ (D : Nat) (xs : List α) (w' : World), S xs → Sat W w' (sep (blk D (.deferred (some []))) (sep (C xs) Post)) →
      Q .normal { a with defers := { target := .collected D, args := #[] } :: a.defers } w')
    (hstop : ∀ (D : Nat) (c : Code) (xs : List α) (w' : World), Sp xs → Sat W w' (sep (blk D (.deferred (some []))) (sep (Zc c xs) Post)) →
      c.wpIn F n P Q { a with defers := { target := .collected D, args := #[] } :: a.defers } w') :
    (Code.rangeFunc g ps assign body).wpIn F n P Q a w := by
  refine wpIn_rangeS2 hro h1 hg hFg eg hps hseq C Zc h0 (fun pre x a₁ E => ∃ g, a₁ = { tmps := upd x g a.tmps, defers := [] } ∧ E = Cm pre x g) ?_ ?_ hdone hstop
  · intro l pre x w' B K hl hS hK
    exact hassign l pre x w' B K hl hS fun g w₁ h => hK _ w₁ _ ⟨g, rfl, rfl⟩ h
  · rintro l pre x a₁ E w' B hl ⟨g, rfl, rfl⟩ hS
    exact hbody l pre x g w' B hl hS
end
end PA
