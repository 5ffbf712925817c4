/- A range over a function, said with Sat: what the consumer holds and what the iterator holds are parts of one assertion; the loop's record and its block of deferred calls are owned blocks beside them. Plain Lean, no program in sight. -/
import Derived.RangeFuncSeq
import Derived.RangeFuncRecord
import Derived.RangeFuncIn
import Derived.OwnWalkIn
import Derived.Test.YtdaknmcmjnbfeaaKn
import Derived.Lib.Varint
import Derived.Lib.Zigzag
import Derived.Lib.EndianBits
import Derived.Laws.Bits64
import Derived.WalkKit
namespace PA
open Go Go.RowKit
theorem Sat.putObj {W w : World} {A : Assn} {l : Nat} {o : Obj} (h : Sat W w (sep (blk l o) A)) (o' : Obj) : Sat W (w.putObj l o') (sep (blk l o') A) :=
  h.change rfl rfl rfl (World.putObj_heap_same h.lt) fun _ hk _ => World.putObj_heap_other hk
section
variable {α : Type} {F : Fence} {P : Program}
/-- The yield of loop l takes x: what the consumer holds grows by x, whatever the iterator holds beside it. -/
def Takes (F : Fence) (n : Nat) (P : Program) (W : World) (l : Nat) (encs : α → Array Value) (Fx : α → Assn) (N : Nat) (R : List α → Assn) : Prop :=
  ∀ (pre : List α) (x : α) (w : World) (B : Assn), pre.length < N → Sat W w (sep (R pre) (sep (Fx x) B)) →
    YieldAt F n P l (encs x) w fun e w' => e = .returned (.bool true) ∧ Sat W w' (sep (R (pre ++ [x])) B)
/-- An iterator that gives all of xs, S xs. -/
def Gives (F : Fence) (n : Nat) (P : Program) (W : World) (gf : Nat) (lb : Array Value) (encs : α → Array Value) (Fx : α → Assn) (N : Nat) (S : List α → Prop) (Pre Post : Assn) : Prop :=
  ∀ (l : Nat) (R : List α → Assn) (w : World), Takes F (n - 1) P W l encs Fx N R → Sat W w (sep (R []) Pre) →
    CallsIn F n P gf (#[.func (.yield l) #[] #[]] ++ lb) w fun e w' => (∃ v, e = .returned v) ∧ ∃ xs, S xs ∧ Sat W w' (sep (R xs) Post)
/-- How a round's body is left. -/
def Round (W : World) (A : Assn) : Exit → Act → World → Prop
  | .normal, _, w => Sat W w A
  | _, _, _ => False
theorem wpIn_range {n : Nat} {W : World} {g : Operand} {ps : Array Tmp} {assign body : Code} {Q : Exit → Act → World → Prop} {a : Act} {w : World}
    (hro : F.round = none) (h1 : 1 ≤ n) {gf : Nat} {lb : Array Value} (hg : a.eval g = .func (.func gf) #[] lb) (hFg : F.fn gf) (eg : ∀ args w, (callFunc gf args).run P w = .ok (.enter gf args) w)
    {encs : α → Array Value} {Fx : α → Assn} {N : Nat} {S : List α → Prop} {Pre Post : Assn} (hps : ∀ x, (encs x).size = ps.size)
    (hseq : Gives F (n - 1) P W gf lb encs Fx N S Pre Post)
    (C : List α → Assn) (h0 : Sat W w (sep (C []) Pre)) (a₁ : α → Act)
    (hassign : ∀ (l : Nat) (x : α) (w' : World) (K : Act → World → Prop), K (a₁ x) w' →
      assign.wpIn (F.inRound l) (n - 1 - 1) P (Exit.then K (fun _ _ _ => False)) { tmps := (ps.zip (encs x)).foldl (fun t (p, v) => t.setIfInBounds p v) a.tmps, defers := [] } w')
    (hbody : ∀ (l : Nat) (pre : List α) (x : α) (w' : World) (B : Assn), pre.length < N → Sat W w' (sep (C pre) (sep (Fx x) B)) →
      body.wpIn (F.inRound l) (n - 1 - 1) P (Round W (sep (C (pre ++ [x])) B)) (a₁ x) w')
    (hdone : ∀ (D : Nat) (xs : List α) (w' : World), S xs → Sat W w' (sep (blk D (.deferred (some []))) (sep (C xs) Post)) →
      Q .normal { a with defers := { target := .collected D, args := #[] } :: a.defers } w') :
    (Code.rangeFunc g ps assign body).wpIn F n P Q a w := by
  refine wpIn_rangeFunc fun fn hfn => ?_
  rw [hro]
  obtain ⟨D, hD⟩ : ∃ D, D = w.heap.size := ⟨_, rfl⟩
  obtain ⟨mk, hmk⟩ : ∃ mk : LoopState → Option Code → Loop, mk = fun st pe => ⟨st, pe, fn, a.tmps, ps, assign, body, D⟩ := ⟨_, rfl⟩
  obtain ⟨w1, hw1⟩ : ∃ w1, w1 = (w.alloc (.deferred (some []))).alloc (.loop (mk .ready none)) := ⟨_, rfl⟩
  have hS1 : Sat W w1 (sep (sep (C []) (sep (blk (D + 1) (.loop (mk .ready none))) (blk D (.deferred (some []))))) Pre) := by
    have h := (h0.alloc (.deferred (some []))).alloc (.loop (mk .ready none))
    rw [World.size_alloc, ← hw1, ← hD] at h
    simpa only [sep_comm, sep_lcomm, sep_assoc] using h
  have henter := run_enterLoop_outer (P := P) (w := w) fn a.tmps ps assign body
  refine ⟨D + 1, [{ target := .collected D, args := #[] }], w1, { target := .fn (.func gf) lb, args := #[.func (.yield (D + 1)) #[] #[]] }, w1, gf, #[.func (.yield (D + 1)) #[] #[]] ++ lb, w1, ?_, ?_, ?_, ?_, fun _ => h1, ?_⟩
  · rw [hw1, hmk, hD]; exact henter
  · simp only [resolve, hg]
    simp [go_sem]
  · intro f' hf'; simp [Target.leads] at hf'; subst hf'; exact hFg
  · simp [invoke, go_sem, eg]
  · refine (hseq (D + 1) (fun pre => sep (C pre) (sep (blk (D + 1) (.loop (mk .ready none))) (blk D (.deferred (some []))))) w1 ?_ hS1).mono ?_
    · intro pre x w2 B hlen hS
      have hl : Sat W w2 (sep (blk (D + 1) (.loop (mk .ready none))) (sep (C pre) (sep (Fx x) (sep B (blk D (.deferred (some []))))))) := by simpa only [sep_comm, sep_lcomm, sep_assoc] using hS
      have hy := run_yield (P := P) (args := encs x) hl.blk_heap (by rw [hmk]; exact hps x)
      rw [hmk] at hy
      refine ⟨fn, _, assign, body, hy, roundIn_of_wpIn hfn (hassign _ x w2 _ ⟨_, run_beginRound hl.blk_heap (by rw [hmk]), ?_⟩)⟩
      have h3 := (hl.putObj (.loop { mk .ready none with state := .busy })).p1
      refine wpIn_mono (hbody _ pre x _ (sep (blk (D + 1) (.loop { mk .ready none with state := .busy })) (sep B (blk D (.deferred (some []))))) hlen (by simpa only [sep_comm, sep_lcomm, sep_assoc] using h3)) ?_
      rintro e a3 w3 hp
      cases e with
      | normal =>
        have h4 : Sat W w3 (sep (blk (D + 1) (.loop { mk .ready none with state := .busy })) (sep (C (pre ++ [x])) (sep B (blk D (.deferred (some [])))))) := Sat.p1 hp
        have hr := run_endRound (P := P) none h4.blk_heap
        have h5 := h4.putObj (.loop (mk .ready none))
        refine ⟨_, _, hr, rfl, ?_⟩
        have e : ({ mk .ready none with state := .busy } : Loop) = mk .busy none := by rw [hmk]
        rw [e]
        have e2 : ({ mk .busy none with state := if (none : Option Code).isNone then .ready else .done, pending := none } : Loop) = mk .ready none := by rw [hmk]; rfl
        rw [e2]
        simpa only [sep_comm, sep_lcomm, sep_assoc] using h5
      | ret => exact hp.elim
      | exit id => exact hp.elim
      | goto t => exact hp.elim
      | panic ch => exact hp.elim
      | outgrown => exact hp.elim
    · rintro e w2 ⟨⟨v, rfl⟩, xs, hS, h2⟩
      have h3 : Sat W w2 (sep (blk (D + 1) (.loop (mk .ready none))) (sep (C xs) (sep Post (blk D (.deferred (some [])))))) := by simpa only [sep_comm, sep_lcomm, sep_assoc] using h2
      have e : (mk .ready none).pending = none := by rw [hmk]
      have hr := run_endLoop (P := P) h3.blk_heap (by rw [hmk]; simp)
      have h4 := (h3.putObj (.loop { mk .ready none with state := .exhausted })).drop
      rw [e] at hr
      refine ⟨none, _, hr, hdone D xs _ hS ?_⟩
      dsimp only at h4
      rw [e] at h4
      simpa only [sep_comm, sep_lcomm, sep_assoc] using h4
/-- 'append' onto an owned row, inside a fence. -/
theorem wpli_append_osl {F : Fence} {n' : Nat} {P : Program} {W w : World} {A : Assn} {ops : Array Oper} {rest : List Oper} {o : Oper} {ac : Act} {Q : Exit → Act → World → Prop} (hgd : o.guard = none) (s y : Operand) (t : TypeId)
    (ho : o.op = .call { callee := .builtin .append, args := #[s, y], argTypes := #[t, t] })
    (E k by_ : Nat) (z : Value) (ht : P.underlying t = some (.slice E)) (hi : (P.info? E).map (fun i => (i.zero, i.size, i.bytes)) = some (some z, k, by_)) (hzs : z.cells.size = k)
    {a : Option Addr} {n c : Nat} {xs : List Value} (hs : ac.eval s = .slice a n c) (h : Sat W w (sep (osl E k a n c xs) A))
    {x : Option Addr} {m cc : Nat} (hy : ac.eval y = .slice x m cc) (news : List Value) (hl : news.length = m * k) (hx0 : x = none → m = 0) (hx : ∀ b, x = some b → ∀ j u, news[j]? = some u → w.cell? (b.add j) = some u)
    (h1 : ∀ u ∈ news, u.oneCell' = true) (hby : (n + m) * by_ ≤ 140737488355328) (h63 : n + m ≤ maxLen)
    (hK : ∀ a' c' w', Sat W w' (sep (osl E k a' (n + m) c' (xs ++ news)) A) → wpListIn F n' P ops Q rest (ac.put o.dst (.slice a' (n + m) c')) w') : wpListIn F n' P ops Q (o :: rest) ac w := by
  refine wpListIn_plain hgd fun K hK' => ?_
  obtain ⟨i, hi1, hi2, hi3, hi4⟩ := info_parts hi
  obtain ⟨a', c', w', hr, hS⟩ := run_append_osl t o.type E k by_ i z ht hi1 hi2 hi3 hi4 hzs h x m cc news hl hx0 hx h1 h63 hby
  unfold Oper.wpIn
  refine ⟨?_, ?_⟩
  · simp [Oper.about, ho, resolve, Target.leads, Sem.run_pure]
  · rw [Oper.semAt_plain F _ _ (by rw [ho]; intro c hc'; cases hc')]
    rw [exec_append s y t t ho (by rw [hs, hy]; exact hr)]
    exact hK' _ _ (hK a' c' w' hS)
end
end PA
/- The hash in plain: words, mix, sums. No program in sight. -/
namespace PA
open Go
def leN : List UInt8 → Nat
  | [] => 0
  | b :: l => b.toNat + 256 * leN l
theorem leN_lt : ∀ l : List UInt8, leN l < 256 ^ l.length
  | [] => by simp [leN]
  | b :: l => by
    have := leN_lt l
    have hb := b.toNat_lt
    simp only [leN, List.length_cons, Nat.pow_succ]
    omega
theorem leN_snoc : ∀ (l : List UInt8) (c : UInt8), leN (l ++ [c]) = leN l + c.toNat * 256 ^ l.length
  | [], c => by simp [leN]
  | b :: l, c => by
    simp only [List.cons_append, leN, leN_snoc l c, List.length_cons, Nat.pow_succ, Nat.mul_add]
    rw [show c.toNat * (256 ^ l.length * 256) = 256 * (c.toNat * 256 ^ l.length) by
      rw [Nat.mul_comm (256 ^ l.length) 256, ← Nat.mul_assoc, Nat.mul_comm c.toNat 256, Nat.mul_assoc]]
    omega
theorem leN_lt8 (l : List UInt8) (h : l.length ≤ 8) : leN l < 18446744073709551616 :=
  Nat.lt_of_lt_of_le (leN_lt l) (Nat.le_trans (Nat.pow_le_pow_right (by decide) h) (by decide))
/-- The k-th word. -/
def wordN (l : List UInt8) (k : Nat) : Nat := leN ((l.drop (8 * k)).take 8)
def wordsN (l : List UInt8) : List Nat := (List.range ((l.length + 7) / 8)).map (wordN l)
theorem wordN_lt (l : List UInt8) (k : Nat) : wordN l k < 18446744073709551616 := leN_lt8 _ (by simp; omega)
theorem wordsN_lt (l : List UInt8) : ∀ x ∈ wordsN l, x < 18446744073709551616 := by
  intro x hx
  obtain ⟨k, _, rfl⟩ := List.mem_map.1 hx
  exact wordN_lt l k
theorem wordsN_length (l : List UInt8) : (wordsN l).length = (l.length + 7) / 8 := by simp [wordsN]
theorem wordsN_take (l : List UInt8) (k : Nat) (hk : k ≤ (l.length + 7) / 8) : (List.range k).map (wordN l) = (wordsN l).take k := by
  rw [wordsN, ← List.map_take, List.take_range, Nat.min_eq_left hk]
def mulN : Nat := 11400714819323198485
def mixN (s x : Nat) : Nat :=
  let m := ((s ^^^ x) * mulN) % 18446744073709551616
  m ^^^ (m / 4294967296)
theorem xor_lt64 (a b : Nat) (ha : a < 18446744073709551616) (hb : b < 18446744073709551616) : a ^^^ b < 18446744073709551616 := Nat.xor_lt_two_pow (n := 64) ha hb
theorem mixN_lt (s x : Nat) : mixN s x < 18446744073709551616 := by
  unfold mixN
  exact xor_lt64 _ _ (Nat.mod_lt _ (by decide)) (Nat.lt_of_le_of_lt (Nat.div_le_self _ _) (Nat.mod_lt _ (by decide)))
theorem mix_val (s x : Nat) (hs : s < 18446744073709551616) (hx : x < 18446744073709551616) :
    bits .xor .u64 (IntKind.u64.wrap (bits .xor .u64 (s : Int) (x : Int) * 11400714819323198485)) (IntKind.u64.wrap (bits .xor .u64 (s : Int) (x : Int) * 11400714819323198485) / 4294967296) = (mixN s x : Nat) := by
  rw [bits_xor_u64_nat s x hs hx, IntKind.wrap_u64]
  have e : ((s ^^^ x : Nat) : Int) * 11400714819323198485 % 18446744073709551616 = (((s ^^^ x) * mulN % 18446744073709551616 : Nat) : Int) := by
    unfold mulN; omega
  rw [e]
  have e2 : (((s ^^^ x) * mulN % 18446744073709551616 : Nat) : Int) / 4294967296 = (((s ^^^ x) * mulN % 18446744073709551616 / 4294967296 : Nat) : Int) := by omega
  rw [e2, bits_xor_u64_nat _ _ (Nat.mod_lt _ (by decide)) (Nat.lt_of_le_of_lt (Nat.div_le_self _ _) (Nat.mod_lt _ (by decide)))]
  rfl
def u64N (n : Int) : Nat := (n % 18446744073709551616).toNat
theorem u64N_lt (n : Int) : u64N n < 18446744073709551616 := by unfold u64N; omega
theorem u64N_wrap (n : Int) : IntKind.u64.wrap n = (u64N n : Nat) := by rw [IntKind.wrap_u64]; unfold u64N; omega
/-- The sum of words. -/
def sumU (label : List UInt8) (l : List Nat) : Nat := mixN (l.foldl mixN (mixN (mixN ((wordsN label).foldl mixN 0) label.length) l.length)) 0
def sumN (label : List UInt8) (l : List Int) : Nat := sumU label (l.map u64N)
def bytesN (label b : List UInt8) : Nat := sumU label (wordsN b ++ [b.length])
theorem foldl_mix_lt : ∀ (l : List Nat) (s : Nat), s < 18446744073709551616 → l.foldl mixN s < 18446744073709551616
  | [], s, h => h
  | x :: l, s, _ => foldl_mix_lt l _ (mixN_lt s x)
theorem sumU_lt (label : List UInt8) (l : List Nat) : sumU label l < 18446744073709551616 := mixN_lt _ _
theorem or_word (l : List UInt8) (c : UInt8) (d : Nat) (hl : l.length = d) (hd : d < 8) :
    bits .or .u64 (leN l : Nat) (IntKind.u64.wrap (IntKind.u64.wrap (c.toNat : Int) * 2 ^ (8 * d))) = (leN (l ++ [c]) : Nat) := by
  subst hl
  have h1 := leN_lt l
  have hc := c.toNat_lt
  rw [leN_snoc]
  have e : (256 : Nat) ^ l.length = 2 ^ (8 * l.length) := by rw [Nat.pow_mul]
  have e' : ((2 : Int) ^ (8 * l.length)) = ((2 ^ (8 * l.length) : Nat) : Int) := by push_cast; rfl
  rw [e] at h1 ⊢
  rw [e']
  have hpw : 256 * 2 ^ (8 * l.length) ≤ 2 ^ 64 := by
    rw [show (256 : Nat) = 2 ^ 8 from rfl, ← Nat.pow_add]; exact Nat.pow_le_pow_right (by decide) (by omega)
  generalize hp : 2 ^ (8 * l.length) = p at *
  have h2 : c.toNat * p < 2 ^ 64 := Nat.lt_of_lt_of_le (Nat.mul_lt_mul_of_pos_right hc (by omega)) hpw
  have e2 : IntKind.u64.wrap (c.toNat : Int) = (c.toNat : Int) := wraps_u64 _ (by omega) (by omega)
  have e3 : IntKind.u64.wrap (((c.toNat : Nat) : Int) * (p : Int)) = ((c.toNat * p : Nat) : Int) := by
    rw [← Int.natCast_mul]; exact wraps_u64 _ (by omega) (by exact_mod_cast h2)
  rw [e2, e3]
  have hp2 : (2 : Int) ^ (8 * l.length) = (p : Int) := by rw [← hp]; push_cast; rfl
  have g1 : ((leN l : Nat) : Int) < (2 : Int) ^ (8 * l.length) := by rw [hp2]; exact_mod_cast h1
  have g2 : leN l < 2 ^ 64 := by omega
  have g3 : ((c.toNat * p : Nat) : Int) % (2 : Int) ^ (8 * l.length) = 0 := by rw [hp2]; push_cast; exact Int.mul_emod_left _ _
  rw [bits_join_low .u64 64 (by decide) wraps_u64 (8 * l.length) _ _ (by omega) g1 (by exact_mod_cast g2) (by omega) g3 (by exact_mod_cast h2)]
  exact (Int.natCast_add _ _).symm
theorem take_snoc_at (l : List UInt8) (i d : Nat) (h : i + d < l.length) : (l.drop i).take (d + 1) = (l.drop i).take d ++ [l[i + d]] := by
  rw [List.take_succ_eq_append_getElem (by simp; omega)]
  simp
theorem u64N_i64 (x : Nat) (h : x < 18446744073709551616) : u64N (RowKit.wrap64 (x : Int)) = x := by
  unfold u64N RowKit.wrap64
  omega
theorem map_u64 : ∀ l : List Nat, (∀ x ∈ l, x < 18446744073709551616) → (l.map fun x : Nat => RowKit.wrap64 (x : Int)).map u64N = l
  | [], _ => rfl
  | x :: l, h => by
    rw [List.map_cons, List.map_cons, u64N_i64 x (h x (by simp)), map_u64 l fun y hy => h y (by simp [hy])]
theorem sum_bytes (label bs : List UInt8) (hb : bs.length ≤ 140737488351240) : sumN label ((wordsN bs).map (fun x : Nat => RowKit.wrap64 (x : Int)) ++ [(bs.length : Int)]) = bytesN label bs := by
  have h : u64N (bs.length : Int) = bs.length := by unfold u64N; omega
  rw [sumN, bytesN, List.map_append, map_u64 _ (wordsN_lt bs), List.map_cons, List.map_nil, h]
/-- Numbers of 64 bits. -/
abbrev U64 := { x : Nat // x < 18446744073709551616 }
def wordU (l : List UInt8) (k : Nat) : U64 := ⟨wordN l k, wordN_lt l k⟩
def wordsU (l : List UInt8) : List U64 := (List.range ((l.length + 7) / 8)).map (wordU l)
theorem wordsU_val (l : List UInt8) : (wordsU l).map (·.1) = wordsN l := by simp [wordsU, wordsN, wordU]
theorem wordsU_take (l : List UInt8) (k : Nat) (hk : k ≤ (l.length + 7) / 8) : (List.range k).map (wordU l) = (wordsU l).take k := by
  rw [wordsU, ← List.map_take, List.take_range, Nat.min_eq_left hk]
theorem wordsU_length (l : List UInt8) : (wordsU l).length = (l.length + 7) / 8 := by simp [wordsU]
end PA
