/- 'append' of a string onto an owned row of bytes. Plain Lean, no program in sight. -/
import Derived.Test.YtdaknmcmjnbfeaaGreatKn
import Derived.Lib.AppendStr
import Derived.Test.YtdaknmcmjnbfeaaGreatGJournalRuns7
import Derived.Lib.SliceRun
import Derived.Test.YtdaknmcmjnbfeaaGreatGJournalRunsSD1
namespace PA
open Go Go.RowKit
section
variable {P : Program} {W w : World} {A : Assn}
theorem strCells_bv (s : ByteArray) : Lib.strCells s = s.data.toList.map bv := rfl
theorem run_append_osl_str (t u ty E : Nat) (i : TypeInfo) (ht : P.underlying t = some (.slice E)) (hu : P.underlying u = some .string) (hi : P.info? E = some i) (hz : i.zero = some (.int .u8 0))
    (hk : i.size = 1) (hb : i.bytes = 1) {a : Option Addr} {n c : Nat} {xs : List Value} (h : Sat W w (sep (osl E 1 a n c xs) A)) (s : ByteArray) (h63 : n + s.size ≤ 140737488355328) :
    ∃ a' c' w', (Builtin.append_ #[t, u] ty #[.slice a n c, .string s]).run P w = .ok (.slice a' (n + s.size) c') w' ∧ Sat W w' (sep (osl E 1 a' (n + s.size) c' (xs ++ s.data.toList.map bv)) A) := by
  have hsl : (s.data.toList.map bv).length = s.size := by simp
  have hmx : n + s.size ≤ maxLen := by unfold maxLen; omega
  rcases h.osl_cases with ⟨rfl, rfl, rfl, rfl, h0⟩ | ⟨g, cur, rfl, hlen, hnc, hcm, hcs, htake, hS⟩
  · by_cases hm : s.size = 0
    · have hn : s.data.toList.map bv = [] := List.eq_nil_of_length_eq_zero (by rw [hsl]; exact hm)
      refine ⟨none, 0, w, ?_, by rw [hm, hn]; exact h⟩
      have hf := Lib.run_firstCells_string (P := P) w 1 s
      rw [hm] at hf
      simp [Builtin.append_, run_underlying ht, run_underlying hu, Go.sizeOf, typeInfo, hi, hk, Builtin.lenOf, hm, hf]
    · have hr := run_append_nil_string (P := P) w t u ty E i (.int .u8 0) ht hu hi hz s (by omega) (by omega) (by rw [hb]; omega)
      have e1 : (s.data.map fun b => Value.int .u8 b.toNat) = (s.data.toList.map bv).toArray := by
        apply Array.ext'
        simp [bv, Function.comp_def]
      rw [e1] at hr
      have hcap := grownCap_ok w s.size 0 E (by omega)
      refine ⟨_, _, _, by rw [Nat.zero_add]; exact hr, ?_⟩
      refine ((h0.drew.alloc _).osl_mk (0 + s.size) _ 1 ([] ++ s.data.toList.map bv) (by simp) (by omega) hcap.2 ?_ ?_)
      · have hz1 : (Value.int IntKind.u8 0).cells.size = 1 := rfl
        simp only [Array.size_append, List.size_toArray, size_zeroCells', hz1, hsl]
        omega
      · simp
  · simp only [Nat.mul_one] at hlen hcs htake
    by_cases hroom : n + s.size ≤ c
    · have hr := Lib.run_append_room_string (P := P) w t u ty E i ht hu hi hk g n c cur hS.blk_heap s hroom (by omega)
      refine ⟨_, _, _, hr, (hS.setRow _).osl_mk (n + s.size) c 1 _ (by rw [List.length_append, hlen, hsl]; omega) hroom hcm ?_ ?_⟩
      · simp only [strCells_bv, List.size_toArray, List.length_append, List.length_take, List.length_drop, Array.length_toList, hsl]
        omega
      · rw [strCells_bv, htake]
        have hl2 : (xs ++ s.data.toList.map bv).length = (n + s.size) * 1 := by rw [List.length_append, hlen, hsl]; omega
        rw [← hl2]
        exact List.take_left
    · have hr := Lib.run_append_grow_string (P := P) w t u ty E i (.int .u8 0) ht hu hi hz ⟨g, 0, none⟩ n c xs (by rw [hk]; omega) (fun j u hu => by
          obtain ⟨g', e, hc⟩ := h.osl_at (fun e => by rw [e] at hu; simp at hu)
          cases e
          have := hc j u hu
          unfold Addr.add
          split
          · rename_i e; subst e; exact this
          · simpa using this) s (by omega) (by omega) (by rw [hb]; exact growslice_fits (by omega) (by omega))
      have hcap := grownCap_ok w (n + s.size) c E hmx
      refine ⟨_, _, _, hr, ((hS.forget.drew).alloc _).osl_mk (n + s.size) _ 1 _ (by rw [List.length_append, hlen, hsl]; omega) hcap.1 hcap.2 ?_ ?_⟩
      · have hz1 : (Value.int IntKind.u8 0).cells.size = 1 := rfl
        simp only [strCells_bv, Array.size_append, List.size_toArray, size_zeroCells', hz1, hsl, hlen]
        omega
      · have hl2 : (xs ++ s.data.toList.map bv).length = (n + s.size) * 1 := by rw [List.length_append, hlen, hsl]; omega
        rw [← hl2, strCells_bv]
        simp only [Array.toList_append, List.append_assoc]
        rw [← List.append_assoc]
        exact List.take_left
theorem wpl_append_osl_str {ops : Array Oper} {rest : List Oper} {o : Oper} {ac : Act} {Q : Exit → Act → World → Prop} (hgd : o.guard = none) (sl y : Operand) (t u : TypeId)
    (ho : o.op = .call { callee := .builtin .append, args := #[sl, y], argTypes := #[t, u] })
    (E : Nat) (ht : P.underlying t = some (.slice E)) (hu : P.underlying u = some .string) (hi : (P.info? E).map (fun i => (i.zero, i.size, i.bytes)) = some (some (.int .u8 0), 1, 1))
    {a : Option Addr} {n c : Nat} {xs : List Value} (hs : ac.eval sl = .slice a n c) (h : Sat W w (sep (osl E 1 a n c xs) A))
    (s : ByteArray) (hy : ac.eval y = .string s) (h63 : n + s.size ≤ 140737488355328)
    (hK : ∀ a' c' w', Sat W w' (sep (osl E 1 a' (n + s.size) c' (xs ++ s.data.toList.map bv)) A) → wpList P ops Q rest (ac.put o.dst (.slice a' (n + s.size) c')) w') : wpList P ops Q (o :: rest) ac w := by
  obtain ⟨i, hi1, hi2, hi3, hi4⟩ := info_parts hi
  obtain ⟨a', c', w', hr, hS⟩ := run_append_osl_str t u o.type E i ht hu hi1 hi2 hi3 hi4 h s h63
  refine wpList_plain hgd fun _ hk => wp_of_run ?_ (hk _ _ (hK _ _ _ hS))
  simp only [execOp, ho, resolve, invoke, builtin]
  simp [hs, hy, hr]
end
end PA
/- slices.Clone of bytes. -/
namespace Go.Proofs.YtdaknmcmjnbfeaaGreat
open Go.RowKit PA
theorem infoU8c : (Tryz.prog.info? 5).map (fun i => (i.zero, i.size, i.bytes)) = some (some (.int .u8 0), 1, 1) := by kernel_rfl
theorem clone_any {W w : World} {A : Assn} (a : Option Addr) (n c : Nat) (xs : List Value) (h : Sat W w A) (hsrc : ∀ b, a = some b → ∀ j u, xs[j]? = some u → w.cell? (b.add j) = some u) (hl : xs.length = n) (hw : Swf a n c) (h1 : ∀ u ∈ xs, u.oneCell' = true) (hn : n ≤ 140737488355328) :
    Calls Tryz.prog 30 #[.slice a n c] w fun e w' => ∃ a' c', e = .returned (.slice a' n c') ∧ Sat W w' (sep (osl 5 1 a' n c' xs) A) := by
  obtain ⟨hw1, hw2, hw3⟩ := hw
  have hq := fun w a n c => Lib.run_eql_slice_nil (P := Tryz.prog) w 39 5 a n c 0 0 Tryz.underlying39
  cases a with
  | none =>
    obtain rfl := hw3 rfl
    obtain rfl : n = 0 := by omega
    obtain rfl : xs = [] := List.eq_nil_of_length_eq_zero hl
    clear hsrc
    go_enter Tryz.func30, Tryz.ntmps30
    go_wp2
    go_ret
    exact ⟨_, _, rfl, h.osl_nil _ _⟩
  | some b =>
    have hS := (h.alloc (.cells #[] 5)).osl_mk 0 0 1 [] rfl (by omega) (by unfold maxLen; omega) rfl rfl
    have hc2 := Lib.hid (old_src (hsrc b rfl) (.cells #[] 5))
    have HN := Lib.hid hn
    have HW2 := Lib.hid hw2
    have HW1 := Lib.hid hw1
    clear hsrc hn hw1 hw2 hw3
    go_enter Tryz.func30, Tryz.ntmps30
    go_wp2_with (at_builtin; refine wpl_append_osl rfl _ _ 39 rfl 5 1 1 (.int .u8 0) Tryz.underlying39 infoU8c rfl rfl hS rfl xs (by omega) (by simp) (by intro b' hb; cases hb; exact hc2.out) h1 (by have := HN.out; omega) (by have := HN.out; unfold maxLen; omega) ?_)
    intro a' c' w' hS'
    go_wp2
    go_ret
    refine ⟨a', c', ?_, ?_⟩
    · simp
    · simpa using hS'
/-- What is owned, as an append's source. -/
theorem _root_.PA.Sat.osl_src {W w : World} {A : Assn} {E : Nat} {a : Option Addr} {n c : Nat} {xs : List Value} (h : Sat W w (sep (osl E 1 a n c xs) A)) : ∀ b, a = some b → ∀ j u, xs[j]? = some u → w.cell? (b.add j) = some u := by
  intro b hb j u hu
  obtain ⟨g, e, hc⟩ := h.osl_at (fun e => by rw [e] at hu; simp at hu)
  rw [hb] at e; cases e
  have := hc j u hu
  unfold Addr.add
  split
  · rename_i e; subst e; exact this
  · simpa using this
theorem rel_src' {I : Mem} {a : Option Addr} {n c : Nat} {l : List UInt8} (h : rBytes.rel I [.slice a n c] l) :
    l.length = n ∧ Swf a n c ∧ ∀ w, Ext I w → ∀ b, a = some b → ∀ j u, (l.map bv)[j]? = some u → w.cell? (b.add j) = some u := by
  obtain ⟨a', c', e, hw, hc⟩ := bytes_rel.1 h
  simp only [Value.slice.injEq] at e
  obtain ⟨rfl, rfl, rfl⟩ := e
  exact ⟨rfl, hw, fun w he => src_ext hc he⟩
end Go.Proofs.YtdaknmcmjnbfeaaGreat
/- Package disk: Used, Read, Append. -/
namespace Go.Proofs.YtdaknmcmjnbfeaaGreat
open Go.RowKit PA
def leftSum (fs : Nat → File) (left : Int → Bool) : Nat := sumTo (fun j => if left (j : Int) then (fs j).1.length else 0) 64
theorem leftSum_strike {fs : Nat → File} {left : Int → Bool} {j : Nat} (hj : j < 64) (hl : left (j : Int) = true) : leftSum fs left = leftSum fs (fun z => left z && z != (j : Int)) + (fs j).1.length := by
  have := sumTo_one (g := fun i => if left (i : Int) then (fs i).1.length else 0) (h := fun i => if (fun z => left z && z != (j : Int)) (i : Int) then (fs i).1.length else 0) (k := j) (n := 64) hj (fun i hi => by
    have : ((i : Int) != (j : Int)) = true := by simp; omega
    simp [this])
  have e1 : (if left (j : Int) then (fs j).1.length else 0) = (fs j).1.length := by rw [hl]; rfl
  have e2 : (if (fun z => left z && z != (j : Int)) (j : Int) then (fs j).1.length else 0) = 0 := by simp
  rw [e1, e2, Nat.add_zero] at this
  exact this
theorem leftSum_none {fs : Nat → File} {left : Int → Bool} (h : ∀ k, left k = false) : leftSum fs left = 0 := by
  have : ∀ n, sumTo (fun j => if left ((j : Nat) : Int) then (fs j).1.length else 0) n = 0 := fun n => by
    induction n with
    | zero => rfl
    | succ n ih => rw [sumTo, ih, h]; rfl
  exact this 64
theorem FOK.file {I : Mem} {f : Int → Option Value} {fs : Nat → File} (h : FOK I f fs) {k : Int} {v : Value} (hk : f k = some v) : ∃ j : Nat, k = (j : Int) ∧ (fs j).1 ≠ [] ∧ ∃ a c, v = fileV a (fs j).1.length c (fs j).2 ∧ rBytes.rel I [.slice a (fs j).1.length c] (fs j).1 := by
  obtain ⟨j, rfl, hne⟩ := h.2 k (by rw [hk]; rfl)
  obtain ⟨a, c, e, hr⟩ := h.1 j hne
  rw [hk] at e
  exact ⟨j, rfl, hne, a, c, Option.some.inj e, hr⟩
theorem ok_lt {s : DSt} (h : s.ok) {j : Nat} (hj : (s.fs j).1 ≠ []) : j < 64 := by
  rcases Nat.lt_or_ge j 64 with h1 | h1
  · exact h1
  · exact absurd (by rw [h.hi j h1]) hj
set_option maxRecDepth 100000 in
set_option maxHeartbeats 2000000 in
theorem dused_spec {W w : World} {A : Assn} (p : Nat) (s : DSt) (h : Sat W w (sep (isDisk p s) A)) :
    Calls Tryz.prog 50 #[.pointer (some ⟨p, 0, none⟩)] w fun e w' => e = .returned (.int .i64 (s.used : Nat)) ∧ Sat W w' (sep (isDisk p s) A) := by
  obtain ⟨b, f, nf, left, hok, hpl, hl64, h0⟩ := isDisk_open h
  have hroom := hok.room
  have hfit := hok.fit
  have c0 : w.cell? ⟨p, 0, none⟩ = some (.map (some b)) := h0.cell 0
  obtain ⟨w1, hrun, h1⟩ := run_range_bmap (P := Tryz.prog) Tryz.underlying60 h0.p1
  obtain ⟨r, hr⟩ : ∃ r, r = w.heap.size := ⟨_, rfl⟩
  rw [← hr] at hrun h1
  have hfull : leftSum s.fs (fun k => (f k).isSome) = s.used := by
    obtain ⟨h2, -⟩ := h0.p2.pers_heap
    refine sumTo_congr fun j _ => ?_
    by_cases hj : (s.fs j).1 = []
    · rw [hj]; simp
    · obtain ⟨a, c, e, -⟩ := h2 j hj
      simp [e]
  have HOK := Lib.hid hok
  have HPL := Lib.hid hpl
  have HL := Lib.hid hl64
  have HF := Lib.hid hfull
  obtain ⟨u, hu⟩ : ∃ u, u = s.used := ⟨_, rfl⟩
  rw [← hu] at hfit HF ⊢
  clear h0 h hok hpl hl64 hfull hr hu
  go_enter Tryz.func50, Tryz.ntmps50
  go_wp2_with fail
  go_loopw [3] (fun nv wr => ∃ (acc cnt : Nat) (lf : Int → Bool), nv = .int .i64 (acc : Nat) ∧ acc + leftSum s.fs lf = u ∧ Sat W wr (sep (rng b r f nf lf cnt) (sep (blk p (.cells (diskC b s left) 62 (0, 0))) (sep (fokA f s.fs) A)))) (fun _ wr => wr.rangeLeft b r)
  case atStart => exact ⟨0, nf, _, rfl, by rw [HF.out]; omega, h1⟩
  case round =>
    clear h1 hrun c0
    obtain ⟨acc, cnt, lf, rfl, hacc, hS⟩ := hrel
    have hfok := hS.p2.pers_heap
    have hcnt := hS.rng_left
    rcases run_next_rng (P := Tryz.prog) 0 hS with ⟨hno, hrun⟩ | ⟨k, v, w2, cnt2, hlk, hfk, hlt, hrun, hen, hS2⟩
    · have hz := leftSum_none (fs := s.fs) hno
      have e : acc = u := by omega
      have HE := Lib.hid e
      clear hz hno hfok hcnt e hacc
      go_wp2_with fail
      go_ret
      refine ⟨by rw [← HE.out]; rfl, isDisk_mk (b := b) (f := f) (n := nf) (left := left) HOK.out HPL.out HL.out ?_⟩
      have := hS.rng_end
      simpa only [sep_comm, sep_lcomm, sep_assoc] using this
    · obtain ⟨j, rfl, hne, a, c, rfl, -⟩ := hfok.file hfk
      have hj := ok_lt HOK.out hne
      have hst := leftSum_strike (fs := s.fs) hj hlk
      obtain ⟨l, hl⟩ : ∃ l, l = (s.fs j).1.length := ⟨_, rfl⟩
      rw [← hl] at hst hrun hen
      obtain ⟨d, hd⟩ : ∃ d, d = (s.fs j).2 := ⟨_, rfl⟩
      rw [← hd] at hrun hen
      unfold fileV at hrun hen
      have hbd : acc + l ≤ 16777216 := by omega
      have hbdI : (acc : Int) + (l : Int) ≤ 16777216 := by omega
      have HH := Lib.hid (And.intro hst (And.intro hacc (And.intro hlt hcnt)))
      clear hfok hne hfk hst hacc hlt hcnt hl hd hlk hj hS
      go_wp2_with fail
      obtain ⟨q1, q2, q3, q4⟩ := HH.out
      refine ⟨⟨acc + l, cnt2, _, by congr 1, by omega, (hS2.alloc0 _)⟩, ?_⟩
      rw [(hS2.alloc0 _).rng_left, q4]; exact q3
theorem fileField0 (a : Option Addr) (n c : Nat) (d : Int) (w : World) : (Instr.field 66 (.agg #[.slice a n c, .int .i64 d]) 0).run Tryz.prog w = .ok (.slice a n c) w := by kernel_rfl
theorem fileField1 (a : Option Addr) (n c : Nat) (d : Int) (w : World) : (Instr.field 66 (.agg #[.slice a n c, .int .i64 d]) 1).run Tryz.prog w = .ok (.int .i64 d) w := by kernel_rfl
set_option maxHeartbeats 1000000 in
theorem dread_spec {W w : World} {A : Assn} (p : Nat) (s : DSt) (n : Int) (h : Sat W w (sep (isDisk p s) A)) :
    Calls Tryz.prog 19 #[.pointer (some ⟨p, 0, none⟩), .int .i64 n] w fun e w' => ∃ a c, e = .returned (.tuple #[.slice a (readD s n).1.length c, .int .i64 (readD s n).2]) ∧ Sat W w' (sep (osl 5 1 a (readD s n).1.length c ((readD s n).1.map bv)) (sep (isDisk p s) A)) := by
  obtain ⟨b, f, nf, left, hok, hpl, hl64, h0⟩ := isDisk_open h
  have c0 : w.cell? ⟨p, 0, none⟩ = some (.map (some b)) := h0.cell 0
  have c2 : w.cell? ⟨p, 2, none⟩ = some (.bool s.off) := h0.cell 2
  have hlk := run_lookup_bmap (P := Tryz.prog) (T := 60) Tryz.underlying60 Tryz.underlying3 zeroFile h0.p1 n false
  have hfok := h0.p2.pers_heap
  have hex := dexists_spec n w
  by_cases hn : 0 ≤ n ∧ n < 64
  · have hn' : ¬ (n < 0 ∨ 64 ≤ n) := by omega
    rw [decide_eq_true hn] at hex
    have HEX := Lib.hid hex
    cases hoff : s.off with
    | true =>
      have e : readD s n = ([], 19) := by rw [readD, if_neg hn', hoff]; rfl
      rw [e]
      rw [hoff] at c2
      clear hex hlk hfok hn hn' e hoff
      go_enter Tryz.func19, Tryz.ntmps19
      go_wp2_with fail
      refine HEX.out.mono ?_
      rintro e w' ⟨rfl, rfl⟩
      go_wp2_with fail
      go_ret2
      exact ⟨none, 0, rfl, h.osl_nil 5 1⟩
    | false =>
      obtain ⟨j, rfl⟩ : ∃ j : Nat, n = (j : Int) := ⟨n.toNat, by omega⟩
      have e : readD s (j : Int) = ((s.fs j).1, 0) := by rw [readD, if_neg hn', hoff]; rfl
      rw [e]
      dsimp only
      rw [hoff] at c2
      obtain ⟨bs, hbs⟩ : ∃ bs, bs = (s.fs j).1 := ⟨_, rfl⟩
      obtain ⟨d, hd⟩ : ∃ d, d = (s.fs j).2 := ⟨_, rfl⟩
      have hlook : ∃ a c, (f (j : Int)).getD (.agg #[.slice none 0 0, .int .i64 0]) = .agg #[.slice a bs.length c, .int .i64 (d : Nat)] ∧ rBytes.rel (fun b => w.heap[b]?) [.slice a bs.length c] bs := by
        by_cases hne : (s.fs j).1 = []
        · have hnone : f (j : Int) = none := by
            cases hf : f (j : Int) with
            | none => rfl
            | some v =>
              obtain ⟨i, hi, hne2⟩ := hfok.2 j (by rw [hf]; rfl)
              have : i = j := by omega
              rw [this] at hne2
              exact absurd hne hne2
          have hz := hok.nil hne
          rw [hnone, hbs, hd, hz]
          exact ⟨none, 0, rfl, bytes_rel.2 ⟨none, 0, rfl, ⟨Nat.le_refl _, Nat.zero_le _, fun _ => rfl⟩, .inl rfl⟩⟩
        · obtain ⟨a, c, e, hr⟩ := hfok.1 j hne
          rw [← hbs] at e hr
          rw [← hd] at e
          exact ⟨a, c, by rw [e]; rfl, hr⟩
      obtain ⟨a, c, e1, hr⟩ := hlook
      rw [e1] at hlk
      have hlen : bs.length ≤ 16777216 := by
        rw [hbs]
        have h1 := used_ge (fs := s.fs) (n := j) (by omega)
        have h2 := hok.fit
        have h3 := hok.room
        unfold DSt.used at h2
        omega
      obtain ⟨hl1, hl2, hl3⟩ := rel_src' hr
      have hcl := clone_any a bs.length c (bs.map bv) h (hl3 w fun _ _ h => h) (by simp) hl2 (bv_one bs) (by omega)
      rw [← hbs]
      have HCL := Lib.hid hcl
      obtain ⟨l, hl⟩ : ∃ l, l = bs.length := ⟨_, rfl⟩
      rw [← hl] at HCL hlk ⊢
      have hff := fileField0 a l c (d : Nat)
      have hlk2 : (Instr.lookup 60 (.map (some b)) (.int .i64 (j : Int)) false).run Tryz.prog w = .ok (.agg #[.slice a l c, .int .i64 (d : Nat)]) w := hlk
      clear hex hlk hfok hn hn' e hoff hbs hd e1 hr hlen hcl hl1 hl2 hl3 hl hok hpl hl64 h0 h
      go_enter Tryz.func19, Tryz.ntmps19
      go_wp2_with fail
      refine HEX.out.mono ?_
      rintro e w' ⟨rfl, rfl⟩
      go_wp2_with fail
      refine HCL.out.mono ?_
      rintro e w2 ⟨a2, c2', rfl, h2⟩
      clear HEX HCL
      go_wp2_with fail
      go_ret2
      exact ⟨a2, c2', rfl, h2⟩
  · have hn' : n < 0 ∨ 64 ≤ n := by omega
    have e : readD s n = ([], 1) := by rw [readD, if_pos hn']
    rw [e]
    rw [decide_eq_false hn] at hex
    have HEX := Lib.hid hex
    clear hex hlk hfok hn hn' e c0 c2
    go_enter Tryz.func19, Tryz.ntmps19
    go_wp2_with fail
    refine HEX.out.mono ?_
    rintro e w' ⟨rfl, rfl⟩
    go_wp2_with fail
    go_ret2
    exact ⟨none, 0, rfl, h.osl_nil 5 1⟩
end Go.Proofs.YtdaknmcmjnbfeaaGreat
