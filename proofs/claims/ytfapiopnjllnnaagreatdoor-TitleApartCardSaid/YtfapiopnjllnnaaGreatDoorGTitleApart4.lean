/- Facts on blocks that no longer change, kept beside the assertion. Plain Lean, no program in sight. -/
import Derived.Test.YtfapiopnjllnnaaGreatDoorVal
import Derived.Lib.ConvBytes
import Derived.Lib.Varint
import Derived.Lib.Zigzag
import Derived.Lib.EndianBits
import Derived.Laws.Bits64
import Derived.WalkKit
namespace PA
open Go Go.RowKit
/-- What no longer changes in I stands. -/
def kn (I : Mem) : Assn := pers (Mem.le I) fun _ _ hl h b o hb => hl _ _ (h b o hb)
def Ext (I : Mem) (w : World) : Prop := ∀ b o, I b = some o → w.heap[b]? = some o
section
variable {W w w' : World} {A : Assn} {I J : Mem}
theorem Sat.ext (h : Sat W w (sep (kn I) A)) : Ext I w := h.pers_heap
theorem Sat.know (h : Sat W w A) : ∃ I, Sat W w (sep (kn I) A) := by
  obtain ⟨h1, h2, h3, I, m, h4, h5, h6, h7⟩ := h
  exact ⟨I, h1, h2, h3, I, m, h4, h5, h6, Mem.no, m, fun _ => .inl rfl, (Mem.un_no _).symm, ⟨rfl, Mem.le_refl I⟩, h7⟩
theorem Sat.learn {p : Mem → Prop} {hp : ∀ I J, Mem.le I J → p I → p J} (h : Sat W w (sep (pers p hp) (sep (kn I) A))) : ∃ J, Mem.le I J ∧ p J ∧ Sat W w (sep (kn J) A) := by
  obtain ⟨h1, h2, h3, J, m, h4, h5, h6, x, y, h7, rfl, ⟨rfl, hp'⟩, x', y', h8, rfl, ⟨rfl, hle⟩, h9⟩ := h
  refine ⟨J, hle, hp', h1, h2, h3, J, _, h4, h5, h6, Mem.no, y', fun _ => .inl rfl, ?_, ⟨rfl, Mem.le_refl J⟩, h9⟩
  rw [Mem.un_no]
theorem Sat.tell {p : Mem → Prop} {hp : ∀ I J, Mem.le I J → p I → p J} (h : Sat W w (sep (kn I) A)) (hI : p I) : Sat W w (sep (pers p hp) (sep (kn I) A)) := by
  refine h.wk ?_
  rintro K m ⟨x, y, h7, rfl, ⟨rfl, hle⟩, h9⟩
  exact ⟨Mem.no, _, fun _ => .inl rfl, (Mem.un_no _).symm, ⟨rfl, hp _ _ hle hI⟩, Mem.no, y, fun _ => .inl rfl, rfl, ⟨rfl, hle⟩, h9⟩
theorem Sat.kn_mono (h : Sat W w (sep (kn J) A)) (hle : Mem.le I J) : Sat W w (sep (kn I) A) := by
  refine h.wk ?_
  rintro K m ⟨x, y, h7, rfl, ⟨rfl, hle'⟩, h9⟩
  exact ⟨Mem.no, y, fun _ => .inl rfl, rfl, ⟨rfl, fun b o hb => hle' _ _ (hle _ _ hb)⟩, h9⟩
theorem Mem.le_trans {I J K : Mem} (h : Mem.le I J) (k : Mem.le J K) : Mem.le I K := fun b o hb => k _ _ (h _ _ hb)
theorem Sat.of_below (h : Sat W w A) (hb : Below w.heap.size w w') : Sat W w' A := by
  obtain ⟨h1, h2, h3, I, m, h4, h5, h6, h7⟩ := h
  obtain ⟨b1, b2, b3, b4, b5⟩ := hb
  have keep : ∀ b o, w.heap[b]? = some o → w'.heap[b]? = some o := fun b o ho => (b5 b (Array.getElem?_eq_some_iff.1 ho).1).trans ho
  exact ⟨b1.trans h1, b2.trans h2, b3.trans h3, I, m, h4, fun b o ho => keep _ _ (h5 b o ho), fun b o ho => ⟨keep _ _ (h6 b o ho).1, (h6 b o ho).2⟩, h7⟩
theorem cells_ext {a : Option Addr} {xs : List Value} (h : cellsAt a xs I) (hne : xs ≠ []) : ∃ b o, a = some ⟨b, o, none⟩ ∧ ∀ w', Ext I w' → ∀ i u, xs[i]? = some u → w'.cell? ⟨b, o + i, none⟩ = some u := by
  rcases h with h | ⟨b, o, cs, t, f, h1, h2, h3⟩
  · exact absurd h hne
  · exact ⟨b, o, h1, fun w' he i u hu => by rw [cell_of_row w' b (o + i) cs t f (he _ _ h2)]; exact h3 i u hu⟩
theorem cells_lt {a : Option Addr} {xs : List Value} (h : cellsAt a xs I) (he : Ext I w) (hne : xs ≠ []) : ∃ b o, a = some ⟨b, o, none⟩ ∧ b < w.heap.size := by
  rcases h with h | ⟨b, o, cs, t, f, h1, h2, h3⟩
  · exact absurd h hne
  · exact ⟨b, o, h1, (Array.getElem?_eq_some_iff.1 (he _ _ h2)).1⟩
theorem cellsAt_mono {a : Option Addr} {xs : List Value} (hl : Mem.le I J) (h : cellsAt a xs I) : cellsAt a xs J := by
  rcases h with h | ⟨b, o, cs, t, f, h1, h2, h3⟩
  · exact .inl h
  · exact .inr ⟨b, o, cs, t, f, h1, hl _ _ h2, h3⟩
theorem bytes_rel {v : Value} {bs : List UInt8} : rBytes.rel I [v] bs ↔ ∃ a c, v = .slice a bs.length c ∧ Swf a bs.length c ∧ cellsAt a (bs.map bv) I := by
  constructor
  · rintro ⟨a, c, cells, h1, h2, h3, h4⟩
    cases h1
    rw [(rows_rByte _ _ _).1 h4] at h3
    exact ⟨a, c, rfl, h2, h3⟩
  · rintro ⟨a, c, rfl, h2, h3⟩
    exact ⟨a, c, _, rfl, h2, h3, (rows_rByte _ _ _).2 rfl⟩
/-- Bytes that are known, as a byte slice's cells. -/
theorem bytes_cells {a : Option Addr} {bs : List UInt8} (h : cellsAt a (bs.map bv) I) (hne : bs ≠ []) : ∃ b o, a = some ⟨b, o, none⟩ ∧ ∀ w', Ext I w' → ∀ i (hi : i < bs.length), w'.cell? ⟨b, o + i, none⟩ = some (.int .u8 (bs[i].toNat : Nat)) := by
  obtain ⟨b, o, e, hc⟩ := cells_ext h (by simpa using hne)
  exact ⟨b, o, e, fun w' he i hi => hc w' he i _ (by rw [List.getElem?_map, List.getElem?_eq_getElem hi]; rfl)⟩
end
theorem new_src (w : World) (cs : List Value) (t : TypeId) : ∀ j u, cs[j]? = some u → (w.alloc (.cells cs.toArray t)).cell? ((⟨w.heap.size, 0, none⟩ : Addr).add j) = some u := by
  intro j u h
  have : (⟨w.heap.size, 0, none⟩ : Addr).add j = ⟨w.heap.size, j, none⟩ := by unfold Addr.add; split <;> simp_all
  rw [this, World.cell?_alloc_new]
  simpa using h
theorem new_src2 (w : World) (o : Obj) (cs : List Value) (t : TypeId) : ∀ j u, cs[j]? = some u → ((w.alloc o).alloc (.cells cs.toArray t)).cell? ((⟨w.heap.size + 1, 0, none⟩ : Addr).add j) = some u := by
  have := new_src (w.alloc o) cs t
  rw [World.size_alloc] at this
  exact this
theorem old_src {w : World} {b : Addr} {xs : List Value} (h : ∀ j u, xs[j]? = some u → w.cell? (b.add j) = some u) (o : Obj) : ∀ j u, xs[j]? = some u → (w.alloc o).cell? (b.add j) = some u := by
  intro j u hu
  have := h j u hu
  rw [World.cell?_alloc_lt w o _ (World.block_lt_of_cell? w _ this)]
  exact this
theorem bv_one (bs : List UInt8) : ∀ u ∈ bs.map bv, u.oneCell' = true := by
  intro u hu
  obtain ⟨b, _, rfl⟩ := List.mem_map.1 hu
  rfl
/-- '[]byte(s)'. -/
theorem Sat.conv_bytes {W w : World} {A : Assn} {I : Mem} (h : Sat W w (sep (kn I) A)) (e : TypeId) (s : ByteArray) (hs : s.size ≤ maxLen) :
    ∃ J, Mem.le I J ∧ rBytes.rel J [.slice (some ⟨w.heap.size, 0, none⟩) s.size (grownCap w s.size 0 e)] s.data.toList ∧ Sat W (Lib.bytesWorld w e s) (sep (kn J) A) := by
  have hlen : s.data.toList.length = s.size := by simp
  have h1 : Sat W (Lib.bytesWorld w e s) (sep (blk w.heap.size _) (sep (kn I) A)) :=
    h.grow rfl rfl rfl (Lib.bytesWorld_at_new w e s) (Nat.le_refl _) fun k hk => Lib.bytesWorld_at_old w e s k hk
  obtain ⟨J, hle, hp, hS⟩ := h1.settle.learn
  have hcap := grownCap_ok w s.size 0 e hs
  refine ⟨J, hle, ?_, hS⟩
  refine bytes_rel.2 ⟨some ⟨w.heap.size, 0, none⟩, grownCap w s.size 0 e, by rw [hlen], ⟨by rw [hlen]; exact hcap.1, hcap.2, fun h => (by cases h)⟩, .inr ⟨w.heap.size, 0, _, _, _, rfl, hp, fun i u hu => ?_⟩⟩
  have hi : i < s.data.size := by
    have := (List.getElem?_eq_some_iff.1 hu).1
    simpa using this
  simp only [Nat.zero_add, Lib.bytesCells]
  rw [Array.getElem?_append_left (by simpa using hi), Array.getElem?_map]
  rw [List.getElem?_map, Array.getElem?_toList] at hu
  exact hu
/-- Cells that are known, as an append's source. -/
theorem src_ext {I : Mem} {w : World} {a : Option Addr} {xs : List Value} (h : cellsAt a xs I) (he : Ext I w) : ∀ b, a = some b → ∀ j u, xs[j]? = some u → w.cell? (b.add j) = some u := by
  intro b hb j u hu
  obtain ⟨b', o, e, hc⟩ := cells_ext h (fun e => by rw [e] at hu; simp at hu)
  rw [hb] at e; cases e
  have := hc w he j u hu
  unfold Addr.add
  split
  · rename_i e; subst e; simpa using this
  · exact this
end PA
/- The hash in plain: words, mix, sums. No program in sight. -/
namespace PA
open Go
def leN : List UInt8 → Nat
  | [] => 0
  | b :: l => b.toNat + 256 * leN l
theorem leN_lt : ∀ l : List UInt8, leN l < 256 ^ l.length
  | [] => by simp [leN]
  | b :: l => by
    have := leN_lt l
    have hb := b.toNat_lt
    simp only [leN, List.length_cons, Nat.pow_succ]
    omega
theorem leN_snoc : ∀ (l : List UInt8) (c : UInt8), leN (l ++ [c]) = leN l + c.toNat * 256 ^ l.length
  | [], c => by simp [leN]
  | b :: l, c => by
    simp only [List.cons_append, leN, leN_snoc l c, List.length_cons, Nat.pow_succ, Nat.mul_add]
    rw [show c.toNat * (256 ^ l.length * 256) = 256 * (c.toNat * 256 ^ l.length) by
      rw [Nat.mul_comm (256 ^ l.length) 256, ← Nat.mul_assoc, Nat.mul_comm c.toNat 256, Nat.mul_assoc]]
    omega
theorem leN_lt8 (l : List UInt8) (h : l.length ≤ 8) : leN l < 18446744073709551616 :=
  Nat.lt_of_lt_of_le (leN_lt l) (Nat.le_trans (Nat.pow_le_pow_right (by decide) h) (by decide))
/-- The k-th word. -/
def wordN (l : List UInt8) (k : Nat) : Nat := leN ((l.drop (8 * k)).take 8)
def wordsN (l : List UInt8) : List Nat := (List.range ((l.length + 7) / 8)).map (wordN l)
theorem wordN_lt (l : List UInt8) (k : Nat) : wordN l k < 18446744073709551616 := leN_lt8 _ (by simp; omega)
theorem wordsN_lt (l : List UInt8) : ∀ x ∈ wordsN l, x < 18446744073709551616 := by
  intro x hx
  obtain ⟨k, _, rfl⟩ := List.mem_map.1 hx
  exact wordN_lt l k
theorem wordsN_length (l : List UInt8) : (wordsN l).length = (l.length + 7) / 8 := by simp [wordsN]
theorem wordsN_take (l : List UInt8) (k : Nat) (hk : k ≤ (l.length + 7) / 8) : (List.range k).map (wordN l) = (wordsN l).take k := by
  rw [wordsN, ← List.map_take, List.take_range, Nat.min_eq_left hk]
def mulN : Nat := 11400714819323198485
def mixN (s x : Nat) : Nat :=
  let m := ((s ^^^ x) * mulN) % 18446744073709551616
  m ^^^ (m / 4294967296)
theorem xor_lt64 (a b : Nat) (ha : a < 18446744073709551616) (hb : b < 18446744073709551616) : a ^^^ b < 18446744073709551616 := Nat.xor_lt_two_pow (n := 64) ha hb
theorem mixN_lt (s x : Nat) : mixN s x < 18446744073709551616 := by
  unfold mixN
  exact xor_lt64 _ _ (Nat.mod_lt _ (by decide)) (Nat.lt_of_le_of_lt (Nat.div_le_self _ _) (Nat.mod_lt _ (by decide)))
theorem mix_val (s x : Nat) (hs : s < 18446744073709551616) (hx : x < 18446744073709551616) :
    bits .xor .u64 (IntKind.u64.wrap (bits .xor .u64 (s : Int) (x : Int) * 11400714819323198485)) (IntKind.u64.wrap (bits .xor .u64 (s : Int) (x : Int) * 11400714819323198485) / 4294967296) = (mixN s x : Nat) := by
  rw [bits_xor_u64_nat s x hs hx, IntKind.wrap_u64]
  have e : ((s ^^^ x : Nat) : Int) * 11400714819323198485 % 18446744073709551616 = (((s ^^^ x) * mulN % 18446744073709551616 : Nat) : Int) := by
    unfold mulN; omega
  rw [e]
  have e2 : (((s ^^^ x) * mulN % 18446744073709551616 : Nat) : Int) / 4294967296 = (((s ^^^ x) * mulN % 18446744073709551616 / 4294967296 : Nat) : Int) := by omega
  rw [e2, bits_xor_u64_nat _ _ (Nat.mod_lt _ (by decide)) (Nat.lt_of_le_of_lt (Nat.div_le_self _ _) (Nat.mod_lt _ (by decide)))]
  rfl
def u64N (n : Int) : Nat := (n % 18446744073709551616).toNat
theorem u64N_lt (n : Int) : u64N n < 18446744073709551616 := by unfold u64N; omega
theorem u64N_wrap (n : Int) : IntKind.u64.wrap n = (u64N n : Nat) := by rw [IntKind.wrap_u64]; unfold u64N; omega
/-- The sum of words. -/
def sumU (label : List UInt8) (l : List Nat) : Nat := mixN (l.foldl mixN (mixN (mixN ((wordsN label).foldl mixN 0) label.length) l.length)) 0
def sumN (label : List UInt8) (l : List Int) : Nat := sumU label (l.map u64N)
def bytesN (label b : List UInt8) : Nat := sumU label (wordsN b ++ [b.length])
theorem foldl_mix_lt : ∀ (l : List Nat) (s : Nat), s < 18446744073709551616 → l.foldl mixN s < 18446744073709551616
  | [], s, h => h
  | x :: l, s, _ => foldl_mix_lt l _ (mixN_lt s x)
theorem sumU_lt (label : List UInt8) (l : List Nat) : sumU label l < 18446744073709551616 := mixN_lt _ _
theorem or_word (l : List UInt8) (c : UInt8) (d : Nat) (hl : l.length = d) (hd : d < 8) :
    bits .or .u64 (leN l : Nat) (IntKind.u64.wrap (IntKind.u64.wrap (c.toNat : Int) * 2 ^ (8 * d))) = (leN (l ++ [c]) : Nat) := by
  subst hl
  have h1 := leN_lt l
  have hc := c.toNat_lt
  rw [leN_snoc]
  have e : (256 : Nat) ^ l.length = 2 ^ (8 * l.length) := by rw [Nat.pow_mul]
  have e' : ((2 : Int) ^ (8 * l.length)) = ((2 ^ (8 * l.length) : Nat) : Int) := by push_cast; rfl
  rw [e] at h1 ⊢
  rw [e']
  have hpw : 256 * 2 ^ (8 * l.length) ≤ 2 ^ 64 := by
    rw [show (256 : Nat) = 2 ^ 8 from rfl, ← Nat.pow_add]; exact Nat.pow_le_pow_right (by decide) (by omega)
  generalize hp : 2 ^ (8 * l.length) = p at *
  have h2 : c.toNat * p < 2 ^ 64 := Nat.lt_of_lt_of_le (Nat.mul_lt_mul_of_pos_right hc (by omega)) hpw
  have e2 : IntKind.u64.wrap (c.toNat : Int) = (c.toNat : Int) := wraps_u64 _ (by omega) (by omega)
  have e3 : IntKind.u64.wrap (((c.toNat : Nat) : Int) * (p : Int)) = ((c.toNat * p : Nat) : Int) := by
    rw [← Int.natCast_mul]; exact wraps_u64 _ (by omega) (by exact_mod_cast h2)
  rw [e2, e3]
  have hp2 : (2 : Int) ^ (8 * l.length) = (p : Int) := by rw [← hp]; push_cast; rfl
  have g1 : ((leN l : Nat) : Int) < (2 : Int) ^ (8 * l.length) := by rw [hp2]; exact_mod_cast h1
  have g2 : leN l < 2 ^ 64 := by omega
  have g3 : ((c.toNat * p : Nat) : Int) % (2 : Int) ^ (8 * l.length) = 0 := by rw [hp2]; push_cast; exact Int.mul_emod_left _ _
  rw [bits_join_low .u64 64 (by decide) wraps_u64 (8 * l.length) _ _ (by omega) g1 (by exact_mod_cast g2) (by omega) g3 (by exact_mod_cast h2)]
  exact (Int.natCast_add _ _).symm
theorem take_snoc_at (l : List UInt8) (i d : Nat) (h : i + d < l.length) : (l.drop i).take (d + 1) = (l.drop i).take d ++ [l[i + d]] := by
  rw [List.take_succ_eq_append_getElem (by simp; omega)]
  simp
theorem u64N_i64 (x : Nat) (h : x < 18446744073709551616) : u64N (RowKit.wrap64 (x : Int)) = x := by
  unfold u64N RowKit.wrap64
  omega
theorem map_u64 : ∀ l : List Nat, (∀ x ∈ l, x < 18446744073709551616) → (l.map fun x : Nat => RowKit.wrap64 (x : Int)).map u64N = l
  | [], _ => rfl
  | x :: l, h => by
    rw [List.map_cons, List.map_cons, u64N_i64 x (h x (by simp)), map_u64 l fun y hy => h y (by simp [hy])]
theorem sum_bytes (label bs : List UInt8) (hb : bs.length ≤ 140737488351240) : sumN label ((wordsN bs).map (fun x : Nat => RowKit.wrap64 (x : Int)) ++ [(bs.length : Int)]) = bytesN label bs := by
  have h : u64N (bs.length : Int) = bs.length := by unfold u64N; omega
  rw [sumN, bytesN, List.map_append, map_u64 _ (wordsN_lt bs), List.map_cons, List.map_nil, h]
/-- Numbers of 64 bits. -/
abbrev U64 := { x : Nat // x < 18446744073709551616 }
def wordU (l : List UInt8) (k : Nat) : U64 := ⟨wordN l k, wordN_lt l k⟩
def wordsU (l : List UInt8) : List U64 := (List.range ((l.length + 7) / 8)).map (wordU l)
theorem wordsU_val (l : List UInt8) : (wordsU l).map (·.1) = wordsN l := by simp [wordsU, wordsN, wordU]
theorem wordsU_take (l : List UInt8) (k : Nat) (hk : k ≤ (l.length + 7) / 8) : (List.range k).map (wordU l) = (wordsU l).take k := by
  rw [wordsU, ← List.map_take, List.take_range, Nat.min_eq_left hk]
theorem wordsU_length (l : List UInt8) : (wordsU l).length = (l.length + 7) / 8 := by simp [wordsU]
end PA
/- Rationals of limited size in plain: what package ratio computes. No program in sight. -/
namespace PA
open Go
/-- A ratio. -/
structure Rt where
  n : Int
  d : Int
  deriving DecidableEq
def ratioMaxN : Nat := 1099511627776
def ratioMaxD : Nat := 1048576
/-- What 'build' returns: the ratio and the error. -/
def buildR (neg : Bool) (n d : Nat) : Rt × Int :=
  if ratioMaxN < n / Nat.gcd n d ∨ ratioMaxD < d / Nat.gcd n d then (⟨0, 0⟩, 5)
  else (⟨if neg = true then -((n / Nat.gcd n d : Nat) : Int) else ((n / Nat.gcd n d : Nat) : Int), ((d / Nat.gcd n d : Nat) : Int)⟩, 0)
def newR (num den : Int) : Rt × Int :=
  if den = 0 then (⟨0, 0⟩, 1) else buildR (decide (num < 0) != decide (den < 0)) num.natAbs den.natAbs
def okR (r : Rt) : Bool := decide (1 ≤ r.d) && decide (newR r.n r.d = (r, 0))
def addR (a b : Rt) : Rt × Int := if okR a = true ∧ okR b = true then newR (a.n * b.d + b.n * a.d) (a.d * b.d) else (⟨0, 0⟩, 1)
def negR (a : Rt) : Rt := ⟨-a.n, a.d⟩
def subR (a b : Rt) : Rt × Int := addR a (negR b)
theorem buildR_ok {neg : Bool} {n d : Nat} {r : Rt} (h : buildR neg n d = (r, 0)) : r.n.natAbs = n / Nat.gcd n d ∧ r.d = ((d / Nat.gcd n d : Nat) : Int) ∧ n / Nat.gcd n d ≤ ratioMaxN ∧ d / Nat.gcd n d ≤ ratioMaxD := by
  unfold buildR at h
  split at h
  · cases h
  · rename_i h'
    have h1 : n / Nat.gcd n d ≤ ratioMaxN := by
      rcases Nat.lt_or_ge ratioMaxN (n / Nat.gcd n d) with h2 | h2
      · exact absurd (.inl h2) h'
      · exact h2
    have h2 : d / Nat.gcd n d ≤ ratioMaxD := by
      rcases Nat.lt_or_ge ratioMaxD (d / Nat.gcd n d) with h2 | h2
      · exact absurd (.inr h2) h'
      · exact h2
    obtain ⟨rfl⟩ := (Prod.mk.inj h).1
    refine ⟨?_, rfl, h1, h2⟩
    show Int.natAbs (if neg = true then -((n / Nat.gcd n d : Nat) : Int) else ((n / Nat.gcd n d : Nat) : Int)) = _
    by_cases e : neg = true
    · rw [if_pos e, Int.natAbs_neg, Int.natAbs_natCast]
    · rw [if_neg e, Int.natAbs_natCast]
structure Rok (r : Rt) : Prop where
  d1 : 1 ≤ r.d
  d2 : r.d ≤ 1048576
  n1 : -1099511627776 ≤ r.n
  n2 : r.n ≤ 1099511627776
theorem newR_ok {n d : Int} {r : Rt} (h : newR n d = (r, 0)) (hd : 0 < d) : Rok r ∧ (r.n = 0 ↔ n = 0) ∧ (0 < r.n ↔ 0 < n) := by
  unfold newR at h
  rw [if_neg (by omega)] at h
  have h0 := h
  obtain ⟨h1, h2, h3, h4⟩ := buildR_ok h
  unfold ratioMaxN at h3
  unfold ratioMaxD at h4
  have hg : 0 < Nat.gcd n.natAbs d.natAbs := Nat.gcd_pos_of_pos_right _ (by omega)
  have hdv : 0 < d.natAbs / Nat.gcd n.natAbs d.natAbs := Nat.div_pos (Nat.le_of_dvd (by omega) (Nat.gcd_dvd_right _ _)) hg
  have hz : n.natAbs / Nat.gcd n.natAbs d.natAbs = 0 ↔ n.natAbs = 0 := by
    constructor
    · intro e
      rcases (Nat.div_eq_zero_iff).1 e with e | e
      · omega
      · rcases Nat.eq_zero_or_pos n.natAbs with h | h
        · exact h
        · have := Nat.le_of_dvd h (Nat.gcd_dvd_left n.natAbs d.natAbs); omega
    · intro e; rw [e]; simp
  refine ⟨⟨by omega, by omega, by omega, by omega⟩, by omega, ?_⟩
  unfold buildR at h0
  split at h0
  · cases h0
  · have e := (Prod.mk.inj h0).1
    have hd' : decide (d < 0) = false := decide_eq_false (by omega)
    rw [hd'] at e
    subst e
    by_cases hn : n < 0
    · simp only [hn, decide_true]
      simp
      omega
    · simp only [hn, decide_false]
      simp
      constructor
      · intro h
        have : n.natAbs ≠ 0 := fun e => by rw [e] at h; simp at h
        omega
      · intro h
        have := hz
        omega
theorem okR_spec {r : Rt} (h : okR r = true) : Rok r ∧ newR r.n r.d = (r, 0) := by
  simp only [okR, Bool.and_eq_true, decide_eq_true_eq] at h
  exact ⟨(newR_ok h.2 (by omega)).1, h.2⟩
theorem newR_den (n d : Int) (hd : 0 < d) (hdn : okR ⟨n, d⟩ = true) : Nat.gcd n.natAbs d.natAbs = 1 := by
  have h := (okR_spec hdn).2
  unfold newR at h
  rw [if_neg (by show ¬ d = 0; omega)] at h
  obtain ⟨-, h2, -, -⟩ := buildR_ok h
  have h2' : d = ((d.natAbs / Nat.gcd n.natAbs d.natAbs : Nat) : Int) := h2
  rcases Nat.lt_or_ge 1 (Nat.gcd n.natAbs d.natAbs) with h3 | h3
  · have := Nat.div_lt_self (n := d.natAbs) (by omega) h3
    omega
  · have : 0 < Nat.gcd n.natAbs d.natAbs := Nat.gcd_pos_of_pos_right _ (by omega)
    omega
/-- A result without error is in lowest terms. -/
theorem newR_valid {n d : Int} {r : Rt} (h : newR n d = (r, 0)) (hd : 0 < d) : okR r = true := by
  obtain ⟨hr, hz, hp⟩ := newR_ok h hd
  have h' := h
  unfold newR at h
  rw [if_neg (by omega)] at h
  obtain ⟨h1, h2, h3, h4⟩ := buildR_ok h
  have hg : 0 < Nat.gcd n.natAbs d.natAbs := Nat.gcd_pos_of_pos_right _ (by omega)
  have hco : Nat.gcd r.n.natAbs r.d.natAbs = 1 := by
    rw [h1, h2, Int.natAbs_natCast]
    rw [Nat.gcd_div (Nat.gcd_dvd_left _ _) (Nat.gcd_dvd_right _ _), Nat.div_self hg]
  simp only [okR, Bool.and_eq_true, decide_eq_true_eq]
  refine ⟨hr.d1, ?_⟩
  unfold newR buildR
  rw [if_neg (by have := hr.d1; omega), hco, Nat.div_one, Nat.div_one, if_neg]
  · have hdd : decide (r.d < 0) = false := decide_eq_false (by have := hr.d1; omega)
    rw [hdd]
    refine congrArg (·, (0 : Int)) ?_
    cases r with
    | mk rn rd =>
      simp only at *
      by_cases hn : rn < 0
      · simp only [hn, decide_true]
        simp
        exact ⟨by omega, by have := hr.d1; simp at this; omega⟩
      · simp only [hn, decide_false]
        simp
        exact ⟨by omega, by have := hr.d1; simp at this; omega⟩
  · rw [h1, h2, Int.natAbs_natCast]
    omega
theorem okR_mk (n d : Int) (h1 : 1 ≤ d) (h2 : d ≤ 1048576) (h3 : n.natAbs ≤ 1099511627776) (h4 : Nat.gcd n.natAbs d.natAbs = 1) : okR ⟨n, d⟩ = true := by
  simp only [okR, Bool.and_eq_true, decide_eq_true_eq]
  refine ⟨h1, ?_⟩
  unfold newR buildR
  rw [if_neg (by omega), h4, Nat.div_one, Nat.div_one, if_neg]
  · have hdd : decide (d < 0) = false := decide_eq_false (by omega)
    rw [hdd]
    refine congrArg (·, (0 : Int)) ?_
    by_cases hn : n < 0
    · simp only [hn, decide_true]
      simp
      exact ⟨by omega, by omega⟩
    · simp only [hn, decide_false]
      simp
      exact ⟨by omega, by omega⟩
  · unfold ratioMaxN ratioMaxD
    omega
theorem okR_neg {r : Rt} (h : okR r = true) : okR (negR r) = true := by
  have h1 := (okR_spec h).1
  have hc := newR_den r.n r.d (by have := h1.d1; omega) h
  exact okR_mk _ _ h1.d1 h1.d2 (by have := h1.n1; have := h1.n2; omega) (by rw [Int.natAbs_neg]; exact hc)
theorem addR_valid {a b r : Rt} (h : addR a b = (r, 0)) : okR r = true ∧ okR a = true ∧ okR b = true := by
  unfold addR at h
  split at h
  · rename_i hh
    have ha := (okR_spec hh.1).1
    have hb := (okR_spec hh.2).1
    exact ⟨newR_valid h (Int.mul_pos (by have := ha.d1; omega) (by have := hb.d1; omega)), hh.1, hh.2⟩
  · cases h
end PA
