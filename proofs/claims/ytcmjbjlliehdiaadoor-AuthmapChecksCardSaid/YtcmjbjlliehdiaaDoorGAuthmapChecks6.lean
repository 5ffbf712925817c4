/- Package hash: mix; the iterators over the words. -/
import Derived.RangeFuncNested
import Derived.RangeFuncBound
import Derived.RangeFuncCalls
import Derived.RangeFuncLeaves
import Derived.Shelf.Abstract
import Derived.Shelf.RegionOpen
import Derived.WalkKit
import Derived.OwnWalkIn
import Derived.TacticsInMore
import Derived.LoopNIn
import Derived.LoopIn
import Derived.Test.YtcmjbjlliehdiaaDoorRows
import Derived.Test.YtcmjbjlliehdiaaDoorGAuthmapChecksSVal
import Derived.Test.YtcmjbjlliehdiaaDoorGAuthmapChecks0
import Derived.RangeFuncBox
namespace Go.Proofs.YtcmjbjlliehdiaaDoor
open Go.RowKit PA
theorem _root_.PA.ret_int {k : IntKind} {a b : Int} (h : a = b) : Ending.returned (.int k a) = .returned (.int k b) := by rw [h]
theorem mix_spec (s x : Nat) (w : World) (hs : s < 18446744073709551616) (hx : x < 18446744073709551616) : Calls Tryd.prog 58 #[.int .u64 s, .int .u64 x] w fun e w' => e = .returned (.int .u64 (mixN s x : Nat)) ∧ w = w' := by
  go_enter Tryd.func58, Tryd.ntmps58
  go_wp2
  go_ret
  exact ⟨ret_int (mix_val s x hs hx), rfl⟩
theorem rmix_spec (s x : Nat) (w : World) (hs : s < 18446744073709551616) (hx : x < 18446744073709551616) : Calls Tryd.prog 102 #[.int .u64 s, .int .u64 x] w fun e w' => e = .returned (.int .u64 (mixN s x : Nat)) ∧ w = w' := by
  have hv := mix_val s x hs hx
  have e : (IntKind.u64.wrap (bits .xor .u64 (s : Int) (x : Int) * 11400714819323198485)).tdiv 4294967296 = IntKind.u64.wrap (bits .xor .u64 (s : Int) (x : Int) * 11400714819323198485) / 4294967296 := by
    rw [Int.tdiv_eq_ediv_of_nonneg (by rw [IntKind.wrap_u64]; omega)]
  have e2 : IntKind.u64.wrap (IntKind.u64.wrap (bits .xor .u64 (s : Int) (x : Int) * 11400714819323198485) / 4294967296) = IntKind.u64.wrap (bits .xor .u64 (s : Int) (x : Int) * 11400714819323198485) / 4294967296 := by
    simp only [IntKind.wrap_u64]; omega
  have H := Lib.hid hv
  have H1 := Lib.hid e
  have H2 := Lib.hid e2
  clear hv e e2
  go_enter Tryd.func102, Tryd.ntmps102
  go_wp2
  go_ret
  exact ⟨ret_int (by show bits .xor .u64 _ (IntKind.u64.wrap (Int.tdiv _ _)) = _; rw [H1.out, H2.out]; exact H.out), rfl⟩
/-- What lies below n is as it was; so is the box. -/
def KpB (n B : Nat) (W W' : World) : Prop := Below n W W' ∧ W'.cell? ⟨B, 0, none⟩ = W.cell? ⟨B, 0, none⟩
theorem KpB.refl (n B : Nat) (W : World) : KpB n B W W := ⟨Below.refl _ _, rfl⟩
theorem KpB.trans {n B : Nat} {W W' W'' : World} (h : KpB n B W W') (k : KpB n B W' W'') : KpB n B W W'' := ⟨h.1.trans k.1, k.2.trans h.2⟩
attribute [local go_sem] Oper.semAt_some
set_option maxRecDepth 100000 in
set_option maxHeartbeats 2000000 in
theorem wordsS1_in (F : Fence) (n : Nat) (hF : F.fn 89) (hro : F.round = none) (hn : 1 ≤ n) (l Bs n₀ : Nat) (s : ByteArray) (hlen : s.size ≤ 4611686018427387904) (J Jx : List U64 → World → Prop)
    (hY : ∀ pre x W, J pre W → pre.length < (s.size + 7) / 8 → YieldAt F (n - 1) Tryd.prog l #[.int .u64 ((x : U64).1 : Nat)] W fun e W' =>
      (e = .returned (.bool true) ∧ J (pre ++ [x]) W' ∧ KpB n₀ Bs W W') ∨ (e = .returned (.bool false) ∧ Jx (pre ++ [x]) W'))
    (W : World) (hBs : W.cell? ⟨Bs, 0, none⟩ = some (.string s)) (h0 : J [] W) :
    CallsIn F n Tryd.prog 89 #[.func (.yield l) #[] #[], .pointer (some ⟨Bs, 0, none⟩)] W fun e W' => (∃ v, e = .returned v) ∧
      ((∃ ys, ys = wordsU s.data.toList ∧ J ys W') ∨ (∃ pre, (∃ k, pre = (wordsU s.data.toList).take k) ∧ Jx pre W')) := by
  refine callsIn_of_wp Tryd.func89 rfl hF ?_ hro
  simp only [Tryd.ntmps89, List.size_toArray, List.length_cons, List.length_nil, Nat.reduceAdd, Nat.reduceSub, Array.replicate_succ, Array.replicate_zero, List.push_toArray, List.append_toArray, List.nil_append, List.cons_append]
  gi_wp2
  gi_loopw [3] (fun i wr => ∃ k : Nat, k ≤ (s.size + 7) / 8 ∧ i = .int .i64 (8 * k : Nat) ∧ J ((List.range k).map (wordU s.data.toList)) wr ∧ KpB n₀ Bs W wr)
    (fun i _ => s.size + 8 - (intOf i).toNat)
  case atStart => exact ⟨0, Nat.zero_le _, rfl, h0, KpB.refl _ _ _⟩
  case round =>
    obtain ⟨k, hk, rfl, hJs, hnx⟩ := hrel
    have hc : wr.cell? ⟨Bs, 0, none⟩ = some (.string s) := hnx.2.trans hBs
    obtain ⟨i, hi⟩ : ∃ i, i = 8 * k := ⟨_, rfl⟩
    rw [← hi]
    by_cases hlt : i < s.size
    · have hi0 : (0 : Int) ≤ i := by omega
      have hi1 : (i : Int) + 8 ≤ 9223372036854775807 := by omega
      have hltI : (i : Int) < s.size := by omega
      obtain ⟨e, he⟩ : ∃ e, e = min (i + 8) s.size := ⟨_, rfl⟩
      have hmin : (if (s.size : Int) < (i : Int) + 8 then (s.size : Int) else (i : Int) + 8) = (e : Int) := by split <;> omega
      have he1 : i ≤ e ∧ e ≤ i + 8 ∧ e ≤ s.size := by omega
      have HE := Lib.hid he
      have HI := Lib.hid hi
      have HL := Lib.hid hlen
      have HY := Lib.hid hY
      have HE1 := Lib.hid he1
      clear hi hlen he he1 hY
      gi_wp2
      gi_loop [4, 5] (fun wv kv => ∃ j : Nat, i ≤ j ∧ j ≤ e ∧ kv = .int .i64 (j : Nat) ∧ wv = .int .u64 (leN ((s.data.toList.drop i).take (j - i)) : Nat)) (fun _ kv => e - (intOf kv).toNat)
      case atStart => exact ⟨i, Nat.le_refl _, HE1.out.1, rfl, by simp [leN]⟩
      case round =>
        obtain ⟨j, hj1, hj2, rfl, rfl⟩ := hrel
        have HJ2 := Lib.hid hj2
        clear hj2
        obtain ⟨x, hx⟩ : ∃ x, x = leN ((s.data.toList.drop i).take (j - i)) := ⟨_, rfl⟩
        rw [← hx]
        have HX := Lib.hid hx
        clear hx
        by_cases hje : j < e
        · have b1 : (j : Int) < e := by omega
          have b2 : j < s.size := by have := HE1.out; omega
          have b7 : (j : Int) < s.size := by omega
          have b3 : (i : Int) ≤ j := by omega
          obtain ⟨d, hd⟩ : ∃ d, d = j - i := ⟨_, rfl⟩
          have b4 : (j : Int) - (i : Int) = (d : Int) := by omega
          have b5 : (d : Int) < 8 := by have := HE1.out; omega
          have b6 : (0 : Int) ≤ (d : Int) := by omega
          have HD := Lib.hid hd
          clear hd hltI hje hlt hk hn
          gi_wp2
          obtain rfl : j = i + d := by have := HD.out; omega
          refine ⟨⟨i + d + 1, by omega, by omega, by go_num, ?_⟩, by simp [intOf]; omega⟩
          have hlen : s.data.toList.length = s.size := by simp
          rw [HX.out, show i + d + 1 - i = d + 1 by omega, show i + d - i = d by omega, take_snoc_at _ _ _ (by rw [hlen]; omega), ← or_word _ _ d (by rw [List.length_take, List.length_drop, hlen]; omega) (by omega)]
          rfl
        · have b1 : ¬ (j : Int) < e := by omega
          have hj : j = e := by have := HJ2.out; omega
          have hlen : s.data.toList.length = s.size := by simp
          have hxw : x = wordN s.data.toList k := by
            have := HE.out
            have := HI.out
            rw [HX.out, hj, wordN, ← HI.out]
            by_cases h8 : i + 8 ≤ s.size
            · rw [show e - i = 8 by omega]
            · rw [List.take_of_length_le (by rw [List.length_drop, hlen]; omega), List.take_of_length_le (by rw [List.length_drop, hlen]; omega)]
          clear hj
          obtain ⟨fn, tmps, assign, body, hy, hR⟩ := HY.out _ (wordU s.data.toList k) wr hJs (by simp; have := HI.out; omega)
          dsimp only [wordU] at hy
          rw [← hxw] at hy
          have HXW := Lib.hid hxw
          have HLN := Lib.hid hlen
          have HN := Lib.hid hnx
          clear hxw hlen
          gi_wp2
          refine hR.mono ?_
          rintro e' W3 (⟨rfl, hJ3, hk3⟩ | ⟨rfl, hJx3⟩)
          · clear hc
            gi_wp2
            go_roundw
            case rel => exact ⟨k + 1, by have := HI.out; omega, by rw [HI.out]; go_num, by rw [List.range_succ, List.map_append, List.map_cons, List.map_nil]; exact hJ3, HN.out.trans hk3⟩
            case measure => simp [intOf]; omega
          · gi_wp2
            refine bodyPost_ret (results_none rfl _ _ _) rfl ?_
            refine ⟨⟨_, rfl⟩, .inr ⟨_, ⟨k + 1, ?_⟩, hJx3⟩⟩
            rw [← wordsU_take _ _ (by rw [HLN.out]; have := HI.out; omega), List.range_succ, List.map_append]
            rfl
    · have hge : ¬ (i : Int) < s.size := by omega
      have hk' : k = (s.size + 7) / 8 := by omega
      have HK := Lib.hid hk'
      clear hk' hi
      gi_wp2
      go_end0
      refine ⟨⟨_, rfl⟩, .inl ?_⟩
      rw [wordsU, Array.length_toList]
      show J ((List.range ((s.size + 7) / 8)).map _) _
      rw [← HK.out]; exact hJs
set_option maxRecDepth 100000 in
set_option maxHeartbeats 2000000 in
theorem words1_in (F : Fence) (n : Nat) (hF : F.fn 90) (hro : F.round = none) (hn : 1 ≤ n) (l Bs n₀ : Nat) (ad : Option Addr) (cp : Nat) (bs : List UInt8) (hlen : bs.length ≤ 4611686018427387904) (J Jx : List U64 → World → Prop)
    (hY : ∀ pre x W, J pre W → pre.length < (bs.length + 7) / 8 → YieldAt F (n - 1) Tryd.prog l #[.int .u64 ((x : U64).1 : Nat)] W fun e W' =>
      (e = .returned (.bool true) ∧ J (pre ++ [x]) W' ∧ KpB n₀ Bs W W') ∨ (e = .returned (.bool false) ∧ Jx (pre ++ [x]) W'))
    (W : World) (hBs : W.cell? ⟨Bs, 0, none⟩ = some (.slice ad bs.length cp)) (hcs : bs ≠ [] → ∃ b o, ad = some ⟨b, o, none⟩ ∧ b < n₀ ∧ ∀ j (h : j < bs.length), W.cell? ⟨b, o + j, none⟩ = some (.int .u8 (bs[j].toNat : Nat))) (h0 : J [] W) :
    CallsIn F n Tryd.prog 90 #[.func (.yield l) #[] #[], .pointer (some ⟨Bs, 0, none⟩)] W fun e W' => (∃ v, e = .returned v) ∧
      ((∃ ys, ys = wordsU bs ∧ J ys W') ∨ (∃ pre, (∃ k, pre = (wordsU bs).take k) ∧ Jx pre W')) := by
  refine callsIn_of_wp Tryd.func90 rfl hF ?_ hro
  simp only [Tryd.ntmps90, List.size_toArray, List.length_cons, List.length_nil, Nat.reduceAdd, Nat.reduceSub, Array.replicate_succ, Array.replicate_zero, List.push_toArray, List.append_toArray, List.nil_append, List.cons_append]
  gi_wp2
  gi_loopw [3] (fun i wr => ∃ k : Nat, k ≤ (bs.length + 7) / 8 ∧ i = .int .i64 (8 * k : Nat) ∧ J ((List.range k).map (wordU bs)) wr ∧ KpB n₀ Bs W wr)
    (fun i _ => bs.length + 8 - (intOf i).toNat)
  case atStart => exact ⟨0, Nat.zero_le _, rfl, h0, KpB.refl _ _ _⟩
  case round =>
    obtain ⟨k, hk, rfl, hJs, hnx⟩ := hrel
    have hc : wr.cell? ⟨Bs, 0, none⟩ = some (.slice ad bs.length cp) := hnx.2.trans hBs
    obtain ⟨i, hi⟩ : ∃ i, i = 8 * k := ⟨_, rfl⟩
    rw [← hi]
    by_cases hlt : i < bs.length
    · obtain ⟨b, o, rfl, hbn, hcells⟩ := hcs (fun e => by rw [e] at hlt; simp at hlt)
      have hcells' : ∀ j (h : j < bs.length), wr.cell? ⟨b, o + j, none⟩ = some (.int .u8 (bs[j].toNat : Nat)) := fun j h => (hnx.1.cell (p := ⟨b, o + j, none⟩) hbn).trans (hcells j h)
      have HC := Lib.hid hcells'
      clear hcells hcells' hcs
      have hi0 : (0 : Int) ≤ i := by omega
      have hi1 : (i : Int) + 8 ≤ 9223372036854775807 := by omega
      have hltI : (i : Int) < bs.length := by omega
      obtain ⟨e, he⟩ : ∃ e, e = min (i + 8) bs.length := ⟨_, rfl⟩
      have hmin : (if (bs.length : Int) < (i : Int) + 8 then (bs.length : Int) else (i : Int) + 8) = (e : Int) := by split <;> omega
      have he1 : i ≤ e ∧ e ≤ i + 8 ∧ e ≤ bs.length := by omega
      have HE := Lib.hid he
      have HI := Lib.hid hi
      have HL := Lib.hid hlen
      have HY := Lib.hid hY
      have HE1 := Lib.hid he1
      clear hi hlen he he1 hY
      gi_wp2
      gi_loop [4, 5] (fun wv kv => ∃ j : Nat, i ≤ j ∧ j ≤ e ∧ kv = .int .i64 (j : Nat) ∧ wv = .int .u64 (leN ((bs.drop i).take (j - i)) : Nat)) (fun _ kv => e - (intOf kv).toNat)
      case atStart => exact ⟨i, Nat.le_refl _, HE1.out.1, rfl, by simp [leN]⟩
      case round =>
        obtain ⟨j, hj1, hj2, rfl, rfl⟩ := hrel
        have HJ2 := Lib.hid hj2
        clear hj2
        obtain ⟨x, hx⟩ : ∃ x, x = leN ((bs.drop i).take (j - i)) := ⟨_, rfl⟩
        rw [← hx]
        have HX := Lib.hid hx
        clear hx
        by_cases hje : j < e
        · have b1 : (j : Int) < e := by omega
          have b2 : j < bs.length := by have := HE1.out; omega
          have b7 : (j : Int) < bs.length := by omega
          have b3 : (i : Int) ≤ j := by omega
          obtain ⟨d, hd⟩ : ∃ d, d = j - i := ⟨_, rfl⟩
          have b4 : (j : Int) - (i : Int) = (d : Int) := by omega
          have b5 : (d : Int) < 8 := by have := HE1.out; omega
          have b6 : (0 : Int) ≤ (d : Int) := by omega
          have hcj := HC.out j b2
          obtain ⟨y, hy⟩ : ∃ y, y = bs[j] := ⟨_, rfl⟩
          rw [← hy] at hcj
          have HYB := Lib.hid hy
          have HD := Lib.hid hd
          clear hy
          clear hd hltI hje hlt hk hn
          gi_wp2
          obtain rfl : j = i + d := by have := HD.out; omega
          refine ⟨⟨i + d + 1, by omega, by omega, by go_num, ?_⟩, by simp [intOf]; omega⟩
          have hlen : bs.length = bs.length := rfl
          rw [HX.out, show i + d + 1 - i = d + 1 by omega, show i + d - i = d by omega, take_snoc_at _ _ _ (by omega), ← HYB.out, ← or_word _ _ d (by rw [List.length_take, List.length_drop]; omega) (by omega)]
        · have b1 : ¬ (j : Int) < e := by omega
          have hj : j = e := by have := HJ2.out; omega
          have hlen : bs.length = bs.length := rfl
          have hxw : x = wordN bs k := by
            have := HE.out
            have := HI.out
            rw [HX.out, hj, wordN, ← HI.out]
            by_cases h8 : i + 8 ≤ bs.length
            · rw [show e - i = 8 by omega]
            · rw [List.take_of_length_le (by rw [List.length_drop]; omega), List.take_of_length_le (by rw [List.length_drop]; omega)]
          clear hj
          obtain ⟨fn, tmps, assign, body, hy, hR⟩ := HY.out _ (wordU bs k) wr hJs (by simp; have := HI.out; omega)
          dsimp only [wordU] at hy
          rw [← hxw] at hy
          have HXW := Lib.hid hxw
          have HLN := Lib.hid hlen
          have HN := Lib.hid hnx
          clear hxw hlen
          gi_wp2
          refine hR.mono ?_
          rintro e' W3 (⟨rfl, hJ3, hk3⟩ | ⟨rfl, hJx3⟩)
          · clear hc
            gi_wp2
            go_roundw
            case rel => exact ⟨k + 1, by have := HI.out; omega, by rw [HI.out]; go_num, by rw [List.range_succ, List.map_append, List.map_cons, List.map_nil]; exact hJ3, HN.out.trans hk3⟩
            case measure => simp [intOf]; omega
          · gi_wp2
            refine bodyPost_ret (results_none rfl _ _ _) rfl ?_
            refine ⟨⟨_, rfl⟩, .inr ⟨_, ⟨k + 1, ?_⟩, hJx3⟩⟩
            rw [← wordsU_take _ _ (by have := HI.out; omega), List.range_succ, List.map_append]
            rfl
    · clear hcs
      have hge : ¬ (i : Int) < bs.length := by omega
      have hk' : k = (bs.length + 7) / 8 := by omega
      have HK := Lib.hid hk'
      clear hk' hi
      gi_wp2
      go_end0
      refine ⟨⟨_, rfl⟩, .inl ?_⟩
      rw [wordsU]
      show J ((List.range ((bs.length + 7) / 8)).map _) _
      rw [← HK.out]; exact hJs
theorem kpB_b {n₀ Bs : Nat} {w : World} (hn : n₀ ≤ w.heap.size) (hB : Bs < w.heap.size) (W : World) (l : Nat) (o o' : Obj) (hl : w.heap.size ≤ l) (h : W.heap[l]? = some o) (h1 : o.isCells = false) (h2 : o.isWalk = false) : KpB n₀ Bs W (W.putObj l o') :=
  ⟨belowK_b hn W l o o' hl h h1 h2, by
    have : (W.putObj l o').heap[Bs]? = W.heap[Bs]? := World.putObj_heap_other (by omega)
    simp only [World.cell?, this]⟩
theorem wordsS_stops (F : Fence) (n : Nat) (hF : F.fn 89) (hro : F.round = none) (hn : 1 ≤ n) (Bs n₀ : Nat) (s : ByteArray) (hlen : s.size ≤ 4611686018427387904) (w : World) (hBs : Bs < w.heap.size) (hc : w.cell? ⟨Bs, 0, none⟩ = some (.string s)) :
    SeqStopsK F n Tryd.prog 89 #[.pointer (some ⟨Bs, 0, none⟩)] (fun x : U64 => #[.int .u64 (x.1 : Nat)]) (KpB n₀ Bs) (fun ys => ys = wordsU s.data.toList) (fun pre => ∃ k, pre = (wordsU s.data.toList).take k) ((s.size + 7) / 8) w := fun l J Jx W hW _ _ hY h0 =>
  wordsS1_in F n hF hro hn l Bs n₀ s hlen J Jx hY W ((hW.cell (p := ⟨Bs, 0, none⟩) hBs).trans hc) h0
theorem words_stops (F : Fence) (n : Nat) (hF : F.fn 90) (hro : F.round = none) (hn : 1 ≤ n) (Bs n₀ : Nat) (ad : Option Addr) (cp : Nat) (bs : List UInt8) (hlen : bs.length ≤ 4611686018427387904) (w : World) (hBs : Bs < w.heap.size) (hn₀ : n₀ ≤ w.heap.size) (hc : w.cell? ⟨Bs, 0, none⟩ = some (.slice ad bs.length cp))
    (hcs : bs ≠ [] → ∃ b o, ad = some ⟨b, o, none⟩ ∧ b < n₀ ∧ ∀ j (h : j < bs.length), w.cell? ⟨b, o + j, none⟩ = some (.int .u8 (bs[j].toNat : Nat))) :
    SeqStopsK F n Tryd.prog 90 #[.pointer (some ⟨Bs, 0, none⟩)] (fun x : U64 => #[.int .u64 (x.1 : Nat)]) (KpB n₀ Bs) (fun ys => ys = wordsU bs) (fun pre => ∃ k, pre = (wordsU bs).take k) ((bs.length + 7) / 8) w := fun l J Jx W hW _ _ hY h0 =>
  words1_in F n hF hro hn l Bs n₀ ad cp bs hlen J Jx hY W ((hW.cell (p := ⟨Bs, 0, none⟩) hBs).trans hc) (fun hne => by
    obtain ⟨b, o, e, hb, hcells⟩ := hcs hne
    exact ⟨b, o, e, hb, fun j h => (hW.cell (p := ⟨b, o + j, none⟩) (Nat.lt_of_lt_of_le hb hn₀)).trans (hcells j h)⟩) h0
theorem wordsS_in (F : Fence) (n : Nat) (hF : F.fn 57) (hro : F.round = none) (s : ByteArray) (w : World) :
    CallsIn F n Tryd.prog 57 #[.string s] w fun e w' => e = .returned (.func (.func 89) #[] #[.pointer (some ⟨w.heap.size, 0, none⟩)]) ∧ w' = w.alloc (.cells #[.string s] 9) := by
  refine callsIn_of_wp Tryd.func57 rfl hF ?_ hro
  simp only [Tryd.ntmps57, List.size_toArray, List.length_cons, List.length_nil, Nat.reduceAdd, Nat.reduceSub, Array.replicate_succ, Array.replicate_zero, List.push_toArray, List.append_toArray, List.nil_append, List.cons_append]
  gi_wp2
  go_ret
  exact ⟨rfl, rfl⟩
theorem words_in (F : Fence) (n : Nat) (hF : F.fn 59) (hro : F.round = none) (ad : Option Addr) (len cp : Nat) (w : World) :
    CallsIn F n Tryd.prog 59 #[.slice ad len cp] w fun e w' => e = .returned (.func (.func 90) #[] #[.pointer (some ⟨w.heap.size, 0, none⟩)]) ∧ w' = w.alloc (.cells #[.slice ad len cp] 32) := by
  refine callsIn_of_wp Tryd.func59 rfl hF ?_ hro
  simp only [Tryd.ntmps59, List.size_toArray, List.length_cons, List.length_nil, Nat.reduceAdd, Nat.reduceSub, Array.replicate_succ, Array.replicate_zero, List.push_toArray, List.append_toArray, List.nil_append, List.cons_append]
  gi_wp2
  go_ret
  exact ⟨rfl, rfl⟩
end Go.Proofs.YtcmjbjlliehdiaaDoor
/- Package hash: Sum. -/
namespace Go.Proofs.YtcmjbjlliehdiaaDoor
open Go.RowKit PA
attribute [local go_sem] Oper.semAt_some
theorem mix_in (F : Fence) (n : Nat) (hF : F.fn 58) (hro : F.round = none) (s x : Nat) (w : World) (hs : s < 18446744073709551616) (hx : x < 18446744073709551616) : CallsIn F n Tryd.prog 58 #[.int .u64 s, .int .u64 x] w fun e w' => e = .returned (.int .u64 (mixN s x : Nat)) ∧ w = w' := by
  refine callsIn_of_wp Tryd.func58 rfl hF ?_ hro
  simp only [Tryd.ntmps58, List.size_toArray, List.length_cons, List.length_nil, Nat.reduceAdd, Nat.reduceSub, Array.replicate_succ, Array.replicate_zero, List.push_toArray, List.append_toArray, List.nil_append, List.cons_append]
  gi_wp2
  go_ret
  exact ⟨ret_int (mix_val s x hs hx), rfl⟩
theorem mix0_spec (s : Nat) (w : World) (hs : s < 18446744073709551616) : Calls Tryd.prog 58 #[.int .u64 s, .int .u64 0] w fun e w' => e = .returned (.int .u64 (mixN s 0 : Nat)) ∧ w = w' := mix_spec s 0 w hs (by omega)
/-- A row of ints that lies below n. -/
def IntsAt (n : Nat) (w : World) (ad : Option Addr) (l : List Int) : Prop := l ≠ [] → ∃ b o, ad = some ⟨b, o, none⟩ ∧ b < n ∧ ∀ j (h : j < l.length), w.cell? ⟨b, o + j, none⟩ = some (.int .i64 l[j])
set_option maxRecDepth 100000 in
set_option maxHeartbeats 4000000 in
theorem sum_spec (s : ByteArray) (ad : Option Addr) (cp : Nat) (ns : List Int) (w : World) (hs : s.size ≤ 4611686018427387904) (hn : ns.length ≤ 4611686018427387904) (hl : IntsAt w.heap.size w ad ns) :
    Calls Tryd.prog 26 #[.string s, .slice ad ns.length cp] w fun e w' => e = .returned (.int .u64 (sumN s.data.toList ns : Nat)) ∧ Below w.heap.size w w' := by
  refine (callsIn_wide (n := 3)).1 ?_
  refine callsIn_of_wp_marks Tryd.func26 rfl trivial ?_ rfl
  simp only [Tryd.ntmps26, List.size_toArray, List.length_cons, List.length_nil, Nat.reduceAdd, Nat.reduceSub, Array.replicate_succ, Array.replicate_zero, List.push_toArray, List.append_toArray, List.nil_append, List.cons_append]
  have HS := Lib.hid hs
  have HN := Lib.hid hn
  have HL := Lib.hid hl
  clear hs hn hl
  gi_wp2_with (refine ⟨trivial, ?_⟩; gi_at_call 57; refine (wordsS_in Fence.wide _ trivial rfl s _).mono ?_; rintro e w' ⟨rfl, rfl⟩)
  obtain ⟨B, hB⟩ : ∃ B, B = w.heap.size := ⟨_, rfl⟩
  obtain ⟨W0, hW0⟩ : ∃ W0, W0 = (w.alloc (.cells #[.int .u64 0] 43)).alloc (.cells #[.string s] 9) := ⟨_, rfl⟩
  have hz0 : W0.heap.size = B + 2 := by rw [hW0, hB]; simp
  have hbel0 : Below B w W0 := by rw [hW0, hB]; exact ((Below.refl _ w).alloc (Nat.le_refl _) _).alloc (by simp) _
  have hbx0 : Boxed W0 B 43 (.int .u64 0) := by rw [hW0, hB]; exact (Boxed.new w 43 _).alloc _
  have hbs : Boxed W0 (B + 1) 9 (.string s) := by rw [hW0, hB]; have := Boxed.new (w.alloc (.cells #[.int .u64 0] 43)) 9 (.string s); rw [World.size_alloc] at this; exact this
  rw [← hW0, ← hB]
  have HB := Lib.hid hB
  clear hW0 hB
  refine wpIn_rangeFunc_ownF (F := Fence.wide) rfl (by omega) (gf := 89) (lb := #[.pointer (some ⟨B + 1, 0, none⟩)]) rfl trivial (enters_of Tryd.func89 (by kernel_rfl) rfl)
    (wordsS_stops Fence.wide (3 - 1) trivial rfl (by omega) (B + 1) B s HS.out _ (by rw [hz0]; omega) hbs.cell) (fun h k => KpB.trans h k) (kpB_b (by rw [hz0]; omega) (by rw [hz0]; omega)) (Below.refl _ _) (fun _ => rfl)
    (fun pre W => Boxed W B 43 (.int .u64 (((pre.map (·.1)).foldl mixN 0 : Nat))) ∧ Below B w W)
    (fun _ _ _ => False)
    (OwnFrom.and (Own.from (boxed_own _ _ _) _) (ownFrom_below (by rw [HB.out]; exact Nat.le_refl _) (by rw [hz0]; omega)))
    (fun _ => (Own.from (fun _ _ _ _ hs _ _ => hs) _))
    ⟨hbx0, hbel0⟩
    (fun x => { tmps := #[.string s, .slice ad ns.length cp, undef, undef, .int .u64 0, .pointer (some ⟨B, 0, none⟩), .int .u64 (x.1 : Nat), undef, undef, .string s, .func (.func 89) #[] #[.pointer (some ⟨B + 1, 0, none⟩)], .int .u64 (x.1 : Nat), undef, undef, undef, undef, undef, undef, undef, undef, undef, undef, undef, undef, undef, undef, undef, undef, undef, undef, undef, undef, undef, undef, undef, undef, undef], defers := [] }) ?assign ?body ?done ?stop
  case assign =>
    intro l x W K hK
    gi_wp2
    exact hK
  case body =>
    /-DEV-/
    rintro l pre x W ⟨hbx, hbl⟩ _
    have hd : 1 ≤ 3 - 1 - 1 := by omega
    have hlt := foldl_mix_lt (pre.map (·.1)) 0 (by omega)
    obtain ⟨y, hy⟩ : ∃ y, y = (pre.map (·.1)).foldl mixN 0 := ⟨_, rfl⟩
    rw [← hy] at hbx hlt
    have hc := hbx.cell
    have hf := hbx.frozen
    have HY := Lib.hid hy
    have HLT := Lib.hid hlt
    clear hy hlt
    gi_wp2_with (refine ⟨trivial, ?_⟩; gi_at_call 58; refine (CallsIn.inRound l (mix_in _ _ trivial rfl _ _ _ HLT.out x.2)).mono ?_; rintro e w' ⟨rfl, rfl⟩)
    refine ⟨KeepsOthers.setCell _ _ _, ⟨(Below.refl B W).setCell (p := ⟨B, 0, none⟩) (Nat.le_refl _) _, World.cell?_setCell_other W _ _ _ (by simp)⟩, ?_, hbl.setCell (p := ⟨B, 0, none⟩) (Nat.le_refl _) _⟩
    rw [List.map_append, List.foldl_append, ← HY.out, List.map_cons, List.map_nil, List.foldl_cons, List.foldl_nil]
    exact hbx.set _
    /-VED-/
  case done =>
    rintro D xs W hD rfl ⟨hbx, hbl⟩ hK
    rw [wordsU_val] at hbx
    obtain ⟨y0, hy0⟩ : ∃ y0, y0 = (wordsN s.data.toList).foldl mixN 0 := ⟨_, rfl⟩
    have hy0l : y0 < 18446744073709551616 := by rw [hy0]; exact foldl_mix_lt _ 0 (by omega)
    rw [← hy0] at hbx
    have hsz : (s.size : Int) ≤ 4611686018427387904 := by have := HS.out; omega
    have hnl : (ns.length : Int) ≤ 4611686018427387904 := by have := HN.out; omega
    obtain ⟨n0, hn0⟩ : ∃ n0, n0 = ns.length := ⟨_, rfl⟩
    rw [← hn0] at hnl ⊢
    have hw1 : IntKind.u64.wrap (s.size : Int) = (s.size : Nat) := wraps_u64 _ (by omega) (by omega)
    have hw2 : IntKind.u64.wrap (n0 : Int) = (n0 : Nat) := wraps_u64 _ (by omega) (by omega)
    have hlt1 : s.size < 18446744073709551616 := by omega
    have hlt2 : n0 < 18446744073709551616 := by omega
    have hc := hbx.cell
    have hf := hbx.frozen
    have hB2 := hbl.setCell (p := ⟨B, 0, none⟩) (Nat.le_refl _) (.int .u64 (mixN (mixN y0 s.size) n0 : Nat))
    have hbx2 := hbx.set (.int .u64 (mixN (mixN y0 s.size) n0 : Nat))
    have hK2 : (W.setCell ⟨B, 0, none⟩ (.int .u64 (mixN (mixN y0 s.size) n0 : Nat))).heap[D]? = some (.deferred (some [])) := (KeepsOthers.setCell _ _ _).same D _ hK rfl
    have H0 := Lib.hid hy0
    have HN0 := Lib.hid hn0
    have HK2 := Lib.hid hK2
    have HL0 := Lib.hid hy0l
    have HL1 := Lib.hid hlt1
    have HL2 := Lib.hid hlt2
    clear hy0 hy0l hlt1 hlt2 hn0 hbx hK hK2
    gi_wp2_with (refine ⟨trivial, ?_⟩; ((with_reducible refine (callsIn_wide.2 (mix_spec _ _ _ (by first | exact HL0.out | exact mixN_lt _ _) (by first | exact HL1.out | exact HL2.out))).mono ?_); rintro e w' ⟨rfl, rfl⟩))
    generalize W.setCell ⟨B, 0, none⟩ (.int .u64 (mixN (mixN y0 s.size) n0 : Nat)) = W2 at *
    obtain ⟨y2, hy2⟩ : ∃ y2, y2 = mixN (mixN y0 s.size) n0 := ⟨_, rfl⟩
    have hy2l : y2 < 18446744073709551616 := by rw [hy2]; exact mixN_lt _ _
    rw [← hy2] at hbx2 ⊢
    have HY2 := Lib.hid hy2
    have HY2L := Lib.hid hy2l
    clear hy2 hy2l hw1 hw2 hc hf
    gi_loopw [26] (fun iv wr => ∃ k : Nat, k ≤ n0 ∧ iv = .int .i64 k ∧ Boxed wr B 43 (.int .u64 ((((ns.map u64N).take k).foldl mixN y2 : Nat))) ∧ Below B w wr ∧ wr.heap[D]? = some (.deferred (some []))) (fun iv _ => n0 - (intOf iv).toNat)
    case atStart => exact ⟨0, Nat.zero_le _, rfl, by simpa using hbx2, hB2, HK2.out⟩
    case round =>
      clear hbx2 hB2
      obtain ⟨k, hk, rfl, hbx, hbl2, hK⟩ := hrel
      obtain ⟨y, hy⟩ : ∃ y, y = ((ns.map u64N).take k).foldl mixN y2 := ⟨_, rfl⟩
      have hyl : y < 18446744073709551616 := by rw [hy]; exact foldl_mix_lt _ _ HY2L.out
      rw [← hy] at hbx
      have hc := hbx.cell
      have hf := hbx.frozen
      have HY := Lib.hid hy
      have HYL := Lib.hid hyl
      have HK := Lib.hid hK
      clear hy hyl hK
      by_cases hlt : k < n0
      · have hltn : k < ns.length := by rw [← HN0.out]; exact hlt
        obtain ⟨b, o, rfl, hbn, hcells⟩ := HL.out (fun e => by rw [e] at hltn; simp at hltn)
        have hck : wr.cell? ⟨b, o + k, none⟩ = some (.int .i64 ns[k]) := (hbl2.cell (p := ⟨b, o + k, none⟩) (by rw [HB.out]; exact hbn)).trans (hcells k hltn)
        obtain ⟨z, hz⟩ : ∃ z, z = ns[k] := ⟨_, rfl⟩
        rw [← hz] at hck
        have hwz := u64N_wrap z
        have hzl := u64N_lt z
        have HZ := Lib.hid hz
        have HZL := Lib.hid hzl
        have hltI : (k : Int) < n0 := by omega
        clear hz hcells hzl
        gi_wp2_with (refine ⟨trivial, ?_⟩; ((with_reducible refine (callsIn_wide.2 (mix_spec _ _ _ (by exact HYL.out) (by exact HZL.out))).mono ?_); rintro e w' ⟨rfl, rfl⟩))
        go_roundw
        case rel =>
          refine ⟨k + 1, by omega, by go_num, ?_, hbl2.setCell (p := ⟨B, 0, none⟩) (Nat.le_refl _) _, (KeepsOthers.setCell _ _ _).same D _ HK.out rfl⟩
          have e : (ns.map u64N).take (k + 1) = (ns.map u64N).take k ++ [u64N z] := by
            rw [List.take_succ_eq_append_getElem (by rw [List.length_map, ← HN0.out]; exact hlt), List.getElem_map, ← HZ.out]
          rw [e, List.foldl_append, ← HY.out, List.foldl_cons, List.foldl_nil]
          exact hbx.set _
        case measure => simp [intOf]; omega
      · obtain rfl : k = n0 := by omega
        gi_wp2_with (refine ⟨trivial, ?_⟩; ((with_reducible refine (callsIn_wide.2 (mix0_spec y _ (by exact HYL.out))).mono ?_); rintro e w' ⟨rfl, rfl⟩))
        refine ⟨by simp, .inl ⟨_, _, rfl, run_takeDeferred HK.out, ?_⟩⟩
        refine ⟨_, results_tmp rfl _ _ _, ?_, ?_⟩
        · refine ret_int ?_
          rw [sumN, sumU, List.length_map, ← H0.out, ← HN0.out, show s.data.toList.length = s.size by simp, ← HY2.out]
          rw [HY.out, List.take_of_length_le (by rw [List.length_map, ← HN0.out]; exact Nat.le_refl _)]
        · rw [← HB.out]
          exact hbl2.trans (belowK_b (w := w) (by rw [HB.out]; exact Nat.le_refl _) wr D _ _ (by have := HB.out; omega) HK.out rfl rfl)
  case stop =>
    rintro D c pre W _ _ h _
    exact h.elim
end Go.Proofs.YtcmjbjlliehdiaaDoor
