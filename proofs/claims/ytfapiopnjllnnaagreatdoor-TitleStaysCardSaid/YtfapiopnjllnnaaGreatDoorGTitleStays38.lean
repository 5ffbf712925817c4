/- maps.Keys of a map keyed by ints, and its sorted keys. -/
import Derived.Test.YtfapiopnjllnnaaGreatDoorSo
import Derived.Test.YtfapiopnjllnnaaGreatDoorBm
import Derived.Test.YtfapiopnjllnnaaGreatDoorGTitleStays13
namespace Go.Proofs.YtfapiopnjllnnaaGreatDoor
open Go.RowKit PA
attribute [local go_sem] Oper.semAt_some
set_option maxRecDepth 100000 in
set_option maxHeartbeats 2000000 in
theorem keys1_gives {W : World} {A : Assn} (n : Nat) (hn : 1 ≤ n) (Bs b : Nat) (f : Int → Option Value) (nf : Nat) :
    Gives Fence.wide n Tryz.prog W 82 #[.pointer (some ⟨Bs, 0, none⟩)] encI1 noA nf (fun xs => xs.Nodup ∧ ∀ k, k ∈ xs ↔ (f k).isSome = true)
      (sep (blk Bs (.cells #[.map (some b)] 88 (0, 0))) (sep (bmap b f nf) A)) (sep (bmap b f nf) A) := by
  intro lp R w hY h0
  have HY := Lib.hid hY
  clear hY
  have c0 : w.cell? ⟨Bs, 0, none⟩ = some (.map (some b)) := h0.p1.cell 0
  obtain ⟨w1, hrun, h1⟩ := run_range_bmap (P := Tryz.prog) Tryz.underlying88 h0.p2
  obtain ⟨r, hr⟩ : ∃ r, r = w.heap.size := ⟨_, rfl⟩
  rw [← hr] at hrun h1
  have h2 : Sat W w1 (sep (R []) (sep (rng b r f nf (fun k => (f k).isSome) nf) A)) := by
    have := h1.p2.drop
    simpa only [sep_comm, sep_lcomm, sep_assoc] using this
  clear h0 h1 hr
  refine callsIn_of_wp Tryz.func82 rfl trivial ?_ rfl
  simp only [Tryz.ntmps82, List.size_toArray, List.length_cons, List.length_nil, Nat.reduceAdd, Nat.reduceSub, Array.replicate_succ, Array.replicate_zero, List.push_toArray, List.append_toArray, List.nil_append, List.cons_append]
  gi_wp2_with fail
  gi_loopw [] (fun wr => ∃ (pre : List Int) (cnt : Nat) (lf : Int → Bool), pre.Nodup ∧ (∀ k, k ∈ pre ↔ (f k).isSome = true ∧ lf k = false) ∧ (∀ k, lf k = true → (f k).isSome = true) ∧ pre.length + cnt ≤ nf ∧ Sat W wr (sep (R pre) (sep (rng b r f nf lf cnt) A))) (fun wr => wr.rangeLeft b r)
  case atStart => exact ⟨[], nf, _, List.nodup_nil, fun k => ⟨fun h => (by cases h), fun h => (by rw [h.1] at h; exact absurd h.2 (by decide))⟩, fun k hk => hk, by simp, h2⟩
  case round =>
    clear h2 hrun c0
    obtain ⟨pre, cnt, lf, hnd, hmem, hlf, hlen, hS⟩ := hrel
    have hcnt := hS.p1.rng_left
    rcases run_next_rng (P := Tryz.prog) 0 hS.p1 with ⟨hno, hrun⟩ | ⟨k, v, w2, cnt2, hlk, hfk, hlt, hrun, hen, hS2⟩
    · have HH := Lib.hid (And.intro hnd (And.intro hmem hno))
      clear hnd hmem hlf hlen hcnt hno
      gi_wp2_with fail
      go_end0
      refine ⟨⟨_, rfl⟩, pre, ⟨HH.out.1, fun k => ?_⟩, ?_⟩
      · rw [HH.out.2.1 k, HH.out.2.2 k]; simp
      · have := hS.p1.rng_end
        exact this.p1
    · have hx : Sat W w2 (sep (R pre) (sep (noA k) (sep (rng b r f nf (fun z => lf z && z != k) cnt2) A))) := by
        show Sat W w2 (sep (R pre) (sep emp (sep (rng b r f nf (fun z => lf z && z != k) cnt2) A)))
        rw [emp_sep]
        exact hS2.p1
      obtain ⟨fn, tmps, assign, body, hy, hR⟩ := HY.out pre k w2 _ (by omega) hx
      dsimp only [encI1] at hy
      have HH := Lib.hid (And.intro hnd (And.intro hmem (And.intro hlf (And.intro hlen (And.intro hcnt (And.intro hlt hlk))))))
      clear hnd hmem hlf hlen hcnt hlt hlk hfk hS hS2 hx
      gi_wp2_with fail
      refine hR.mono ?_
      rintro e' w5 ⟨rfl, h9⟩
      clear hR hy hrun hen
      obtain ⟨q1, q2, q3, q4, q5, q6, q7⟩ := HH.out
      gi_wp2_with fail
      go_roundw
      case rel =>
        refine ⟨pre ++ [k], cnt2, _, ?_, fun z => ?_, fun z hz => ?_, ?_, h9⟩
        · refine List.nodup_append.2 ⟨q1, by simp, fun x hx y hy => ?_⟩
          rw [List.mem_singleton.1 hy]
          intro e
          subst e
          have := ((q2 x).1 hx).2
          rw [q7] at this; cases this
        · by_cases hzk : z = k
          · subst hzk
            simp [q3 z q7]
          · have : (z != k) = true := by simp [hzk]
            rw [List.mem_append, List.mem_singleton, this, Bool.and_true, ← q2 z]
            simp [hzk]
        · simp at hz
          exact q3 z hz.1
        · rw [List.length_append, List.length_singleton]; omega
      case measure => rw [h9.p1.rng_left, q5]; exact q6
theorem keys_in (n : Nat) (b : Nat) (w : World) :
    CallsIn Fence.wide n Tryz.prog 60 #[.map (some b)] w fun e w' => e = .returned (.func (.func 82) #[] #[.pointer (some ⟨w.heap.size, 0, none⟩)]) ∧ w' = w.alloc (.cells #[.map (some b)] 88) := by
  refine callsIn_of_wp Tryz.func60 rfl trivial ?_ rfl
  simp only [Tryz.ntmps60, List.size_toArray, List.length_cons, List.length_nil, Nat.reduceAdd, Nat.reduceSub, Array.replicate_succ, Array.replicate_zero, List.push_toArray, List.append_toArray, List.nil_append, List.cons_append]
  gi_wp2_with fail
  go_ret
  exact ⟨rfl, rfl⟩
theorem keys_spec {W w : World} {A : Assn} (b : Nat) (f : Int → Option Value) (nf : Nat) (h : Sat W w (sep (bmap b f nf) A)) :
    Calls Tryz.prog 60 #[.map (some b)] w fun e w' => e = .returned (.func (.func 82) #[] #[.pointer (some ⟨w.heap.size, 0, none⟩)]) ∧ Sat W w' (sep (blk w.heap.size (.cells #[.map (some b)] 88 (0, 0))) (sep (bmap b f nf) A)) := by
  refine (callsIn_wide (n := 1)).1 ((keys_in 1 b w).mono ?_)
  rintro e w' ⟨rfl, rfl⟩
  exact ⟨rfl, h.alloc _⟩
theorem sortedKeys_spec {W w : World} {A : Assn} (Bs b : Nat) (f : Int → Option Value) (nf : Nat) (hN : nf ≤ 1000000000) (h : Sat W w (sep (blk Bs (.cells #[.map (some b)] 88 (0, 0))) (sep (bmap b f nf) A))) :
    Calls Tryz.prog 59 #[.func (.func 82) #[] #[.pointer (some ⟨Bs, 0, none⟩)]] w fun e w' => ∃ a c ks, e = .returned (.slice a ks.length c) ∧ KeysOf f ks ∧ ks.length ≤ nf ∧ Sat W w' (sep (osl 3 1 a ks.length c (ks.map iv)) (sep (bmap b f nf) A)) := by
  refine (callsIn_wide (n := 5)).1 ((sorted_in 5 nf 82 _ (by omega) hN (enters_of Tryz.func82 (by kernel_rfl) rfl) (keys1_gives (5 - 1 - 1 - 1) (by omega) Bs b f nf) h).mono ?_)
  rintro e w' ⟨a, c, xs, rfl, ⟨h1, h2⟩, h3, h4⟩
  obtain ⟨hk, hl⟩ := keysOf_sort h1 h2
  refine ⟨a, c, sortZ xs, by rw [hl], hk, by omega, ?_⟩
  rw [hl]
  exact h4
end Go.Proofs.YtfapiopnjllnnaaGreatDoor
/- Owned maps keyed by integers: how many keys there can be. Plain Lean, no program in sight. -/
namespace PA
open Go Go.RowKit
def keyZ (e : MapEntry) : Int := match e.key with | .int _ k => k | _ => 0
theorem nodup_range : ∀ (N : Nat) (l : List Int), l.Nodup → (∀ x ∈ l, 0 ≤ x ∧ x < N) → l.length ≤ N
  | 0, l, _, hr => by
    cases l with
    | nil => simp
    | cons x l => have := hr x (by simp); omega
  | N + 1, l, hn, hr => by
    by_cases hm : (N : Int) ∈ l
    · have ih := nodup_range N (l.erase (N : Int)) (hn.erase _) (fun x hx => by
        have h1 := (List.Nodup.mem_erase_iff hn).1 hx
        have h2 := hr x h1.2
        have h3 := h1.1
        omega)
      rw [List.length_erase_of_mem hm] at ih
      omega
    · have ih := nodup_range N l hn (fun x hx => by
        have h2 := hr x hx
        have h3 : x ≠ (N : Int) := fun e => hm (by rw [← e]; exact hx)
        omega)
      omega
theorem bmap_bound {W w : World} {A : Assn} {b : Nat} {f : Int → Option Value} {n : Nat} (N : Nat) (h : Sat W w (sep (bmap b f n) A)) (hf : ∀ k, (f k).isSome = true → 0 ≤ k ∧ k < N) : n ≤ N := by
  obtain ⟨es, clock, h1, h2, -, -⟩ := h.bmap_open
  have hk : ∀ e ∈ es.toList, e.key = .int .i64 (keyZ e) ∧ 0 ≤ keyZ e ∧ keyZ e < N := fun e he => by
    obtain ⟨k, hk⟩ := h1.keys e he
    have hz : keyZ e = k := by unfold keyZ; rw [hk]
    rw [hz]
    refine ⟨hk, hf k ?_⟩
    rw [h1.some_of_mem he hk]; rfl
  have := nodup_range N (es.toList.map keyZ) (by
    rw [List.Nodup, List.pairwise_map]
    refine List.Pairwise.imp_of_mem ?_ h1.nodup
    intro a b ha hb hne e
    exact hne (by rw [(hk a ha).1, (hk b hb).1, e])) (fun x hx => by
      obtain ⟨e, he, rfl⟩ := List.mem_map.1 hx
      exact (hk e he).2)
  rw [List.length_map, Array.length_toList] at this
  omega
end PA
