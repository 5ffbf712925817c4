/- maps.Keys of a map keyed by ints, and its sorted keys. -/
import Derived.Test.YtfapiopnjllnnaaGreatDoorSo
import Derived.Test.YtfapiopnjllnnaaGreatDoorBm
import Derived.Test.YtfapiopnjllnnaaGreatDoorGTitleChain12
import Derived.Test.YtfapiopnjllnnaaGreatDoorGTitleChainST7
namespace Go.Proofs.YtfapiopnjllnnaaGreatDoor
open Go.RowKit PA
attribute [local go_sem] Oper.semAt_some
set_option maxRecDepth 100000 in
set_option maxHeartbeats 2000000 in
theorem keys1_gives {W : World} {A : Assn} (n : Nat) (hn : 1 ≤ n) (Bs b : Nat) (f : Int → Option Value) (nf : Nat) :
    Gives Fence.wide n Tryz.prog W 82 #[.pointer (some ⟨Bs, 0, none⟩)] encI1 noA nf (fun xs => xs.Nodup ∧ ∀ k, k ∈ xs ↔ (f k).isSome = true)
      (sep (blk Bs (.cells #[.map (some b)] 88 (0, 0))) (sep (bmap b f nf) A)) (sep (bmap b f nf) A) := by
  intro lp R w hY h0
  have HY := Lib.hid hY
  clear hY
  have c0 : w.cell? ⟨Bs, 0, none⟩ = some (.map (some b)) := h0.p1.cell 0
  obtain ⟨w1, hrun, h1⟩ := run_range_bmap (P := Tryz.prog) Tryz.underlying88 h0.p2
  obtain ⟨r, hr⟩ : ∃ r, r = w.heap.size := ⟨_, rfl⟩
  rw [← hr] at hrun h1
  have h2 : Sat W w1 (sep (R []) (sep (rng b r f nf (fun k => (f k).isSome) nf) A)) := by
    have := h1.p2.drop
    simpa only [sep_comm, sep_lcomm, sep_assoc] using this
  clear h0 h1 hr
  refine callsIn_of_wp Tryz.func82 rfl trivial ?_ rfl
  simp only [Tryz.ntmps82, List.size_toArray, List.length_cons, List.length_nil, Nat.reduceAdd, Nat.reduceSub, Array.replicate_succ, Array.replicate_zero, List.push_toArray, List.append_toArray, List.nil_append, List.cons_append]
  gi_wp2_with fail
  gi_loopw [] (fun wr => ∃ (pre : List Int) (cnt : Nat) (lf : Int → Bool), pre.Nodup ∧ (∀ k, k ∈ pre ↔ (f k).isSome = true ∧ lf k = false) ∧ (∀ k, lf k = true → (f k).isSome = true) ∧ pre.length + cnt ≤ nf ∧ Sat W wr (sep (R pre) (sep (rng b r f nf lf cnt) A))) (fun wr => wr.rangeLeft b r)
  case atStart => exact ⟨[], nf, _, List.nodup_nil, fun k => ⟨fun h => (by cases h), fun h => (by rw [h.1] at h; exact absurd h.2 (by decide))⟩, fun k hk => hk, by simp, h2⟩
  case round =>
    clear h2 hrun c0
    obtain ⟨pre, cnt, lf, hnd, hmem, hlf, hlen, hS⟩ := hrel
    have hcnt := hS.p1.rng_left
    rcases run_next_rng (P := Tryz.prog) 0 hS.p1 with ⟨hno, hrun⟩ | ⟨k, v, w2, cnt2, hlk, hfk, hlt, hrun, hen, hS2⟩
    · have HH := Lib.hid (And.intro hnd (And.intro hmem hno))
      clear hnd hmem hlf hlen hcnt hno
      gi_wp2_with fail
      go_end0
      refine ⟨⟨_, rfl⟩, pre, ⟨HH.out.1, fun k => ?_⟩, ?_⟩
      · rw [HH.out.2.1 k, HH.out.2.2 k]; simp
      · have := hS.p1.rng_end
        exact this.p1
    · have hx : Sat W w2 (sep (R pre) (sep (noA k) (sep (rng b r f nf (fun z => lf z && z != k) cnt2) A))) := by
        show Sat W w2 (sep (R pre) (sep emp (sep (rng b r f nf (fun z => lf z && z != k) cnt2) A)))
        rw [emp_sep]
        exact hS2.p1
      obtain ⟨fn, tmps, assign, body, hy, hR⟩ := HY.out pre k w2 _ (by omega) hx
      dsimp only [encI1] at hy
      have HH := Lib.hid (And.intro hnd (And.intro hmem (And.intro hlf (And.intro hlen (And.intro hcnt (And.intro hlt hlk))))))
      clear hnd hmem hlf hlen hcnt hlt hlk hfk hS hS2 hx
      gi_wp2_with fail
      refine hR.mono ?_
      rintro e' w5 ⟨rfl, h9⟩
      clear hR hy hrun hen
      obtain ⟨q1, q2, q3, q4, q5, q6, q7⟩ := HH.out
      gi_wp2_with fail
      go_roundw
      case rel =>
        refine ⟨pre ++ [k], cnt2, _, ?_, fun z => ?_, fun z hz => ?_, ?_, h9⟩
        · refine List.nodup_append.2 ⟨q1, by simp, fun x hx y hy => ?_⟩
          rw [List.mem_singleton.1 hy]
          intro e
          subst e
          have := ((q2 x).1 hx).2
          rw [q7] at this; cases this
        · by_cases hzk : z = k
          · subst hzk
            simp [q3 z q7]
          · have : (z != k) = true := by simp [hzk]
            rw [List.mem_append, List.mem_singleton, this, Bool.and_true, ← q2 z]
            simp [hzk]
        · simp at hz
          exact q3 z hz.1
        · rw [List.length_append, List.length_singleton]; omega
      case measure => rw [h9.p1.rng_left, q5]; exact q6
theorem keys_in (n : Nat) (b : Nat) (w : World) :
    CallsIn Fence.wide n Tryz.prog 60 #[.map (some b)] w fun e w' => e = .returned (.func (.func 82) #[] #[.pointer (some ⟨w.heap.size, 0, none⟩)]) ∧ w' = w.alloc (.cells #[.map (some b)] 88) := by
  refine callsIn_of_wp Tryz.func60 rfl trivial ?_ rfl
  simp only [Tryz.ntmps60, List.size_toArray, List.length_cons, List.length_nil, Nat.reduceAdd, Nat.reduceSub, Array.replicate_succ, Array.replicate_zero, List.push_toArray, List.append_toArray, List.nil_append, List.cons_append]
  gi_wp2_with fail
  go_ret
  exact ⟨rfl, rfl⟩
theorem keys_spec {W w : World} {A : Assn} (b : Nat) (f : Int → Option Value) (nf : Nat) (h : Sat W w (sep (bmap b f nf) A)) :
    Calls Tryz.prog 60 #[.map (some b)] w fun e w' => e = .returned (.func (.func 82) #[] #[.pointer (some ⟨w.heap.size, 0, none⟩)]) ∧ Sat W w' (sep (blk w.heap.size (.cells #[.map (some b)] 88 (0, 0))) (sep (bmap b f nf) A)) := by
  refine (callsIn_wide (n := 1)).1 ((keys_in 1 b w).mono ?_)
  rintro e w' ⟨rfl, rfl⟩
  exact ⟨rfl, h.alloc _⟩
theorem sortedKeys_spec {W w : World} {A : Assn} (Bs b : Nat) (f : Int → Option Value) (nf : Nat) (hN : nf ≤ 1000000000) (h : Sat W w (sep (blk Bs (.cells #[.map (some b)] 88 (0, 0))) (sep (bmap b f nf) A))) :
    Calls Tryz.prog 59 #[.func (.func 82) #[] #[.pointer (some ⟨Bs, 0, none⟩)]] w fun e w' => ∃ a c ks, e = .returned (.slice a ks.length c) ∧ KeysOf f ks ∧ ks.length ≤ nf ∧ Sat W w' (sep (osl 3 1 a ks.length c (ks.map iv)) (sep (bmap b f nf) A)) := by
  refine (callsIn_wide (n := 5)).1 ((sorted_in 5 nf 82 _ (by omega) hN (enters_of Tryz.func82 (by kernel_rfl) rfl) (keys1_gives (5 - 1 - 1 - 1) (by omega) Bs b f nf) h).mono ?_)
  rintro e w' ⟨a, c, xs, rfl, ⟨h1, h2⟩, h3, h4⟩
  obtain ⟨hk, hl⟩ := keysOf_sort h1 h2
  refine ⟨a, c, sortZ xs, by rw [hl], hk, by omega, ?_⟩
  rw [hl]
  exact h4
end Go.Proofs.YtfapiopnjllnnaaGreatDoor
/- Owned maps keyed by integers: how many keys there can be. Plain Lean, no program in sight. -/
namespace PA
open Go Go.RowKit
def keyZ (e : MapEntry) : Int := match e.key with | .int _ k => k | _ => 0
theorem nodup_range : ∀ (N : Nat) (l : List Int), l.Nodup → (∀ x ∈ l, 0 ≤ x ∧ x < N) → l.length ≤ N
  | 0, l, _, hr => by
    cases l with
    | nil => simp
    | cons x l => have := hr x (by simp); omega
  | N + 1, l, hn, hr => by
    by_cases hm : (N : Int) ∈ l
    · have ih := nodup_range N (l.erase (N : Int)) (hn.erase _) (fun x hx => by
        have h1 := (List.Nodup.mem_erase_iff hn).1 hx
        have h2 := hr x h1.2
        have h3 := h1.1
        omega)
      rw [List.length_erase_of_mem hm] at ih
      omega
    · have ih := nodup_range N l hn (fun x hx => by
        have h2 := hr x hx
        have h3 : x ≠ (N : Int) := fun e => hm (by rw [← e]; exact hx)
        omega)
      omega
theorem bmap_bound {W w : World} {A : Assn} {b : Nat} {f : Int → Option Value} {n : Nat} (N : Nat) (h : Sat W w (sep (bmap b f n) A)) (hf : ∀ k, (f k).isSome = true → 0 ≤ k ∧ k < N) : n ≤ N := by
  obtain ⟨es, clock, h1, h2, -, -⟩ := h.bmap_open
  have hk : ∀ e ∈ es.toList, e.key = .int .i64 (keyZ e) ∧ 0 ≤ keyZ e ∧ keyZ e < N := fun e he => by
    obtain ⟨k, hk⟩ := h1.keys e he
    have hz : keyZ e = k := by unfold keyZ; rw [hk]
    rw [hz]
    refine ⟨hk, hf k ?_⟩
    rw [h1.some_of_mem he hk]; rfl
  have := nodup_range N (es.toList.map keyZ) (by
    rw [List.Nodup, List.pairwise_map]
    refine List.Pairwise.imp_of_mem ?_ h1.nodup
    intro a b ha hb hne e
    exact hne (by rw [(hk a ha).1, (hk b hb).1, e])) (fun x hx => by
      obtain ⟨e, he, rfl⟩ := List.mem_map.1 hx
      exact (hk e he).2)
  rw [List.length_map, Array.length_toList] at this
  omega
end PA
/- Package title: keys, Owners. -/
namespace Go.Proofs.YtfapiopnjllnnaaGreatDoor
open Go.RowKit PA
/-- The owners of shares, by party. -/
structure OwnOf (S : Shs) (own : List (Int × Rt)) : Prop where
  asc : own.Pairwise fun a b => a.1 < b.1
  mem : ∀ p r, (p, r) ∈ own ↔ S p = some r ∧ 0 < r.n
def ownC (own : List (Int × Rt)) : List Value := own.flatMap fun o => [.int .i64 o.1, .int .i64 o.2.n, .int .i64 o.2.d]
def ownsP (S : Shs) (ks : List Int) : List (Int × Rt) := ks.filterMap fun p => match S p with | some r => if 0 < r.n then some (p, r) else none | none => none
theorem ownC_len (own : List (Int × Rt)) : (ownC own).length = own.length * 3 := by
  induction own with
  | nil => rfl
  | cons x xs ih => rw [ownC, List.flatMap_cons, List.length_append, ← ownC, ih, List.length_cons]; simp; omega
theorem ownsP_of {S : Shs} {ks : List Int} (h1 : ks.Pairwise (· < ·)) (h2 : ∀ k, k ∈ ks ↔ (S k).isSome = true) : OwnOf S (ownsP S ks) := by
  refine ⟨?_, fun p r => ?_⟩
  · unfold ownsP
    refine List.Pairwise.filterMap _ ?_ h1
    intro a a' hlt b hb b' hb'
    have e1 : b.1 = a := by
      cases e : S a with
      | none => simp [e] at hb
      | some r => simp only [e] at hb; split at hb <;> simp_all; rw [← hb]
    have e2 : b'.1 = a' := by
      cases e : S a' with
      | none => simp [e] at hb'
      | some r => simp only [e] at hb'; split at hb' <;> simp_all; rw [← hb']
    rw [e1, e2]; exact hlt
  · unfold ownsP
    rw [List.mem_filterMap]
    constructor
    · rintro ⟨a, ha, hm⟩
      cases e : S a with
      | none => simp [e] at hm
      | some r' =>
        simp only [e] at hm
        split at hm
        · rename_i hp
          cases hm
          exact ⟨e, hp⟩
        · cases hm
    · rintro ⟨e, hp⟩
      exact ⟨p, (h2 p).2 (by rw [e]; rfl), by simp [e, hp]⟩
/-- Owners are told by the shares. -/
theorem OwnOf.unique {S : Shs} : ∀ {a b : List (Int × Rt)}, OwnOf S a → OwnOf S b → a = b := by
  intro a b ha hb
  have key : ∀ {l m : List (Int × Rt)}, l.Pairwise (fun a b => a.1 < b.1) → m.Pairwise (fun a b => a.1 < b.1) → (∀ x, x ∈ l ↔ x ∈ m) → l = m := by
    intro l
    induction l with
    | nil => intro m _ _ h; cases m with
      | nil => rfl
      | cons x m => have := (h x).2 (by simp); simp at this
    | cons x l ih =>
      intro m h1 h2 h
      cases m with
      | nil => have := (h x).1 (by simp); simp at this
      | cons y m =>
        have a1 := List.pairwise_cons.1 h1
        have a2 := List.pairwise_cons.1 h2
        have hxy : x = y := by
          rcases List.mem_cons.1 ((h x).1 (by simp)) with e | e
          · exact e
          · rcases List.mem_cons.1 ((h y).2 (by simp)) with e' | e'
            · exact e'.symm
            · have := a1.1 y e'; have := a2.1 x e; omega
        subst hxy
        rw [ih a1.2 a2.2 fun z => ?_]
        constructor
        · intro hz
          rcases List.mem_cons.1 ((h z).1 (by simp [hz])) with e | e
          · have := a1.1 z hz; rw [e] at this; omega
          · exact e
        · intro hz
          rcases List.mem_cons.1 ((h z).2 (by simp [hz])) with e | e
          · have := a2.1 z hz; rw [e] at this; omega
          · exact e
  exact key ha.asc hb.asc fun ⟨p, r⟩ => by rw [ha.mem, hb.mem]
theorem tkeys_spec {W w : World} {A : Assn} (b : Nat) (f : Int → Option Value) (nf : Nat) (hN : nf ≤ 1000000000) (h : Sat W w (sep (bmap b f nf) A)) :
    Calls Tryz.prog 36 #[.map (some b)] w fun e w' => ∃ a c ks, e = .returned (.slice a ks.length c) ∧ KeysOf f ks ∧ ks.length ≤ nf ∧ Sat W w' (sep (osl 3 1 a ks.length c (ks.map iv)) (sep (bmap b f nf) A)) := by
  have hk := Lib.hid (keys_spec b f nf h)
  clear h
  go_enter Tryz.func36, Tryz.ntmps36
  go_wp2_with fail
  refine hk.out.mono ?_
  rintro e w2 ⟨rfl, h2⟩
  have hs := Lib.hid (sortedKeys_spec w.heap.size b f nf hN h2)
  clear h2
  go_wp2_with fail
  refine hs.out.mono ?_
  rintro e w3 ⟨a, c, ks, rfl, h3, h4, h5⟩
  have H := Lib.hid (And.intro h3 (And.intro h4 h5))
  clear h3 h4 h5
  go_wp2
  go_ret
  exact ⟨a, c, ks, rfl, H.out⟩
end Go.Proofs.YtfapiopnjllnnaaGreatDoor
