/- maps.Keys of a map keyed by ints, and its sorted keys. -/
import Derived.Test.YtdaknmcmjnbfeaaGJournalApartSSo
import Derived.Test.YtdaknmcmjnbfeaaBm
import Derived.Shelf.SlMaps.Clone
import Derived.Test.YtdaknmcmjnbfeaaGJournalApartSD4
import Derived.Test.YtdaknmcmjnbfeaaGJournalApart38
import Derived.Test.YtdaknmcmjnbfeaaGJournalApart36
namespace Go.Proofs.Ytdaknmcmjnbfeaa
open Go.RowKit PA
attribute [local go_sem] Oper.semAt_some
set_option maxRecDepth 100000 in
set_option maxHeartbeats 2000000 in
theorem keys1_gives {W : World} {A : Assn} (n : Nat) (hn : 1 ≤ n) (Bs b : Nat) (f : Int → Option Value) (nf : Nat) :
    Gives Fence.wide n Try.prog W 85 #[.pointer (some ⟨Bs, 0, none⟩)] encI1 noA nf (fun xs => xs.Nodup ∧ ∀ k, k ∈ xs ↔ (f k).isSome = true)
      (sep (blk Bs (.cells #[.map (some b)] 90 (0, 0))) (sep (bmap b f nf) A)) (sep (bmap b f nf) A) := by
  intro lp R w hY h0
  have HY := Lib.hid hY
  clear hY
  have c0 : w.cell? ⟨Bs, 0, none⟩ = some (.map (some b)) := h0.p1.cell 0
  obtain ⟨w1, hrun, h1⟩ := run_range_bmap (P := Try.prog) Try.underlying90 h0.p2
  obtain ⟨r, hr⟩ : ∃ r, r = w.heap.size := ⟨_, rfl⟩
  rw [← hr] at hrun h1
  have h2 : Sat W w1 (sep (R []) (sep (rng b r f nf (fun k => (f k).isSome) nf) A)) := by
    have := h1.p2.drop
    simpa only [sep_comm, sep_lcomm, sep_assoc] using this
  clear h0 h1 hr
  refine callsIn_of_wp Try.func85 rfl trivial ?_ rfl
  simp only [Try.ntmps85, List.size_toArray, List.length_cons, List.length_nil, Nat.reduceAdd, Nat.reduceSub, Array.replicate_succ, Array.replicate_zero, List.push_toArray, List.append_toArray, List.nil_append, List.cons_append]
  gi_wp2_with fail
  gi_loopw [] (fun wr => ∃ (pre : List Int) (cnt : Nat) (lf : Int → Bool), pre.Nodup ∧ (∀ k, k ∈ pre ↔ (f k).isSome = true ∧ lf k = false) ∧ (∀ k, lf k = true → (f k).isSome = true) ∧ pre.length + cnt ≤ nf ∧ Sat W wr (sep (R pre) (sep (rng b r f nf lf cnt) A))) (fun wr => wr.rangeLeft b r)
  case atStart => exact ⟨[], nf, _, List.nodup_nil, fun k => ⟨fun h => (by cases h), fun h => (by rw [h.1] at h; exact absurd h.2 (by decide))⟩, fun k hk => hk, by simp, h2⟩
  case round =>
    clear h2 hrun c0
    obtain ⟨pre, cnt, lf, hnd, hmem, hlf, hlen, hS⟩ := hrel
    have hcnt := hS.p1.rng_left
    rcases run_next_rng (P := Try.prog) 0 hS.p1 with ⟨hno, hrun⟩ | ⟨k, v, w2, cnt2, hlk, hfk, hlt, hrun, hen, hS2⟩
    · have HH := Lib.hid (And.intro hnd (And.intro hmem hno))
      clear hnd hmem hlf hlen hcnt hno
      gi_wp2_with fail
      go_end0
      refine ⟨⟨_, rfl⟩, pre, ⟨HH.out.1, fun k => ?_⟩, ?_⟩
      · rw [HH.out.2.1 k, HH.out.2.2 k]; simp
      · have := hS.p1.rng_end
        exact this.p1
    · have hx : Sat W w2 (sep (R pre) (sep (noA k) (sep (rng b r f nf (fun z => lf z && z != k) cnt2) A))) := by
        show Sat W w2 (sep (R pre) (sep emp (sep (rng b r f nf (fun z => lf z && z != k) cnt2) A)))
        rw [emp_sep]
        exact hS2.p1
      obtain ⟨fn, tmps, assign, body, hy, hR⟩ := HY.out pre k w2 _ (by omega) hx
      dsimp only [encI1] at hy
      have HH := Lib.hid (And.intro hnd (And.intro hmem (And.intro hlf (And.intro hlen (And.intro hcnt (And.intro hlt hlk))))))
      clear hnd hmem hlf hlen hcnt hlt hlk hfk hS hS2 hx
      gi_wp2_with fail
      refine hR.mono ?_
      rintro e' w5 ⟨rfl, h9⟩
      clear hR hy hrun hen
      obtain ⟨q1, q2, q3, q4, q5, q6, q7⟩ := HH.out
      gi_wp2_with fail
      go_roundw
      case rel =>
        refine ⟨pre ++ [k], cnt2, _, ?_, fun z => ?_, fun z hz => ?_, ?_, h9⟩
        · refine List.nodup_append.2 ⟨q1, by simp, fun x hx y hy => ?_⟩
          rw [List.mem_singleton.1 hy]
          intro e
          subst e
          have := ((q2 x).1 hx).2
          rw [q7] at this; cases this
        · by_cases hzk : z = k
          · subst hzk
            simp [q3 z q7]
          · have : (z != k) = true := by simp [hzk]
            rw [List.mem_append, List.mem_singleton, this, Bool.and_true, ← q2 z]
            simp [hzk]
        · simp at hz
          exact q3 z hz.1
        · rw [List.length_append, List.length_singleton]; omega
      case measure => rw [h9.p1.rng_left, q5]; exact q6
theorem keys_in (n : Nat) (b : Nat) (w : World) :
    CallsIn Fence.wide n Try.prog 74 #[.map (some b)] w fun e w' => e = .returned (.func (.func 85) #[] #[.pointer (some ⟨w.heap.size, 0, none⟩)]) ∧ w' = w.alloc (.cells #[.map (some b)] 90) := by
  refine callsIn_of_wp Try.func74 rfl trivial ?_ rfl
  simp only [Try.ntmps74, List.size_toArray, List.length_cons, List.length_nil, Nat.reduceAdd, Nat.reduceSub, Array.replicate_succ, Array.replicate_zero, List.push_toArray, List.append_toArray, List.nil_append, List.cons_append]
  gi_wp2_with fail
  go_ret
  exact ⟨rfl, rfl⟩
theorem keys_spec {W w : World} {A : Assn} (b : Nat) (f : Int → Option Value) (nf : Nat) (h : Sat W w (sep (bmap b f nf) A)) :
    Calls Try.prog 74 #[.map (some b)] w fun e w' => e = .returned (.func (.func 85) #[] #[.pointer (some ⟨w.heap.size, 0, none⟩)]) ∧ Sat W w' (sep (blk w.heap.size (.cells #[.map (some b)] 90 (0, 0))) (sep (bmap b f nf) A)) := by
  refine (callsIn_wide (n := 1)).1 ((keys_in 1 b w).mono ?_)
  rintro e w' ⟨rfl, rfl⟩
  exact ⟨rfl, h.alloc _⟩
theorem sortedKeys_spec {W w : World} {A : Assn} (Bs b : Nat) (f : Int → Option Value) (nf : Nat) (hN : nf ≤ 1000000000) (h : Sat W w (sep (blk Bs (.cells #[.map (some b)] 90 (0, 0))) (sep (bmap b f nf) A))) :
    Calls Try.prog 73 #[.func (.func 85) #[] #[.pointer (some ⟨Bs, 0, none⟩)]] w fun e w' => ∃ a c ks, e = .returned (.slice a ks.length c) ∧ KeysOf f ks ∧ ks.length ≤ nf ∧ Sat W w' (sep (osl 3 1 a ks.length c (ks.map iv)) (sep (bmap b f nf) A)) := by
  refine (callsIn_wide (n := 5)).1 ((sorted_in 5 nf 85 _ (by omega) hN (enters_of Try.func85 (by kernel_rfl) rfl) (keys1_gives (5 - 1 - 1 - 1) (by omega) Bs b f nf) h).mono ?_)
  rintro e w' ⟨a, c, xs, rfl, ⟨h1, h2⟩, h3, h4⟩
  obtain ⟨hk, hl⟩ := keysOf_sort h1 h2
  refine ⟨a, c, sortZ xs, by rw [hl], hk, by omega, ?_⟩
  rw [hl]
  exact h4
end Go.Proofs.Ytdaknmcmjnbfeaa
/- Package disk: On, Copy, Files. -/
namespace Go.Proofs.Ytdaknmcmjnbfeaa
open Go.RowKit PA
theorem Born.same {W w : World} {A : Assn} {b : Nat} {f : Int → Option Value} {n : Nat} {es : Array MapEntry} {clock : Nat} (h : Sat W w (sep (bmap b f n) A)) (hb : w.heap[b]? = some (.map es clock)) : Sat W (w.alloc (.map es clock)) (sep (bmap w.heap.size f n) (sep (bmap b f n) A)) := by
  obtain ⟨es', clock', h1, h2, h3, h4⟩ := h.bmap_open
  have e := h4.blk_heap
  rw [hb] at e
  simp only [Option.some.injEq, Obj.map.injEq] at e
  obtain ⟨rfl, rfl⟩ := e
  exact (h.alloc (.map es clock)).bmap_mk h1 h2 h3
theorem fok_map_len {W w : World} {A : Assn} {s : DSt} {b : Nat} {f : Int → Option Value} {nf : Nat} (hok : s.ok) (h : Sat W w (sep (bmap b f nf) (sep (fokA f s.fs) A))) : nf ≤ 64 := by
  obtain ⟨-, hf⟩ := h.p1.pers_heap
  obtain ⟨es, clock, h1, h2, -, -⟩ := h.bmap_open
  have hkeys : ∀ e ∈ es.toList, ∃ j : Nat, e.key = .int .i64 (j : Int) ∧ j < 64 := fun e he => by
    obtain ⟨k, hk⟩ := h1.keys e he
    obtain ⟨j, rfl, hne⟩ := hf k (by rw [h1.some_of_mem he hk]; rfl)
    exact ⟨j, hk, ok_lt hok hne⟩
  have hl : (es.toList.map fun e => match e.key with | .int _ n => n.toNat | _ => 0).length ≤ 64 := by
    refine nodup_below 64 _ ?_ ?_
    · rw [List.Nodup, List.pairwise_map]
      refine h1.nodup.imp_of_mem ?_
      intro x y hx hy hne he
      obtain ⟨j, hj, -⟩ := hkeys x hx
      obtain ⟨k, hk, -⟩ := hkeys y hy
      rw [hj, hk] at he
      simp only [Int.toNat_natCast] at he
      exact hne (by rw [hj, hk, he])
    · intro x hx
      obtain ⟨e, he, rfl⟩ := List.mem_map.1 hx
      obtain ⟨j, hj, hlt⟩ := hkeys e he
      rw [hj]
      simpa using hlt
  rw [List.length_map, Array.length_toList, h2] at hl
  exact hl
theorem filesD_keys {W w : World} {A : Assn} {s : DSt} {f : Int → Option Value} {ks : List Int} (hok : s.ok) (h : Sat W w (sep (fokA f s.fs) A)) (hk : KeysOf f ks) : ks = (filesD s.fs).map fun j : Nat => (j : Int) := by
  obtain ⟨hf1, hf2⟩ := h.pers_heap
  refine asc_unique hk.1 (filesD_iv s.fs) fun k => ?_
  rw [hk.2]
  constructor
  · intro hs
    obtain ⟨j, rfl, hne⟩ := hf2 k hs
    exact List.mem_map.2 ⟨j, mem_filesD.2 ⟨ok_lt hok hne, hne⟩, rfl⟩
  · intro hm
    obtain ⟨j, hj, rfl⟩ := List.mem_map.1 hm
    obtain ⟨a, c, e, -⟩ := hf1 j (mem_filesD.1 hj).2
    rw [e]; rfl
set_option maxHeartbeats 1000000 in
theorem dfiles_spec {W w : World} {A : Assn} (p : Nat) (s : DSt) (h : Sat W w (sep (isDisk p s) A)) :
    Calls Try.prog 57 #[.pointer (some ⟨p, 0, none⟩)] w fun e w' => ∃ a c, e = .returned (.slice a (filesD s.fs).length c) ∧ Sat W w' (sep (osl 3 1 a (filesD s.fs).length c ((filesD s.fs).map fun j : Nat => iv j)) (sep (isDisk p s) A)) := by
  obtain ⟨b, f, nf, left, hok, hpl, hl64, h0⟩ := isDisk_open h
  have hnf := fok_map_len hok h0.drop
  have c0 : w.cell? ⟨p, 0, none⟩ = some (.map (some b)) := h0.cell 0
  have hks := keys_spec b f nf h0.p1
  have HKS := Lib.hid hks
  have HH := Lib.hid (And.intro hok (And.intro hpl hl64))
  obtain ⟨g, hg⟩ : ∃ g, g = w.heap.size := ⟨_, rfl⟩
  rw [← hg] at HKS
  clear hks hok hpl hl64 h0 h hg
  go_enter Try.func57, Try.ntmps57
  go_wp2_with fail
  refine HKS.out.mono ?_
  rintro e w1 ⟨rfl, h1⟩
  clear HKS c0
  have hso := sortedKeys_spec g b f nf (by omega) h1
  have HSO := Lib.hid hso
  clear hso h1 hnf
  go_wp2_with fail
  refine HSO.out.mono ?_
  rintro e w2 ⟨a, c, ks, rfl, hk, -, h2⟩
  have he := filesD_keys HH.out.1 h2.p3 hk
  obtain ⟨n, hn⟩ : ∃ n, n = ks.length := ⟨_, rfl⟩
  have hn2 : n = (filesD s.fs).length := by rw [hn, he, List.length_map]
  have hvs : ks.map iv = (filesD s.fs).map fun j : Nat => iv j := by rw [he, List.map_map]; rfl
  rw [hvs, ← hn] at h2
  rw [← hn]
  have HN2 := Lib.hid hn2
  have H2 := Lib.hid h2
  clear HSO hk he hn hn2 hvs h2
  go_wp2_with fail
  go_ret
  refine ⟨a, c, by rw [← HN2.out]; rfl, ?_⟩
  rw [← HN2.out]
  have h3 : Sat W w2 (sep (blk p (.cells (diskC b s left) 92 (0, 0))) (sep (bmap b f nf) (sep (fokA f s.fs) (sep (osl 3 1 a n c ((filesD s.fs).map fun j : Nat => iv j)) A)))) := by
    have := H2.out
    simpa only [sep_comm, sep_lcomm, sep_assoc] using this
  exact (isDisk_mk (b := b) (f := f) (n := nf) (left := left) HH.out.1 HH.out.2.1 HH.out.2.2 h3).p1
end Go.Proofs.Ytdaknmcmjnbfeaa
/- Package disk: Rot. -/
namespace Go.Proofs.Ytdaknmcmjnbfeaa
open Go.RowKit PA
theorem xor_u8 (a b : Nat) (ha : a < 256) (hb : b < 256) : bits .xor .u8 (a : Int) (b : Int) = ((a ^^^ b : Nat) : Int) ∧ a ^^^ b < 256 := by
  have hx : a ^^^ b < 256 := Nat.xor_lt_two_pow (n := 8) ha hb
  refine ⟨?_, hx⟩
  show IntKind.u8.wrap ((BitVec.ofInt 8 (a : Int) ^^^ BitVec.ofInt 8 (b : Int)).toNat : Int) = _
  rw [BitVec.toNat_xor, BitVec.ofInt_natCast, BitVec.ofInt_natCast, BitVec.toNat_ofNat, BitVec.toNat_ofNat, Nat.mod_eq_of_lt (by simpa using ha), Nat.mod_eq_of_lt (by simpa using hb)]
  exact wraps_u8 _ (by omega) (by have : a ^^^ b < 2 ^ 8 := hx
                                  exact_mod_cast this)
/-- What the code makes of a byte whose bit k is inverted. -/
theorem flip_val (x : UInt8) (k : Nat) : bits .xor .u8 (x.toNat : Int) (IntKind.u8.wrap ((2 : Int) ^ (7 - k))) = ((flipB x k).toNat : Int) := by
  have h1 : 2 ^ (7 - k) < 2 ^ 8 := Nat.pow_lt_pow_right (by omega) (by omega)
  have h2 : IntKind.u8.wrap ((2 : Int) ^ (7 - k)) = ((2 ^ (7 - k) : Nat) : Int) := by
    have : ((2 ^ (7 - k) : Nat) : Int) = (2 : Int) ^ (7 - k) := by push_cast; rfl
    rw [← this]
    exact wraps_u8 _ (Int.natCast_nonneg _) (by have := Int.ofNat_lt.2 (show 2 ^ (7 - k) < 256 from h1); simpa using this)
  rw [h2, (xor_u8 _ _ x.toNat_lt h1).1, flipB_toNat]
end Go.Proofs.Ytdaknmcmjnbfeaa
