/- Package disk: On, Copy, Files. -/
import Derived.Shelf.SlMaps.Clone
import Derived.Test.YtbniekblkbdidaaD4
import Derived.Test.YtbniekblkbdidaaKd
import Derived.Test.YtbniekblkbdidaaDp2
namespace Go.Proofs.Ytbniekblkbdidaa
open Go.RowKit PA
theorem don_spec {W w : World} {A : Assn} (p : Nat) (s : DSt) (h : Sat W w (sep (isDisk p s) A)) :
    Calls Try.prog 29 #[.pointer (some ⟨p, 0, none⟩)] w fun e w' => e = .returned (.bool (!s.off)) ∧ w' = w := by
  obtain ⟨b, f, nf, left, -, -, -, h0⟩ := isDisk_open h
  have c2 : w.cell? ⟨p, 2, none⟩ = some (.bool s.off) := h0.cell 2
  clear h h0
  go_enter Try.func29, Try.ntmps29
  go_wp2_with fail
  go_ret
  exact ⟨rfl, rfl⟩
set_option maxRecDepth 100000 in
set_option maxHeartbeats 2000000 in
theorem mapClone_spec (b : Nat) (es : Array MapEntry) (clock : Nat) (w : World) (hb : w.heap[b]? = some (.map es clock)) :
    Calls Try.prog 50 #[.map (some b)] w fun e w' => e = .returned (.map (some w.heap.size)) ∧ w' = w.alloc (.map es clock) := by
  have hq := fun w => run_eql_map_nil_sl (P := Try.prog) w 66 _ _ (some b) Try.underlying66
  go_enter Try.func50, Try.ntmps50
  go_wp2
  rw [run_callFunc_extern Try.func56 (by kernel_rfl) (by kernel_rfl) (by kernel_rfl) (e := Extern.MapsClone.clone) (by kernel_rfl), run_maps_clone_sl w 66 hb]
  simp only [Result.andThen]
  rw [Oper.upon_value]
  go_wp2
  rw [run_typeAssert_map_sl _ 66 20 _ _ _ Try.underlying66]
  simp only [Result.andThen]
  rw [Oper.upon_value]
  go_wp2
  go_ret
  exact ⟨rfl, rfl⟩
theorem Born.same {W w : World} {A : Assn} {b : Nat} {f : Int → Option Value} {n : Nat} {es : Array MapEntry} {clock : Nat} (h : Sat W w (sep (bmap b f n) A)) (hb : w.heap[b]? = some (.map es clock)) : Sat W (w.alloc (.map es clock)) (sep (bmap w.heap.size f n) (sep (bmap b f n) A)) := by
  obtain ⟨es', clock', h1, h2, h3, h4⟩ := h.bmap_open
  have e := h4.blk_heap
  rw [hb] at e
  simp only [Option.some.injEq, Obj.map.injEq] at e
  obtain ⟨rfl, rfl⟩ := e
  exact (h.alloc (.map es clock)).bmap_mk h1 h2 h3
theorem fok_map_len {W w : World} {A : Assn} {s : DSt} {b : Nat} {f : Int → Option Value} {nf : Nat} (hok : s.ok) (h : Sat W w (sep (bmap b f nf) (sep (fokA f s.fs) A))) : nf ≤ 64 := by
  obtain ⟨-, hf⟩ := h.p1.pers_heap
  obtain ⟨es, clock, h1, h2, -, -⟩ := h.bmap_open
  have hkeys : ∀ e ∈ es.toList, ∃ j : Nat, e.key = .int .i64 (j : Int) ∧ j < 64 := fun e he => by
    obtain ⟨k, hk⟩ := h1.keys e he
    obtain ⟨j, rfl, hne⟩ := hf k (by rw [h1.some_of_mem he hk]; rfl)
    exact ⟨j, hk, ok_lt hok hne⟩
  have hl : (es.toList.map fun e => match e.key with | .int _ n => n.toNat | _ => 0).length ≤ 64 := by
    refine nodup_below 64 _ ?_ ?_
    · rw [List.Nodup, List.pairwise_map]
      refine h1.nodup.imp_of_mem ?_
      intro x y hx hy hne he
      obtain ⟨j, hj, -⟩ := hkeys x hx
      obtain ⟨k, hk, -⟩ := hkeys y hy
      rw [hj, hk] at he
      simp only [Int.toNat_natCast] at he
      exact hne (by rw [hj, hk, he])
    · intro x hx
      obtain ⟨e, he, rfl⟩ := List.mem_map.1 hx
      obtain ⟨j, hj, hlt⟩ := hkeys e he
      rw [hj]
      simpa using hlt
  rw [List.length_map, Array.length_toList, h2] at hl
  exact hl
theorem filesD_keys {W w : World} {A : Assn} {s : DSt} {f : Int → Option Value} {ks : List Int} (hok : s.ok) (h : Sat W w (sep (fokA f s.fs) A)) (hk : KeysOf f ks) : ks = (filesD s.fs).map fun j : Nat => (j : Int) := by
  obtain ⟨hf1, hf2⟩ := h.pers_heap
  refine asc_unique hk.1 (filesD_iv s.fs) fun k => ?_
  rw [hk.2]
  constructor
  · intro hs
    obtain ⟨j, rfl, hne⟩ := hf2 k hs
    exact List.mem_map.2 ⟨j, mem_filesD.2 ⟨ok_lt hok hne, hne⟩, rfl⟩
  · intro hm
    obtain ⟨j, hj, rfl⟩ := List.mem_map.1 hm
    obtain ⟨a, c, e, -⟩ := hf1 j (mem_filesD.1 hj).2
    rw [e]; rfl
set_option maxHeartbeats 1000000 in
theorem dcopy_spec {W w : World} {A : Assn} (p : Nat) (s : DSt) (h : Sat W w (sep (isDisk p s) A)) :
    Calls Try.prog 30 #[.pointer (some ⟨p, 0, none⟩)] w fun e w' => ∃ q, e = .returned (.pointer (some ⟨q, 0, none⟩)) ∧ Sat W w' (sep (isDisk q s) (sep (isDisk p s) A)) := by
  obtain ⟨b, f, nf, left, hok, hpl, hl64, h0⟩ := isDisk_open h
  have c0 : w.cell? ⟨p, 0, none⟩ = some (.map (some b)) := h0.cell 0
  have c1 : w.cell? ⟨p, 1, none⟩ = some (.int .i64 (s.room : Nat)) := h0.cell 1
  have c2 : w.cell? ⟨p, 2, none⟩ = some (.bool s.off) := h0.cell 2
  have c3 : w.cell? ⟨p, 3, none⟩ = some (.bool s.plan.isSome) := h0.cell 3
  have c4 : w.cell? ⟨p, 4, none⟩ = some (.int .i64 left) := h0.cell 4
  have h1 := h0.alloc (.cells (diskC b s left) 68)
  obtain ⟨q, hq⟩ : ∃ q, q = w.heap.size := ⟨_, rfl⟩
  obtain ⟨w1, hw1⟩ : ∃ w1, w1 = w.alloc (.cells (diskC b s left) 68) := ⟨_, rfl⟩
  rw [← hq, ← hw1] at h1
  have k0 : w1.cell? ⟨p, 0, none⟩ = some (.map (some b)) := h1.p1.cell 0
  obtain ⟨es, clock, -, -, -, h4⟩ := h1.p2.bmap_open
  have hb := h4.blk_heap
  have hcl := mapClone_spec b es clock w1 hb
  have h5 := Born.same h1.p2 hb
  obtain ⟨b2, hb2⟩ : ∃ b2, b2 = w1.heap.size := ⟨_, rfl⟩
  obtain ⟨w2, hw2⟩ : ∃ w2, w2 = w1.alloc (.map es clock) := ⟨_, rfl⟩
  rw [← hb2, ← hw2] at h5
  rw [← hb2, ← hw2] at hcl
  have h5q := h5.p2
  have fz := h5q.unfrozen 0
  have cz : w2.cell? ⟨q, 0, none⟩ = some (.map (some b)) := h5q.cell 0
  have h6 := h5q.setCell 0 (.map (some b2))
  have hdup : Sat W (w2.setCell ⟨q, 0, none⟩ (.map (some b2))) (sep (fokA f s.fs) (sep (fokA f s.fs) (sep (blk q (.cells (diskC b2 s left) 68 (0, 0))) (sep (bmap b2 f nf) (sep (bmap b f nf) (sep (blk p (.cells (diskC b s left) 68 (0, 0))) A)))))) := (show Sat W _ (sep (fokA f s.fs) (sep (blk q (.cells (diskC b2 s left) 68 (0, 0))) (sep (bmap b2 f nf) (sep (bmap b f nf) (sep (blk p (.cells (diskC b s left) 68 (0, 0))) A))))) by simpa only [diskC, List.setIfInBounds_toArray, List.set_cons_zero, sep_comm, sep_lcomm, sep_assoc] using h6).dup
  have h7 := isDisk_mk (p := q) (s := s) (b := b2) (f := f) (n := nf) (left := left) hok hpl hl64 (show Sat W _ (sep (blk q (.cells (diskC b2 s left) 68 (0, 0))) (sep (bmap b2 f nf) (sep (fokA f s.fs) (sep (blk p (.cells (diskC b s left) 68 (0, 0))) (sep (bmap b f nf) (sep (fokA f s.fs) A)))))) by simpa only [sep_comm, sep_lcomm, sep_assoc] using hdup)
  have h8 := isDisk_mk (p := p) (s := s) (b := b) (f := f) (n := nf) (left := left) hok hpl hl64 (show Sat W _ (sep (blk p (.cells (diskC b s left) 68 (0, 0))) (sep (bmap b f nf) (sep (fokA f s.fs) (sep (isDisk q s) A)))) by simpa only [sep_comm, sep_lcomm, sep_assoc] using h7)
  have H8 := Lib.hid h8.p1
  have HCL := Lib.hid hcl
  have HW := Lib.hid (And.intro hq hw1)
  clear h h0 h1 h4 h5 h5q h6 hdup h7 h8 hcl hb hok hpl hl64 hq hw1 hb2 hw2
  go_enter Try.func30, Try.ntmps30
  go_upto_region 2 with (fail)
  change Code.wp _ _ _ _ (w.alloc (.cells (diskC b s left) 68))
  rw [← HW.out.1, ← HW.out.2]
  clear c0 c1 c2 c3 c4
  go_wp2_with fail
  refine HCL.out.mono ?_
  rintro e w3 ⟨rfl, rfl⟩
  go_wp2_with fail
  go_ret
  exact ⟨_, rfl, H8.out⟩
set_option maxHeartbeats 1000000 in
theorem dfiles_spec {W w : World} {A : Assn} (p : Nat) (s : DSt) (h : Sat W w (sep (isDisk p s) A)) :
    Calls Try.prog 41 #[.pointer (some ⟨p, 0, none⟩)] w fun e w' => ∃ a c, e = .returned (.slice a (filesD s.fs).length c) ∧ Sat W w' (sep (osl 3 1 a (filesD s.fs).length c ((filesD s.fs).map fun j : Nat => iv j)) (sep (isDisk p s) A)) := by
  obtain ⟨b, f, nf, left, hok, hpl, hl64, h0⟩ := isDisk_open h
  have hnf := fok_map_len hok h0.drop
  have c0 : w.cell? ⟨p, 0, none⟩ = some (.map (some b)) := h0.cell 0
  have hks := keys_spec b f nf h0.p1
  have HKS := Lib.hid hks
  have HH := Lib.hid (And.intro hok (And.intro hpl hl64))
  obtain ⟨g, hg⟩ : ∃ g, g = w.heap.size := ⟨_, rfl⟩
  rw [← hg] at HKS
  clear hks hok hpl hl64 h0 h hg
  go_enter Try.func41, Try.ntmps41
  go_wp2_with fail
  refine HKS.out.mono ?_
  rintro e w1 ⟨rfl, h1⟩
  clear HKS c0
  have hso := sortedKeys_spec g b f nf (by omega) h1
  have HSO := Lib.hid hso
  clear hso h1 hnf
  go_wp2_with fail
  refine HSO.out.mono ?_
  rintro e w2 ⟨a, c, ks, rfl, hk, -, h2⟩
  have he := filesD_keys HH.out.1 h2.p3 hk
  obtain ⟨n, hn⟩ : ∃ n, n = ks.length := ⟨_, rfl⟩
  have hn2 : n = (filesD s.fs).length := by rw [hn, he, List.length_map]
  have hvs : ks.map iv = (filesD s.fs).map fun j : Nat => iv j := by rw [he, List.map_map]; rfl
  rw [hvs, ← hn] at h2
  rw [← hn]
  have HN2 := Lib.hid hn2
  have H2 := Lib.hid h2
  clear HSO hk he hn hn2 hvs h2
  go_wp2_with fail
  go_ret
  refine ⟨a, c, by rw [← HN2.out]; rfl, ?_⟩
  rw [← HN2.out]
  have h3 : Sat W w2 (sep (blk p (.cells (diskC b s left) 68 (0, 0))) (sep (bmap b f nf) (sep (fokA f s.fs) (sep (osl 3 1 a n c ((filesD s.fs).map fun j : Nat => iv j)) A)))) := by
    have := H2.out
    simpa only [sep_comm, sep_lcomm, sep_assoc] using this
  exact (isDisk_mk (b := b) (f := f) (n := nf) (left := left) HH.out.1 HH.out.2.1 HH.out.2.2 h3).p1
end Go.Proofs.Ytbniekblkbdidaa
