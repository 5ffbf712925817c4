/- Package authmap: what a map holds; New, of. -/
import Derived.Test.YtcmjbjlliehdiaaDoorGAuthmapSound9
namespace PA
open Go Go.RowKit
def nkeys (M : KVs) : Nat := (List.range 4096).countP fun i : Nat => (M (i : Int)).isSome
theorem countP_upd {p q : Nat → Bool} {k : Nat} : ∀ (l : List Nat), l.Nodup → (∀ i, i ≠ k → q i = p i) → p k = false → q k = true → l.countP q = l.countP p + (if k ∈ l then 1 else 0)
  | [], _, _, _, _ => rfl
  | x :: l, hn, he, h1, h2 => by
    obtain ⟨hx, hn⟩ := List.nodup_cons.1 hn
    have ih := countP_upd l hn he h1 h2
    rw [List.countP_cons, List.countP_cons, ih]
    by_cases e : x = k
    · subst e
      rw [if_neg hx, h1, h2]
      simp
    · rw [he x e]
      have : (k ∈ x :: l) ↔ k ∈ l := by
        rw [List.mem_cons]; exact ⟨fun h => h.resolve_left (fun h => e h.symm), .inr⟩
      simp only [this]
      omega
theorem nkeys_new {M : KVs} {k : Int} (v : List UInt8) (h1 : 0 ≤ k) (h2 : k ≤ 4095) (h : M k = none) : nkeys (fset M k (some v)) = nkeys M + 1 := by
  unfold nkeys
  obtain ⟨n, rfl⟩ : ∃ n : Nat, k = n := ⟨k.toNat, by omega⟩
  rw [countP_upd (k := n) (p := fun i : Nat => (M (i : Int)).isSome) (List.range 4096) List.nodup_range (fun i hi => ?_) (by simp [h]) (by simp [fset]), if_pos (by simp; omega)]
  simp only [fset]
  rw [if_neg (by omega)]
theorem nkeys_old {M : KVs} {k : Int} (v : List UInt8) (h : (M k).isSome = true) : nkeys (fset M k (some v)) = nkeys M := by
  unfold nkeys
  congr 1
  funext i
  unfold fset
  split
  · rename_i e; rw [e, h]; rfl
  · rfl
theorem nkeys_del {M : KVs} {k : Int} (h1 : 0 ≤ k) (h2 : k ≤ 4095) (h : (M k).isSome = true) : nkeys (fset M k none) + 1 = nkeys M := by
  obtain ⟨v, hv⟩ := Option.isSome_iff_exists.1 h
  have := nkeys_new (M := fset M k none) v h1 h2 (by simp [fset])
  rw [← this]
  have e : fset (fset M k none) k (some v) = M := by
    funext j
    unfold fset
    split
    · rename_i e; rw [e, hv]
    · rfl
  rw [e]
theorem countR_le (N : Nat) (q : Nat → Bool) : (List.range N).countP q ≤ N := by
  have := List.countP_le_length (p := q) (l := List.range N)
  rwa [List.length_range] at this
theorem nkeys_le (M : KVs) : nkeys M ≤ 4096 := countR_le 4096 _
theorem nkeys_none : nkeys (fun _ => none) = 0 := List.countP_eq_zero.2 fun _ _ h => by cases h
end PA
namespace Go.Proofs.YtcmjbjlliehdiaaDoor
open Go.RowKit PA
def VOK (I : Mem) (f : Int → Option Value) (M : KVs) : Prop :=
  (∀ k, M k = none → f k = none) ∧ ∀ k x, M k = some x → (0 ≤ k ∧ k ≤ 4095 ∧ x.length ≤ 65536) ∧ ∃ a c, f k = some (.slice a x.length c) ∧ rBytes.rel I [.slice a x.length c] x
theorem VOK.mono {I J : Mem} {f : Int → Option Value} {M : KVs} (hl : Mem.le I J) (h : VOK I f M) : VOK J f M :=
  ⟨h.1, fun k e he => by obtain ⟨h1, a, c, e1, hr⟩ := h.2 k e he; exact ⟨h1, a, c, e1, rBytes.mono hl hr⟩⟩
def vokA (f : Int → Option Value) (M : KVs) : Assn := pers (fun I => VOK I f M) fun _ _ hl h => h.mono hl
theorem VOK.isSome {I : Mem} {f : Int → Option Value} {M : KVs} (h : VOK I f M) (k : Int) : (f k).isSome = (M k).isSome := by
  cases hm : M k with
  | none => rw [h.1 k hm]; rfl
  | some e => obtain ⟨_, a, c, e1, _⟩ := h.2 k e hm; rw [e1]; rfl
theorem VOK.put {I : Mem} {f : Int → Option Value} {M : KVs} (h : VOK I f M) (k : Int) (x : List UInt8) {a : Option Addr} {c : Nat} (hk : 0 ≤ k ∧ k ≤ 4095 ∧ x.length ≤ 65536) (hv : rBytes.rel I [.slice a x.length c] x) :
    VOK I (fset f k (some (.slice a x.length c))) (fset M k (some x)) := by
  refine ⟨fun j hj => ?_, fun j y hj => ?_⟩
  · by_cases e1 : j = k
    · simp [fset, e1] at hj
    · simp only [fset, e1, if_false] at hj ⊢
      exact h.1 j hj
  · by_cases e1 : j = k
    · simp only [fset, e1, if_true, Option.some.injEq] at hj
      subst hj
      subst e1
      exact ⟨hk, a, c, by simp [fset], hv⟩
    · simp only [fset, e1, if_false] at hj
      obtain ⟨h1, a', c', e2, hr⟩ := h.2 j y hj
      exact ⟨h1, a', c', by simp only [fset, e1, if_false]; exact e2, hr⟩
theorem VOK.del {I : Mem} {f : Int → Option Value} {M : KVs} (h : VOK I f M) (k : Int) : VOK I (fset f k none) (fset M k none) := by
  refine ⟨fun j hj => ?_, fun j y hj => ?_⟩
  · by_cases e1 : j = k
    · simp [fset, e1]
    · simp only [fset, e1, if_false] at hj ⊢
      exact h.1 j hj
  · by_cases e1 : j = k
    · simp [fset, e1] at hj
    · simp only [fset, e1, if_false] at hj
      obtain ⟨h1, a', c', e2, hr⟩ := h.2 j y hj
      exact ⟨h1, a', c', by simp only [fset, e1, if_false]; exact e2, hr⟩
def amC (b1 b2 : Nat) : Array Value := #[.map (some b1), .map (some b2)]
def isAM (p : Nat) (M : KVs) : Assn := ex fun x : (Nat × (Int → Option Value)) × Nat × Nat =>
  sep (vokA x.1.2 M) (sep (bmap x.1.1 x.1.2 (nkeys M)) (sep (gmap bkv x.2.1 (hmF M) x.2.2) (blk p (.cells (amC x.1.1 x.2.1) 92 (0, 0)))))
section
variable {W w : World} {A : Assn}
theorem isAM_open {p : Nat} {M : KVs} (h : Sat W w (sep (isAM p M) A)) : ∃ b1 f b2 n2,
    Sat W w (sep (blk p (.cells (amC b1 b2) 92 (0, 0))) (sep (bmap b1 f (nkeys M)) (sep (gmap bkv b2 (hmF M) n2) (sep (vokA f M) A)))) := by
  rw [isAM, ex_sep, Sat.ex] at h
  obtain ⟨⟨⟨b1, f⟩, b2, n2⟩, h⟩ := h
  exact ⟨b1, f, b2, n2, by simpa only [sep_comm, sep_lcomm, sep_assoc] using h⟩
theorem isAM_mk {p : Nat} {M : KVs} {b1 b2 n2 : Nat} {f : Int → Option Value} (h : Sat W w (sep (blk p (.cells (amC b1 b2) 92 (0, 0))) (sep (bmap b1 f (nkeys M)) (sep (gmap bkv b2 (hmF M) n2) (sep (vokA f M) A))))) : Sat W w (sep (isAM p M) A) := by
  rw [isAM, ex_sep, Sat.ex]
  exact ⟨((b1, f), b2, n2), by simpa only [sep_comm, sep_lcomm, sep_assoc] using h⟩
end
theorem zeroU64 (w : World) : (zeroValue 43).run Tryd.prog w = .ok (.int .u64 0) w := by kernel_rfl
theorem zeroBs (w : World) : (zeroValue 32).run Tryd.prog w = .ok (.slice none 0 0) w := by kernel_rfl
theorem hbN_empty (l : Nat) (n : Int) : hbN (fun _ => none) l n = none := (hbN_none l n).2 fun _ _ => rfl
theorem hmF_empty : hmF (fun _ => none) = fun _ => none := by
  funext x; unfold hmF; rw [hbN_empty]; split <;> rfl
theorem anew_spec {W w : World} {A : Assn} (h : Sat W w A) :
    Calls Tryd.prog 42 #[] w fun e w' => ∃ p, e = .returned (.pointer (some ⟨p, 0, none⟩)) ∧ Sat W w' (sep (isAM p fun _ => none) A) := by
  have hmm := @run_makeMap Tryd.prog
  go_enter Tryd.func42, Tryd.ntmps42
  go_wp2
  go_ret
  refine ⟨_, rfl, ?_⟩
  have h1 := ((h.bmap_new).gmap_new bkv).alloc (.cells (amC w.heap.size (w.heap.size + 1)) 92)
  simp only [World.size_alloc] at h1
  have h2 := Sat.startPers W (fun I => VOK I (fun _ => none) (fun _ => none)) (fun I J hl h => h.mono hl) h1 ⟨fun _ _ => rfl, fun k e he => by cases he⟩
  refine isAM_mk (b1 := w.heap.size) (b2 := w.heap.size + 1) (f := fun _ => none) (n2 := 0) ?_
  have h3 : Sat W _ (sep (vokA (fun _ => none) (fun _ => none)) _) := h2
  rw [nkeys_none, hmF_empty]
  simpa only [amC, World.size_alloc, sep_comm, sep_lcomm, sep_assoc] using h3
set_option maxHeartbeats 4000000 in
theorem aof_spec {W w : World} {A : Assn} (p b1 b2 n2 : Nat) (f : Nat × Int → Option Value) (l : Nat) (n : Int) (o : Option Nat) (ho : f (l, n) = o.map hv)
    (h : Sat W w (sep (blk p (.cells (amC b1 b2) 92 (0, 0))) (sep (gmap bkv b2 f n2) A))) :
    Calls Tryd.prog 82 #[.pointer (some ⟨p, 0, none⟩), .agg #[.int .i64 (l : Nat), .int .i64 n]] w fun e w' => e = .returned (sumV o) ∧ Sat W w' (sep (blk p (.cells (amC b1 b2) 92 (0, 0))) (sep (gmap bkv b2 f n2) A)) := by
  obtain ⟨x, hx⟩ : ∃ x, x = w.heap.size := ⟨_, rfl⟩
  obtain ⟨w3, hw3⟩ : ∃ w3, w3 = ((w.alloc (.cells #[.int .i64 (l : Nat), .int .i64 n] 106)).alloc (.cells #[.int .u64 0, .bool false] 96)) := ⟨_, rfl⟩
  have h3 : Sat W w3 (sep (blk x (.cells #[.int .i64 (l : Nat), .int .i64 n] 106 (0, 0))) (sep (blk (x + 1) (.cells #[.int .u64 0, .bool false] 96 (0, 0))) (sep (blk p (.cells (amC b1 b2) 92 (0, 0))) (sep (gmap bkv b2 f n2) A)))) := by
    have h1 := ((h.alloc (.cells #[.int .i64 (l : Nat), .int .i64 n] 106)).alloc (.cells #[.int .u64 0, .bool false] 96))
    simp only [World.size_alloc] at h1
    rw [← hw3, ← hx] at h1
    simpa only [sep_comm, sep_lcomm, sep_assoc] using h1
  have HW := Lib.hid (And.intro hx hw3)
  clear h hx hw3
  go_enter Tryd.func82, Tryd.ntmps82
  go_upto_region 1 with (fail)
  rw [← HW.out.1, ← HW.out.2]
  have hd := h3.drew
  obtain ⟨wd, hwd⟩ : ∃ wd, wd = w3.drew := ⟨_, rfl⟩
  refine wp_region_canon rfl (fun _ => True) [(0, .p), (1, .p), (2, .p), (3, .t), (4, .t), (5, .t), (6, .p), (7, .p), (8, .p), (9, .p), (10, .p)] (by kernel_rfl) ?_
  rw [← hwd] at hd ⊢
  clear hwd h3
  have hS0 : True := trivial
  have c0 : wd.cell? ⟨x, 0, none⟩ = some (.int .i64 (l : Nat)) := hd.cell 0
  have c1 : wd.cell? ⟨x, 1, none⟩ = some (.int .i64 n) := hd.cell 1
  have c2 : wd.cell? ⟨p, 1, none⟩ = some (.map (some b2)) := hd.p2.cell 1
  have hlk0 := run_lookup_gmap (P := Tryd.prog) (T := 90) Tryd.underlying90 blk_key zeroU64 hd.p3 (l, n) true
  rw [ho] at hlk0
  obtain ⟨hh, hhh⟩ : ∃ hh : Nat, hh = o.getD 0 := ⟨_, rfl⟩
  obtain ⟨sm, hsm⟩ : ∃ sm, sm = o.isSome := ⟨_, rfl⟩
  have hlk : (Instr.lookup 90 (.map (some b2)) (.agg #[.int .i64 (l : Nat), .int .i64 n]) true).run Tryd.prog wd = .ok (.tuple #[.int .u64 (hh : Int), .bool sm]) wd := by
    have e : (if true = true then Value.tuple #[(Option.map hv o).getD (.int .u64 0), .bool (Option.map hv o).isSome] else (Option.map hv o).getD (.int .u64 0)) = .tuple #[.int .u64 (hh : Int), .bool sm] := by
      rw [hhh, hsm]; cases o <;> rfl
    rw [e] at hlk0
    exact hlk0
  have HO := Lib.hid (And.intro hhh hsm)
  clear hlk0 hhh hsm ho
  (repeat (first | (refine C_p (v := ?_) rfl rfl (fun w' => ?_) ?_; rotate_left; (go_simp; with_reducible rfl); simp only [Act.put, List.setIfInBounds_toArray, List.set_cons_zero, List.set_cons_succ]) | (refine C_s (v := ?_) rfl rfl hS0 (fun w' hS => ?_) ?_; rotate_left; ((try dsimp only at hS); go_simp; with_reducible rfl); simp only [Act.put, List.setIfInBounds_toArray, List.set_cons_zero, List.set_cons_succ]) | (refine C_t (v := ?_) rfl rfl ?_ ?_; rotate_left; (go_simp; with_reducible rfl); simp only [Act.put, List.setIfInBounds_toArray, List.set_cons_zero, List.set_cons_succ]) | (refine C_po rfl rfl ?_; simp only [Act.put, List.setIfInBounds_toArray, List.set_cons_zero, List.set_cons_succ]) | (refine C_so rfl rfl hS0 ?_; simp only [Act.put, List.setIfInBounds_toArray, List.set_cons_zero, List.set_cons_succ]) | (refine C_to rfl rfl ?_; simp only [Act.put, List.setIfInBounds_toArray, List.set_cons_zero, List.set_cons_succ])))
  refine C_nil ?_
  have s0 : wd.cell? ⟨x + 1, 0, none⟩ = some (.int .u64 0) := hd.p1.cell 0
  have s1 : wd.cell? ⟨x + 1, 1, none⟩ = some (.bool false) := hd.p1.cell 1
  have v0 : wd.frozen? ⟨x + 1, 0, none⟩ = false := hd.p1.unfrozen 0
  have v1 : wd.frozen? ⟨x + 1, 1, none⟩ = false := hd.p1.unfrozen 1
  have h6 := (hd.p1.setCell 0 (.int .u64 (hh : Int))).setCell 1 (.bool sm)
  have r0 := h6.cell 0
  have r1 := h6.cell 1
  have H6 := Lib.hid (And.intro h6.drop.drop (And.intro r0 r1))
  clear hd h6 r0 r1
  go_wp2_with fail
  refine bodyPost_ret (by simp [results, Tryd.results82, go_sem, H6.out.2.1, H6.out.2.2]; try rfl) rfl ?_
  refine ⟨?_, H6.out.1⟩
  unfold sumV
  rw [← HO.out.1, ← HO.out.2]
end Go.Proofs.YtcmjbjlliehdiaaDoor
