/- Package authmap: blocks (first, last, halves), isKey, isRange, join, leaf. -/
import Derived.Test.YtcmjbjlliehdiaaDoorGAuthmapChecks5
import Derived.Test.YtcmjbjlliehdiaaDoorGAuthmapChecks8
import Derived.Deep.DeepCutAuto
import Derived.Deep.CutBlock
import Derived.Laws.StructEq
import Derived.WideKeyRuns
namespace Go.Proofs.YtcmjbjlliehdiaaDoor
open Go.RowKit PA
theorem wrap64_eq {x y : Int} (h : x = y) (h1 : -9223372036854775808 ≤ y) (h2 : y ≤ 9223372036854775807) : wrap64 x = y := by
  subst h
  unfold wrap64
  rw [Int.emod_eq_of_lt (by omega) (by omega)]; omega
theorem int_ret {a b : Int} (h : a = b) : Ending.returned (.int .i64 a) = Ending.returned (.int .i64 b) := by rw [h]
set_option maxHeartbeats 1000000 in
theorem afirst_spec {W w : World} {A : Assn} (l : Nat) (n : Int) (ht : inT l n) (h : Sat W w A) :
    Calls Tryd.prog 88 #[.agg #[.int .i64 (l : Nat), .int .i64 n]] w fun e w' => e = .returned (.int .i64 (bFirst (l, n))) ∧ Sat W w' A := by
  have hb := inT_bounds ht
  have hl : l ≤ 12 := hb.1
  have h1 := h.alloc0 (.cells #[.int .i64 (l : Nat), .int .i64 n] 106)
  have H1 := Lib.hid (And.intro h1 hb)
  clear h1 h ht hb
  go_enter Tryd.func88, Tryd.ntmps88
  go_wp2
  go_ret
  refine ⟨int_ret ?_, H1.out.1⟩
  have hb := H1.out.2
  exact wrap64_eq rfl (by omega) (by omega)
set_option maxHeartbeats 1000000 in
theorem alast_spec {W w : World} {A : Assn} (l : Nat) (n : Int) (ht : inT l n) (h : Sat W w A) :
    Calls Tryd.prog 55 #[.agg #[.int .i64 (l : Nat), .int .i64 n]] w fun e w' => e = .returned (.int .i64 (bLast (l, n))) ∧ Sat W w' A := by
  have hb := inT_bounds ht
  have hl : l ≤ 12 := hb.1
  have hn : 0 ≤ n ∧ n ≤ 4095 := ⟨hb.2.1, hb.2.2.1⟩
  have h1 := h.alloc0 (.cells #[.int .i64 (l : Nat), .int .i64 n] 106)
  have H1 := Lib.hid (And.intro h1 hb)
  clear h1 h ht hb
  go_enter Tryd.func55, Tryd.ntmps55
  go_wp2
  go_ret
  refine ⟨int_ret ?_, H1.out.1⟩
  have hb := H1.out.2
  have e : bLast (l, n) = (n + 1) * 2 ^ l - 1 := rfl
  rw [wrap64_eq (x := (n + 1) * 2 ^ l) rfl (by omega) (by omega)]
  exact wrap64_eq rfl (by omega) (by omega)
set_option maxHeartbeats 2000000 in
theorem ahalves_spec {W w : World} {A : Assn} (l : Nat) (n : Int) (ht : inT (l + 1) n) (h : Sat W w A) :
    Calls Tryd.prog 77 #[.agg #[.int .i64 ((l : Nat) + 1 : Int), .int .i64 n]] w fun e w' => e = .returned (.tuple #[bkv (l, 2 * n), bkv (l, 2 * n + 1)]) ∧ Sat W w' A := by
  have hb := inT_bounds ht
  have hl : l ≤ 11 := by omega
  have hn : 0 ≤ n ∧ n ≤ 4095 := ⟨hb.2.1, hb.2.2.1⟩
  obtain ⟨x, hx⟩ : ∃ x, x = w.heap.size := ⟨_, rfl⟩
  obtain ⟨w3, hw3⟩ : ∃ w3, w3 = ((w.alloc (.cells #[.int .i64 ((l : Nat) + 1 : Int), .int .i64 n] 106)).alloc (.cells #[.int .i64 0, .int .i64 0] 106)).alloc (.cells #[.int .i64 0, .int .i64 0] 106) := ⟨_, rfl⟩
  have h3 : Sat W w3 (sep (blk x (.cells #[.int .i64 ((l : Nat) + 1 : Int), .int .i64 n] 106 (0, 0))) (sep (blk (x + 1) (.cells #[.int .i64 0, .int .i64 0] 106 (0, 0))) (sep (blk (x + 1 + 1) (.cells #[.int .i64 0, .int .i64 0] 106 (0, 0))) A))) := by
    have h1 := ((h.alloc (.cells #[.int .i64 ((l : Nat) + 1 : Int), .int .i64 n] 106)).alloc (.cells #[.int .i64 0, .int .i64 0] 106)).alloc (.cells #[.int .i64 0, .int .i64 0] 106)
    simp only [World.size_alloc] at h1
    rw [← hw3, ← hx] at h1
    simpa only [sep_comm, sep_lcomm, sep_assoc] using h1
  have HW := Lib.hid (And.intro hx hw3)
  clear h ht hb hx hw3
  go_enter Tryd.func77, Tryd.ntmps77
  go_upto_region 1 with (fail)
  rw [← HW.out.1, ← HW.out.2]
  have c0 : w3.cell? ⟨x, 0, none⟩ = some (.int .i64 ((l : Nat) + 1 : Int)) := h3.cell 0
  have c1 : w3.cell? ⟨x, 1, none⟩ = some (.int .i64 n) := h3.cell 1
  have hd := h3.drew
  have hwl : IntKind.i64.wrap ((l : Nat) : Int) = (l : Nat) := IntWalk.i64_in _ (by omega)
  have hwn : IntKind.i64.wrap (2 * n) = 2 * n := IntWalk.i64_in _ (by omega)
  have hwn1 : IntKind.i64.wrap (2 * n + 1) = 2 * n + 1 := IntWalk.i64_in _ (by omega)
  have hS0 : w3.drew.cell? ⟨x, 0, none⟩ = some (.int .i64 ((l : Nat) + 1 : Int)) ∧ w3.drew.cell? ⟨x, 1, none⟩ = some (.int .i64 n) := ⟨hd.cell 0, hd.cell 1⟩
  clear h3
  refine wp_region_canon rfl (fun w' => w'.cell? ⟨x, 0, none⟩ = some (.int .i64 ((l : Nat) + 1 : Int)) ∧ w'.cell? ⟨x, 1, none⟩ = some (.int .i64 n)) [(0, .p), (1, .t), (2, .p), (3, .p), (4, .t), (5, .p), (6, .p), (7, .p), (8, .s), (9, .p), (10, .p), (11, .s), (12, .p), (13, .p), (14, .p), (15, .e true), (16, .e false)] (by kernel_rfl) ?_
  obtain ⟨wd, hwd⟩ : ∃ wd, wd = w3.drew := ⟨_, rfl⟩
  rw [← hwd] at hS0 hd ⊢
  clear hwd c0 c1
  obtain ⟨d0, d1⟩ := hS0
  have hS0 : wd.cell? ⟨x, 0, none⟩ = some (.int .i64 ((l : Nat) + 1 : Int)) ∧ wd.cell? ⟨x, 1, none⟩ = some (.int .i64 n) := ⟨d0, d1⟩
  (repeat ((first | (refine C_p (v := ?_) rfl rfl (fun w' => ?_) ?_; rotate_left; (go_simp; with_reducible rfl)) | (refine C_s (v := ?_) rfl rfl hS0 (fun w' hS => ?_) ?_; rotate_left; ((try dsimp only at hS); go_simp; with_reducible rfl)) | (refine C_t (v := ?_) rfl rfl ?_ ?_; rotate_left; (go_simp; with_reducible rfl)) | (refine C_po rfl rfl ?_) | (refine C_so rfl rfl hS0 ?_) | (refine C_to rfl rfl ?_)); simp only [Act.put, List.setIfInBounds_toArray, List.set_cons_zero, List.set_cons_succ]))
  have h5 : Sat W ((wd.setCell ⟨x + 1, 0, none⟩ (.int .i64 (l : Nat))).setCell ⟨x + 1, 1, none⟩ (.int .i64 (2 * n))) (sep (blk (x + 1) (.cells #[.int .i64 (l : Nat), .int .i64 (2 * n)] 106 (0, 0))) (sep (blk x (.cells #[.int .i64 ((l : Nat) + 1 : Int), .int .i64 n] 106 (0, 0))) (sep (blk (x + 1 + 1) (.cells #[.int .i64 0, .int .i64 0] 106 (0, 0))) A))) := (hd.p1.setCell 0 _).setCell 1 _
  have s0 : wd.cell? ⟨x + 1, 0, none⟩ = some (.int .i64 0) := hd.p1.cell 0
  have s1 : wd.cell? ⟨x + 1, 1, none⟩ = some (.int .i64 0) := hd.p1.cell 1
  have v0 : wd.frozen? ⟨x + 1, 0, none⟩ = false := hd.p1.unfrozen 0
  have v1 : wd.frozen? ⟨x + 1, 1, none⟩ = false := hd.p1.unfrozen 1
  (refine C_e rfl rfl (fun K hK => ?_); go_simp)
  obtain ⟨w5, hw5⟩ : ∃ w5, w5 = (wd.setCell ⟨x + 1, 0, none⟩ (.int .i64 (l : Nat))).setCell ⟨x + 1, 1, none⟩ (.int .i64 (2 * n)) := ⟨_, rfl⟩
  rw [← hw5] at h5 ⊢
  have d0' : w5.cell? ⟨x, 0, none⟩ = some (.int .i64 ((l : Nat) + 1 : Int)) := h5.p1.cell 0
  have d1' : w5.cell? ⟨x, 1, none⟩ = some (.int .i64 n) := h5.p1.cell 1
  clear hd d0 d1 s0 s1 v0 v1 hS0 hw5
  (refine hK _ _ (fun _ => ⟨d0', d1'⟩) ?_; clear hK K; (try simp only [Act.put, List.setIfInBounds_toArray, List.set_cons_zero, List.set_cons_succ]))
  have hS0 : w5.cell? ⟨x, 0, none⟩ = some (.int .i64 ((l : Nat) + 1 : Int)) ∧ w5.cell? ⟨x, 1, none⟩ = some (.int .i64 n) := ⟨d0', d1'⟩
  have h6 : Sat W ((w5.setCell ⟨x + 1 + 1, 0, none⟩ (.int .i64 (l : Nat))).setCell ⟨x + 1 + 1, 1, none⟩ (.int .i64 (2 * n + 1))) (sep (blk (x + 1 + 1) (.cells #[.int .i64 (l : Nat), .int .i64 (2 * n + 1)] 106 (0, 0))) (sep (blk (x + 1) (.cells #[.int .i64 (l : Nat), .int .i64 (2 * n)] 106 (0, 0))) (sep (blk x (.cells #[.int .i64 ((l : Nat) + 1 : Int), .int .i64 n] 106 (0, 0))) A))) := (h5.p2.setCell 0 _).setCell 1 _
  have s0 : w5.cell? ⟨x + 1 + 1, 0, none⟩ = some (.int .i64 0) := h5.p2.cell 0
  have s1 : w5.cell? ⟨x + 1 + 1, 1, none⟩ = some (.int .i64 0) := h5.p2.cell 1
  have v0 : w5.frozen? ⟨x + 1 + 1, 0, none⟩ = false := h5.p2.unfrozen 0
  have v1 : w5.frozen? ⟨x + 1 + 1, 1, none⟩ = false := h5.p2.unfrozen 1
  (refine C_e rfl rfl (fun K hK => ?_); go_simp)
  obtain ⟨w6, hw6⟩ : ∃ w6, w6 = (w5.setCell ⟨x + 1 + 1, 0, none⟩ (.int .i64 (l : Nat))).setCell ⟨x + 1 + 1, 1, none⟩ (.int .i64 (2 * n + 1)) := ⟨_, rfl⟩
  rw [← hw6] at h6 ⊢
  clear hS0 d0' d1' s0 s1 v0 v1 h5 hw6
  (refine hK _ _ (fun h => by cases h) ?_; clear hK K; (try simp only [Act.put, List.setIfInBounds_toArray, List.set_cons_zero, List.set_cons_succ]))
  refine C_nil ?_
  have r0 : w6.cell? ⟨x + 1, 0, none⟩ = some (.int .i64 (l : Nat)) := h6.p1.cell 0
  have r1 : w6.cell? ⟨x + 1, 1, none⟩ = some (.int .i64 (2 * n)) := h6.p1.cell 1
  have r2 : w6.cell? ⟨x + 1 + 1, 0, none⟩ = some (.int .i64 (l : Nat)) := h6.cell 0
  have r3 : w6.cell? ⟨x + 1 + 1, 1, none⟩ = some (.int .i64 (2 * n + 1)) := h6.cell 1
  go_wp2
  trace_state
  refine bodyPost_ret (by simp [results, Tryd.results77, go_sem, r0, r1, r2, r3]; try rfl) rfl ?_
  exact ⟨rfl, h6.drop.drop.drop⟩
theorem aiskey_spec (k : Int) (w : World) : Calls Tryd.prog 47 #[.int .i64 k] w fun e w' => e = .returned (.bool (decide (0 ≤ k ∧ k ≤ 4095))) ∧ w' = w := by
  by_cases h1 : 0 ≤ k
  · have h1' : k ≥ 0 := h1
    go_enter Tryd.func47, Tryd.ntmps47
    go_wp2
    go_ret
    exact ⟨by simp [h1], rfl⟩
  · have h1' : ¬ k ≥ 0 := h1
    go_enter Tryd.func47, Tryd.ntmps47
    go_wp2
    go_ret
    exact ⟨by simp; omega, rfl⟩
end Go.Proofs.YtcmjbjlliehdiaaDoor
/- Package authmap: the keys of the map of hashes; leaf, join; what a map holds; New, of. -/
namespace Go.Proofs.YtcmjbjlliehdiaaDoor
open Go.RowKit PA
theorem blk_check (w : World) (em : Bool) (a : Nat × Int) : (Instr.checkKey em 10000 106 (bkv a)).run Tryd.prog w = .ok () w := by
  obtain ⟨l, n⟩ := a
  kernel_rfl
theorem blk_equal (w : World) (a b : Nat × Int) : (Op.equal 106 (bkv a) (bkv b)).run Tryd.prog w = .ok (decide (a = b)) w := by
  obtain ⟨l, n⟩ := a
  obtain ⟨l', n'⟩ := b
  have h1 : Tryd.prog.underlying 106 = some (.struct (Tryd.prog.fieldsOf 106)) := by kernel_rfl
  have h2 : Tryd.prog.stoodInHeld 106 = false := by kernel_rfl
  have e := run_equalIn_struct (P := Tryd.prog) w 9999 106 #[.int .i64 (l : Nat), .int .i64 n] #[.int .i64 (l' : Nat), .int .i64 n'] h1 h2
  unfold Op.equal Op.maxDepth bkv
  rw [e]
  clear e
  have q0 : ∀ a b : Int, (part 3 #[.int .i64 a, .int .i64 b] 0).run Tryd.prog w = .ok (.int .i64 a) w := fun a b => by kernel_rfl
  have q1 : ∀ a b : Int, (part 3 #[.int .i64 a, .int .i64 b] 1).run Tryd.prog w = .ok (.int .i64 b) w := fun a b => by kernel_rfl
  have r0 : ∀ a b : Int, (Op.equalIn 9999 3 (.int .i64 a) (.int .i64 b)).run Tryd.prog w = .ok (a == b) w := fun a b => run_equalIn_int (P := Tryd.prog) w 9998 3 .i64 .i64 a b Tryd.underlying3
  by_cases e1 : l = l'
  · by_cases e2 : n = n'
    · simp [Program.fieldsOf, Tryd.underlying106, Op.eqFields, q0, q1, r0, e1, e2]
    · simp [Program.fieldsOf, Tryd.underlying106, Op.eqFields, q0, q1, r0, e1, e2]
  · have e3 : ¬ (l : Int) = (l' : Int) := by omega
    simp [Program.fieldsOf, Tryd.underlying106, Op.eqFields, q0, r0, e1, e3]
theorem blk_find (w : World) (a : Nat × Int) : ∀ (es : List MapEntry) (i : Nat), (∀ e ∈ es, ∃ k, e.key = bkv k) →
    ((Instr.findAsking 106 (bkv a) es i).run Tryd.prog w = .ok none w ∧ ∀ e ∈ es, e.key ≠ bkv a) ∨ ∃ j e, (Instr.findAsking 106 (bkv a) es i).run Tryd.prog w = .ok (some (i + j, e.val)) w ∧ es[j]? = some e ∧ e.key = bkv a
  | [], i, _ => .inl ⟨by simp [Instr.findAsking], by simp⟩
  | e :: es, i, h => by
    obtain ⟨k, hk⟩ := h e (by simp)
    have heq := blk_equal w a k
    by_cases hak : a = k
    · subst hak
      exact .inr ⟨0, e, by simp [Instr.findAsking, hk, heq], rfl, hk⟩
    · rcases blk_find w a es (i + 1) (fun y hy => h y (by simp [hy])) with ⟨h1, h2⟩ | ⟨j, e', h1, h2, h3⟩
      · refine .inl ⟨by simp [Instr.findAsking, hk, heq, hak, h1], fun y hy => ?_⟩
        rcases List.mem_cons.1 hy with rfl | hy
        · rw [hk]; exact fun e => hak (bkv_inj _ _ e).symm
        · exact h2 y hy
      · exact .inr ⟨j + 1, e', by simp [Instr.findAsking, hk, heq, hak, h1, Nat.add_assoc, Nat.add_comm 1 j], by simpa using h2, h3⟩
theorem blk_key : GKey Tryd.prog 106 bkv := by
  refine ⟨bkv_inj, blk_check, fun w a es he => ?_, fun w a => ?_⟩
  · rw [run_findKey_eq w (by kernel_rfl)]
    rcases blk_find w a es 0 he with ⟨h1, h2⟩ | ⟨j, e, h1, h2, h3⟩
    · exact .inl ⟨h1, h2⟩
    · exact .inr ⟨j, e, by simpa using h1, h2, h3⟩
  · have : Instr.sameBits 10000 (bkv a) (bkv a) = true := by
      obtain ⟨l, n⟩ := a
      show Instr.sameBits (9998 + 1 + 1) (.agg _) (.agg _) = true
      simp [Instr.sameBits]
    simp [Instr.keyThatStays, this]
set_option maxHeartbeats 1000000 in
theorem aleaf_spec {W w : World} {A : Assn} {I : Mem} (k : Int) (v : Value) (bs : List UInt8) (h : Sat W w (sep (kn I) A)) (hv : rBytes.rel I [v] bs) (hb : bs.length ≤ 140737488351240) :
    Calls Tryd.prog 50 #[.int .i64 k, v] w fun e w' => e = .returned (.int .u64 (leafN k bs : Nat)) ∧ Sat W w' (sep (kn I) A) := by
  obtain ⟨va, vc, rfl, -⟩ := bytes_rel.1 hv
  have e5 : (⟨#[118, 97, 108, 117, 101]⟩ : ByteArray).data.toList = valueL := rfl
  have e4 : (⟨#[112, 97, 105, 114]⟩ : ByteArray).data.toList = pairL := rfl
  have H1 := hbytes_any ⟨#[118, 97, 108, 117, 101]⟩ (.slice va bs.length vc) bs h hv (by decide) hb
  rw [e5] at H1
  have HW : leafN k bs = sumN pairL [k, (bs.length : Int), wrap64 ((bytesN valueL bs : Nat) : Int)] := rfl
  obtain ⟨hh, hhe⟩ : ∃ hh, hh = bytesN valueL bs := ⟨_, rfl⟩
  obtain ⟨bl, hbl⟩ : ∃ bl, bl = bs.length := ⟨_, rfl⟩
  rw [← hhe, ← hbl] at H1
  rw [← hhe, ← hbl] at HW
  obtain ⟨z2, hz2⟩ : ∃ z, wrap64 (hh : Int) = z := ⟨_, rfl⟩
  rw [hz2] at HW
  have HWW := Lib.hid HW
  obtain ⟨cm, hcm⟩ : ∃ cm, cm = leafN k bs := ⟨_, rfl⟩
  rw [← hcm] at HWW ⊢
  rw [← hbl]
  have H1' := Lib.hid H1
  clear hv h hb HW hhe hcm H1 e5 hbl
  go_enter Tryd.func50, Tryd.ntmps50
  go_wp2_with fail
  refine H1'.out.mono ?_
  rintro e w1 ⟨rfl, hS⟩
  clear H1'
  have H2a := (sum_spec ⟨#[112, 97, 105, 114]⟩ (some ⟨w1.heap.size, 0, none⟩) 3 [k, (bl : Int), z2] (w1.alloc (.cells #[.int .i64 k, .int .i64 (bl : Int), .int .i64 z2] 3)) (by decide) (by simp) (fun _ => ⟨w1.heap.size, 0, rfl, by simp, fun j hj => by
    have hj2 : j < 3 := hj
    have := new_src w1 [.int .i64 k, .int .i64 (bl : Int), .int .i64 z2] 3 j
    match j, hj2 with
    | 0, _ => exact this _ rfl
    | 1, _ => exact this _ rfl
    | 2, _ => exact this _ rfl⟩))
  rw [e4, ← HWW.out] at H2a
  have H2 := Lib.hid H2a
  clear H2a e4
  have hS2 := hS.alloc0 (.cells #[.int .i64 k, .int .i64 (bl : Int), .int .i64 z2] 3)
  go_wp2_with fail
  refine H2.out.mono ?_
  rintro e w2 ⟨rfl, hb⟩
  have hS3 := hS2.of_below hb
  go_wp2_with fail
  go_ret
  exact ⟨rfl, hS3⟩
/-- A sum: a hash, and whether there is one. -/
def sumV (o : Option Nat) : Value := .agg #[.int .u64 ((o.getD 0 : Nat) : Int), .bool o.isSome]
theorem jn_none {a b : Option Nat} (ha : a = none) (hb : b = none) : joinN a b = none := by subst ha; subst hb; rfl
theorem jn_some {a b : Option Nat} (h : a.isSome = true ∨ b.isSome = true) : joinN a b = some (nodeN (a.getD 0) (b.getD 0)) := by
  cases a <;> cases b <;> simp [joinN] at *
set_option maxHeartbeats 4000000 in
theorem ajoin_spec {W w : World} {A : Assn} (a b : Option Nat) (h : Sat W w A) :
    Calls Tryd.prog 78 #[sumV a, sumV b] w fun e w' => e = .returned (sumV (joinN a b)) ∧ Sat W w' A := by
  obtain ⟨x, hx⟩ : ∃ x, x = w.heap.size := ⟨_, rfl⟩
  obtain ⟨ha, hha⟩ : ∃ ha, ha = a.getD 0 := ⟨_, rfl⟩
  obtain ⟨hb, hhb⟩ : ∃ hb, hb = b.getD 0 := ⟨_, rfl⟩
  obtain ⟨sa, hsa⟩ : ∃ sa, sa = a.isSome := ⟨_, rfl⟩
  obtain ⟨sb, hsb⟩ : ∃ sb, sb = b.isSome := ⟨_, rfl⟩
  have ea : sumV a = .agg #[.int .u64 (ha : Int), .bool sa] := by rw [hha, hsa]; rfl
  have eb : sumV b = .agg #[.int .u64 (hb : Int), .bool sb] := by rw [hhb, hsb]; rfl
  obtain ⟨w3, hw3⟩ : ∃ w3, w3 = ((w.alloc (.cells #[.int .u64 (ha : Int), .bool sa] 96)).alloc (.cells #[.int .u64 (hb : Int), .bool sb] 96)).alloc (.cells #[.int .u64 0, .bool false] 96) := ⟨_, rfl⟩
  have h3 : Sat W w3 (sep (blk x (.cells #[.int .u64 (ha : Int), .bool sa] 96 (0, 0))) (sep (blk (x + 1) (.cells #[.int .u64 (hb : Int), .bool sb] 96 (0, 0))) (sep (blk (x + 1 + 1) (.cells #[.int .u64 0, .bool false] 96 (0, 0))) A))) := by
    have h1 := ((h.alloc (.cells #[.int .u64 (ha : Int), .bool sa] 96)).alloc (.cells #[.int .u64 (hb : Int), .bool sb] 96)).alloc (.cells #[.int .u64 0, .bool false] 96)
    simp only [World.size_alloc] at h1
    rw [← hw3, ← hx] at h1
    simpa only [sep_comm, sep_lcomm, sep_assoc] using h1
  have HW := Lib.hid (And.intro hx hw3)
  have HA := Lib.hid (And.intro (And.intro hha hhb) (And.intro hsa hsb))
  rw [ea, eb]
  clear h hx hw3 hha hhb hsa hsb ea eb
  go_enter Tryd.func78, Tryd.ntmps78
  go_upto_region 1 with (fail)
  rw [← HW.out.1, ← HW.out.2]
  have c0 : w3.cell? ⟨x, 0, none⟩ = some (.int .u64 (ha : Int)) := h3.cell 0
  have c1 : w3.cell? ⟨x, 1, none⟩ = some (.bool sa) := h3.cell 1
  have c2 : w3.cell? ⟨x + 1, 0, none⟩ = some (.int .u64 (hb : Int)) := h3.p1.cell 0
  have c3 : w3.cell? ⟨x + 1, 1, none⟩ = some (.bool sb) := h3.p1.cell 1
  have s0 : w3.cell? ⟨x + 1 + 1, 0, none⟩ = some (.int .u64 0) := h3.p2.cell 0
  have s1 : w3.cell? ⟨x + 1 + 1, 1, none⟩ = some (.bool false) := h3.p2.cell 1
  have v0 : w3.frozen? ⟨x + 1 + 1, 0, none⟩ = false := h3.p2.unfrozen 0
  have v1 : w3.frozen? ⟨x + 1 + 1, 1, none⟩ = false := h3.p2.unfrozen 1
  by_cases hn : sa = false ∧ sb = false
  · obtain ⟨rfl, rfl⟩ := hn
    have h4 : Sat W ((w3.setCell ⟨x + 1 + 1, 0, none⟩ (.int .u64 0)).setCell ⟨x + 1 + 1, 1, none⟩ (.bool false)) (sep (blk (x + 1 + 1) (.cells #[.int .u64 0, .bool false] 96 (0, 0))) (sep (blk x (.cells #[.int .u64 (ha : Int), .bool false] 96 (0, 0))) (sep (blk (x + 1) (.cells #[.int .u64 (hb : Int), .bool false] 96 (0, 0))) A))) := (h3.p2.setCell 0 _).setCell 1 _
    have r0 := h4.cell 0
    have r1 := h4.cell 1
    have H4 := Lib.hid (And.intro h4 (And.intro r0 r1))
    clear h3 h4 r0 r1
    go_wp2_with fail
    refine bodyPost_ret (by simp [results, Tryd.results78, go_sem, H4.out.2.1, H4.out.2.2]; try rfl) rfl ?_
    have en : joinN a b = none := jn_none (by have := HA.out.2.1; cases a <;> simp at this ⊢) (by have := HA.out.2.2; cases b <;> simp at this ⊢)
    rw [en]
    exact ⟨rfl, H4.out.1.drop.drop.drop⟩
  · have en : joinN a b = some (nodeN ha hb) := by
      rw [HA.out.1.1, HA.out.1.2]
      refine jn_some ?_
      rw [← HA.out.2.1, ← HA.out.2.2]
      cases sa
      · cases sb
        · exact absurd ⟨rfl, rfl⟩ hn
        · exact .inr rfl
      · exact .inl rfl
    have e5 : (⟨#[98, 108, 111, 99, 107]⟩ : ByteArray).data.toList = blockL := rfl
    have HWj : nodeN ha hb = sumN blockL [wrap64 (ha : Int), wrap64 (hb : Int)] := rfl
    obtain ⟨cm, hcm⟩ : ∃ cm, cm = nodeN ha hb := ⟨_, rfl⟩
    obtain ⟨z1, hz1⟩ : ∃ z, wrap64 (ha : Int) = z := ⟨_, rfl⟩
    obtain ⟨z2, hz2⟩ : ∃ z, wrap64 (hb : Int) = z := ⟨_, rfl⟩
    rw [hz1, hz2, ← hcm] at HWj
    rw [← hcm] at en
    have H2a := (sum_spec ⟨#[98, 108, 111, 99, 107]⟩ (some ⟨w3.heap.size, 0, none⟩) 2 [z1, z2] (w3.alloc (.cells #[.int .i64 z1, .int .i64 z2] 3)) (by decide) (by simp) (fun _ => ⟨w3.heap.size, 0, rfl, by simp, fun j hj => by
      have hj2 : j < 2 := hj
      have := new_src w3 [.int .i64 z1, .int .i64 z2] 3 j
      match j, hj2 with
      | 0, _ => exact this _ rfl
      | 1, _ => exact this _ rfl⟩))
    rw [e5, ← HWj] at H2a
    have H2 := Lib.hid H2a
    have HEN := Lib.hid en
    clear H2a e5 HWj hcm en
    have hS2 := h3.alloc0 (.cells #[.int .i64 z1, .int .i64 z2] 3)
    have HS2 := Lib.hid hS2
    clear hS2 h3
    have hor : sa = true ∨ (sa = false ∧ sb = true) := by
      cases sa
      · cases sb
        · exact absurd ⟨rfl, rfl⟩ hn
        · exact .inr ⟨rfl, rfl⟩
      · exact .inl rfl
    clear hn
    rcases hor with rfl | ⟨rfl, rfl⟩
    all_goals
      go_wp2_with fail
      refine H2.out.mono ?_
      rintro e w4 ⟨rfl, hb4⟩
      have h5 := HS2.out.of_below hb4
      have t0 : w4.cell? ⟨x + 1 + 1, 0, none⟩ = some (.int .u64 0) := h5.p2.cell 0
      have t1 : w4.cell? ⟨x + 1 + 1, 1, none⟩ = some (.bool false) := h5.p2.cell 1
      have u0 : w4.frozen? ⟨x + 1 + 1, 0, none⟩ = false := h5.p2.unfrozen 0
      have u1 : w4.frozen? ⟨x + 1 + 1, 1, none⟩ = false := h5.p2.unfrozen 1
      have h6 := (h5.p2.setCell 0 (.int .u64 (cm : Nat))).setCell 1 (.bool true)
      have r0 := h6.cell 0
      have r1 := h6.cell 1
      have H6 := Lib.hid (And.intro h6.drop.drop.drop (And.intro r0 r1))
      clear h5 h6 r0 r1 hb4 c0 c1 c2 c3 s0 s1 v0 v1
      go_wp2_with fail
      refine bodyPost_ret (by simp [results, Tryd.results78, go_sem, H6.out.2.1, H6.out.2.2]; try rfl) rfl ?_
      rw [HEN.out]
      exact ⟨rfl, H6.out.1⟩
end Go.Proofs.YtcmjbjlliehdiaaDoor
/- Package authmap: what a map holds; New, of. -/
namespace PA
open Go Go.RowKit
def nkeys (M : KVs) : Nat := (List.range 4096).countP fun i : Nat => (M (i : Int)).isSome
theorem countP_upd {p q : Nat → Bool} {k : Nat} : ∀ (l : List Nat), l.Nodup → (∀ i, i ≠ k → q i = p i) → p k = false → q k = true → l.countP q = l.countP p + (if k ∈ l then 1 else 0)
  | [], _, _, _, _ => rfl
  | x :: l, hn, he, h1, h2 => by
    obtain ⟨hx, hn⟩ := List.nodup_cons.1 hn
    have ih := countP_upd l hn he h1 h2
    rw [List.countP_cons, List.countP_cons, ih]
    by_cases e : x = k
    · subst e
      rw [if_neg hx, h1, h2]
      simp
    · rw [he x e]
      have : (k ∈ x :: l) ↔ k ∈ l := by
        rw [List.mem_cons]; exact ⟨fun h => h.resolve_left (fun h => e h.symm), .inr⟩
      simp only [this]
      omega
theorem nkeys_new {M : KVs} {k : Int} (v : List UInt8) (h1 : 0 ≤ k) (h2 : k ≤ 4095) (h : M k = none) : nkeys (fset M k (some v)) = nkeys M + 1 := by
  unfold nkeys
  obtain ⟨n, rfl⟩ : ∃ n : Nat, k = n := ⟨k.toNat, by omega⟩
  rw [countP_upd (k := n) (p := fun i : Nat => (M (i : Int)).isSome) (List.range 4096) List.nodup_range (fun i hi => ?_) (by simp [h]) (by simp [fset]), if_pos (by simp; omega)]
  simp only [fset]
  rw [if_neg (by omega)]
theorem nkeys_old {M : KVs} {k : Int} (v : List UInt8) (h : (M k).isSome = true) : nkeys (fset M k (some v)) = nkeys M := by
  unfold nkeys
  congr 1
  funext i
  unfold fset
  split
  · rename_i e; rw [e, h]; rfl
  · rfl
theorem nkeys_del {M : KVs} {k : Int} (h1 : 0 ≤ k) (h2 : k ≤ 4095) (h : (M k).isSome = true) : nkeys (fset M k none) + 1 = nkeys M := by
  obtain ⟨v, hv⟩ := Option.isSome_iff_exists.1 h
  have := nkeys_new (M := fset M k none) v h1 h2 (by simp [fset])
  rw [← this]
  have e : fset (fset M k none) k (some v) = M := by
    funext j
    unfold fset
    split
    · rename_i e; rw [e, hv]
    · rfl
  rw [e]
theorem countR_le (N : Nat) (q : Nat → Bool) : (List.range N).countP q ≤ N := by
  have := List.countP_le_length (p := q) (l := List.range N)
  rwa [List.length_range] at this
theorem nkeys_le (M : KVs) : nkeys M ≤ 4096 := countR_le 4096 _
theorem nkeys_none : nkeys (fun _ => none) = 0 := List.countP_eq_zero.2 fun _ _ h => by cases h
end PA
namespace Go.Proofs.YtcmjbjlliehdiaaDoor
open Go.RowKit PA
def VOK (I : Mem) (f : Int → Option Value) (M : KVs) : Prop :=
  (∀ k, M k = none → f k = none) ∧ ∀ k x, M k = some x → (0 ≤ k ∧ k ≤ 4095 ∧ x.length ≤ 65536) ∧ ∃ a c, f k = some (.slice a x.length c) ∧ rBytes.rel I [.slice a x.length c] x
theorem VOK.mono {I J : Mem} {f : Int → Option Value} {M : KVs} (hl : Mem.le I J) (h : VOK I f M) : VOK J f M :=
  ⟨h.1, fun k e he => by obtain ⟨h1, a, c, e1, hr⟩ := h.2 k e he; exact ⟨h1, a, c, e1, rBytes.mono hl hr⟩⟩
def vokA (f : Int → Option Value) (M : KVs) : Assn := pers (fun I => VOK I f M) fun _ _ hl h => h.mono hl
theorem VOK.isSome {I : Mem} {f : Int → Option Value} {M : KVs} (h : VOK I f M) (k : Int) : (f k).isSome = (M k).isSome := by
  cases hm : M k with
  | none => rw [h.1 k hm]; rfl
  | some e => obtain ⟨_, a, c, e1, _⟩ := h.2 k e hm; rw [e1]; rfl
theorem VOK.put {I : Mem} {f : Int → Option Value} {M : KVs} (h : VOK I f M) (k : Int) (x : List UInt8) {a : Option Addr} {c : Nat} (hk : 0 ≤ k ∧ k ≤ 4095 ∧ x.length ≤ 65536) (hv : rBytes.rel I [.slice a x.length c] x) :
    VOK I (fset f k (some (.slice a x.length c))) (fset M k (some x)) := by
  refine ⟨fun j hj => ?_, fun j y hj => ?_⟩
  · by_cases e1 : j = k
    · simp [fset, e1] at hj
    · simp only [fset, e1, if_false] at hj ⊢
      exact h.1 j hj
  · by_cases e1 : j = k
    · simp only [fset, e1, if_true, Option.some.injEq] at hj
      subst hj
      subst e1
      exact ⟨hk, a, c, by simp [fset], hv⟩
    · simp only [fset, e1, if_false] at hj
      obtain ⟨h1, a', c', e2, hr⟩ := h.2 j y hj
      exact ⟨h1, a', c', by simp only [fset, e1, if_false]; exact e2, hr⟩
theorem VOK.del {I : Mem} {f : Int → Option Value} {M : KVs} (h : VOK I f M) (k : Int) : VOK I (fset f k none) (fset M k none) := by
  refine ⟨fun j hj => ?_, fun j y hj => ?_⟩
  · by_cases e1 : j = k
    · simp [fset, e1]
    · simp only [fset, e1, if_false] at hj ⊢
      exact h.1 j hj
  · by_cases e1 : j = k
    · simp [fset, e1] at hj
    · simp only [fset, e1, if_false] at hj
      obtain ⟨h1, a', c', e2, hr⟩ := h.2 j y hj
      exact ⟨h1, a', c', by simp only [fset, e1, if_false]; exact e2, hr⟩
def amC (b1 b2 : Nat) : Array Value := #[.map (some b1), .map (some b2)]
def isAM (p : Nat) (M : KVs) : Assn := ex fun x : (Nat × (Int → Option Value)) × Nat × Nat =>
  sep (vokA x.1.2 M) (sep (bmap x.1.1 x.1.2 (nkeys M)) (sep (gmap bkv x.2.1 (hmF M) x.2.2) (blk p (.cells (amC x.1.1 x.2.1) 92 (0, 0)))))
section
variable {W w : World} {A : Assn}
theorem isAM_open {p : Nat} {M : KVs} (h : Sat W w (sep (isAM p M) A)) : ∃ b1 f b2 n2,
    Sat W w (sep (blk p (.cells (amC b1 b2) 92 (0, 0))) (sep (bmap b1 f (nkeys M)) (sep (gmap bkv b2 (hmF M) n2) (sep (vokA f M) A)))) := by
  rw [isAM, ex_sep, Sat.ex] at h
  obtain ⟨⟨⟨b1, f⟩, b2, n2⟩, h⟩ := h
  exact ⟨b1, f, b2, n2, by simpa only [sep_comm, sep_lcomm, sep_assoc] using h⟩
theorem isAM_mk {p : Nat} {M : KVs} {b1 b2 n2 : Nat} {f : Int → Option Value} (h : Sat W w (sep (blk p (.cells (amC b1 b2) 92 (0, 0))) (sep (bmap b1 f (nkeys M)) (sep (gmap bkv b2 (hmF M) n2) (sep (vokA f M) A))))) : Sat W w (sep (isAM p M) A) := by
  rw [isAM, ex_sep, Sat.ex]
  exact ⟨((b1, f), b2, n2), by simpa only [sep_comm, sep_lcomm, sep_assoc] using h⟩
end
theorem zeroU64 (w : World) : (zeroValue 43).run Tryd.prog w = .ok (.int .u64 0) w := by kernel_rfl
theorem zeroBs (w : World) : (zeroValue 32).run Tryd.prog w = .ok (.slice none 0 0) w := by kernel_rfl
theorem hbN_empty (l : Nat) (n : Int) : hbN (fun _ => none) l n = none := (hbN_none l n).2 fun _ _ => rfl
theorem hmF_empty : hmF (fun _ => none) = fun _ => none := by
  funext x; unfold hmF; rw [hbN_empty]; split <;> rfl
theorem anew_spec {W w : World} {A : Assn} (h : Sat W w A) :
    Calls Tryd.prog 42 #[] w fun e w' => ∃ p, e = .returned (.pointer (some ⟨p, 0, none⟩)) ∧ Sat W w' (sep (isAM p fun _ => none) A) := by
  have hmm := @run_makeMap Tryd.prog
  go_enter Tryd.func42, Tryd.ntmps42
  go_wp2
  go_ret
  refine ⟨_, rfl, ?_⟩
  have h1 := ((h.bmap_new).gmap_new bkv).alloc (.cells (amC w.heap.size (w.heap.size + 1)) 92)
  simp only [World.size_alloc] at h1
  have h2 := Sat.startPers W (fun I => VOK I (fun _ => none) (fun _ => none)) (fun I J hl h => h.mono hl) h1 ⟨fun _ _ => rfl, fun k e he => by cases he⟩
  refine isAM_mk (b1 := w.heap.size) (b2 := w.heap.size + 1) (f := fun _ => none) (n2 := 0) ?_
  have h3 : Sat W _ (sep (vokA (fun _ => none) (fun _ => none)) _) := h2
  rw [nkeys_none, hmF_empty]
  simpa only [amC, World.size_alloc, sep_comm, sep_lcomm, sep_assoc] using h3
set_option maxHeartbeats 4000000 in
theorem aof_spec {W w : World} {A : Assn} (p b1 b2 n2 : Nat) (f : Nat × Int → Option Value) (l : Nat) (n : Int) (o : Option Nat) (ho : f (l, n) = o.map hv)
    (h : Sat W w (sep (blk p (.cells (amC b1 b2) 92 (0, 0))) (sep (gmap bkv b2 f n2) A))) :
    Calls Tryd.prog 82 #[.pointer (some ⟨p, 0, none⟩), .agg #[.int .i64 (l : Nat), .int .i64 n]] w fun e w' => e = .returned (sumV o) ∧ Sat W w' (sep (blk p (.cells (amC b1 b2) 92 (0, 0))) (sep (gmap bkv b2 f n2) A)) := by
  obtain ⟨x, hx⟩ : ∃ x, x = w.heap.size := ⟨_, rfl⟩
  obtain ⟨w3, hw3⟩ : ∃ w3, w3 = ((w.alloc (.cells #[.int .i64 (l : Nat), .int .i64 n] 106)).alloc (.cells #[.int .u64 0, .bool false] 96)) := ⟨_, rfl⟩
  have h3 : Sat W w3 (sep (blk x (.cells #[.int .i64 (l : Nat), .int .i64 n] 106 (0, 0))) (sep (blk (x + 1) (.cells #[.int .u64 0, .bool false] 96 (0, 0))) (sep (blk p (.cells (amC b1 b2) 92 (0, 0))) (sep (gmap bkv b2 f n2) A)))) := by
    have h1 := ((h.alloc (.cells #[.int .i64 (l : Nat), .int .i64 n] 106)).alloc (.cells #[.int .u64 0, .bool false] 96))
    simp only [World.size_alloc] at h1
    rw [← hw3, ← hx] at h1
    simpa only [sep_comm, sep_lcomm, sep_assoc] using h1
  have HW := Lib.hid (And.intro hx hw3)
  clear h hx hw3
  go_enter Tryd.func82, Tryd.ntmps82
  go_upto_region 1 with (fail)
  rw [← HW.out.1, ← HW.out.2]
  have hd := h3.drew
  obtain ⟨wd, hwd⟩ : ∃ wd, wd = w3.drew := ⟨_, rfl⟩
  refine wp_region_canon rfl (fun _ => True) [(0, .p), (1, .p), (2, .p), (3, .t), (4, .t), (5, .t), (6, .p), (7, .p), (8, .p), (9, .p), (10, .p)] (by kernel_rfl) ?_
  rw [← hwd] at hd ⊢
  clear hwd h3
  have hS0 : True := trivial
  have c0 : wd.cell? ⟨x, 0, none⟩ = some (.int .i64 (l : Nat)) := hd.cell 0
  have c1 : wd.cell? ⟨x, 1, none⟩ = some (.int .i64 n) := hd.cell 1
  have c2 : wd.cell? ⟨p, 1, none⟩ = some (.map (some b2)) := hd.p2.cell 1
  have hlk0 := run_lookup_gmap (P := Tryd.prog) (T := 90) Tryd.underlying90 blk_key zeroU64 hd.p3 (l, n) true
  rw [ho] at hlk0
  obtain ⟨hh, hhh⟩ : ∃ hh : Nat, hh = o.getD 0 := ⟨_, rfl⟩
  obtain ⟨sm, hsm⟩ : ∃ sm, sm = o.isSome := ⟨_, rfl⟩
  have hlk : (Instr.lookup 90 (.map (some b2)) (.agg #[.int .i64 (l : Nat), .int .i64 n]) true).run Tryd.prog wd = .ok (.tuple #[.int .u64 (hh : Int), .bool sm]) wd := by
    have e : (if true = true then Value.tuple #[(Option.map hv o).getD (.int .u64 0), .bool (Option.map hv o).isSome] else (Option.map hv o).getD (.int .u64 0)) = .tuple #[.int .u64 (hh : Int), .bool sm] := by
      rw [hhh, hsm]; cases o <;> rfl
    rw [e] at hlk0
    exact hlk0
  have HO := Lib.hid (And.intro hhh hsm)
  clear hlk0 hhh hsm ho
  (repeat ((first | (refine C_p (v := ?_) rfl rfl (fun w' => ?_) ?_; rotate_left; (go_simp; with_reducible rfl)) | (refine C_s (v := ?_) rfl rfl hS0 (fun w' hS => ?_) ?_; rotate_left; ((try dsimp only at hS); go_simp; with_reducible rfl)) | (refine C_t (v := ?_) rfl rfl ?_ ?_; rotate_left; (go_simp; with_reducible rfl)) | (refine C_po rfl rfl ?_) | (refine C_so rfl rfl hS0 ?_) | (refine C_to rfl rfl ?_)); simp only [Act.put, List.setIfInBounds_toArray, List.set_cons_zero, List.set_cons_succ]))
  refine C_nil ?_
  have s0 : wd.cell? ⟨x + 1, 0, none⟩ = some (.int .u64 0) := hd.p1.cell 0
  have s1 : wd.cell? ⟨x + 1, 1, none⟩ = some (.bool false) := hd.p1.cell 1
  have v0 : wd.frozen? ⟨x + 1, 0, none⟩ = false := hd.p1.unfrozen 0
  have v1 : wd.frozen? ⟨x + 1, 1, none⟩ = false := hd.p1.unfrozen 1
  have h6 := (hd.p1.setCell 0 (.int .u64 (hh : Int))).setCell 1 (.bool sm)
  have r0 := h6.cell 0
  have r1 := h6.cell 1
  have H6 := Lib.hid (And.intro h6.drop.drop (And.intro r0 r1))
  clear hd h6 r0 r1
  go_wp2_with fail
  refine bodyPost_ret (by simp [results, Tryd.results82, go_sem, H6.out.2.1, H6.out.2.2]; try rfl) rfl ?_
  refine ⟨?_, H6.out.1⟩
  unfold sumV
  rw [← HO.out.1, ← HO.out.2]
end Go.Proofs.YtcmjbjlliehdiaaDoor
