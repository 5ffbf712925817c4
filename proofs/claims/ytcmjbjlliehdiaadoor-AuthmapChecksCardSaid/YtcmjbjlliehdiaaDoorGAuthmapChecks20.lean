/- Package authmap: the section's examples. -/
import Derived.Test.YtcmjbjlliehdiaaDoorGAuthmapChecksSQ11
import Derived.Test.YtcmjbjlliehdiaaDoorGAuthmapChecks11
import Derived.Test.YtcmjbjlliehdiaaDoorGAuthmapChecks7
import Derived.Test.YtcmjbjlliehdiaaDoorGAuthmapChecksSQs
namespace PA
open Go Go.RowKit
def M0 : KVs := fun _ => none
theorem hbN_M0 (l : Nat) (n : Int) : hbN M0 l n = none := (hbN_none l n).2 fun _ _ => rfl
theorem keys_M0 {ks : List Int} (h : AKeys M0 ks) : ks = [] := by
  cases ks with
  | nil => rfl
  | cons k ks => have := (h.2 k).1 (by simp); cases this
theorem left_M0 (a : Int) (xs : List (Nat × Int)) : leftL M0 a xs = [] := by
  rw [leftL, List.filterMap_eq_nil_iff]
  intro x _
  rw [leftF, hbN_M0, ite_self]
theorem right_M0 (a : Int) (xs : List (Nat × Int)) : rightL M0 a xs = [] := by
  rw [rightL, List.filterMap_eq_nil_iff]
  intro x _
  rw [rightF, hbN_M0, ite_self]
theorem shape_M0 (xs : List (Nat × Int)) : shapeL M0 xs = List.replicate xs.length 0 := by
  rw [shapeL, List.map_eq_replicate_iff]
  intro x _
  rw [someB, hbN_M0]; rfl
theorem out1 : (outL 5 5 12 0).length = 12 := by decide
theorem out2 : (outL 0 2047 12 0).length = 1 := by decide
theorem out3 : (outL 1 4095 12 0).length = 1 := by decide
end PA
namespace Go.Proofs.YtcmjbjlliehdiaaDoor
open Go.RowKit PA
theorem arange_empty {W w : World} {A : Assn} {I : Mem} (hw : WholeOK W) (p : Nat) (a b : Int) (hn : 0 ≤ a ∧ a ≤ b ∧ b ≤ 4095) (N : Nat) (hN : (outL a b 12 0).length = N) (h : Sat W w (sep (isAM p M0) (sep (kn I) A))) :
    Calls Tryd.prog 17 #[.pointer (some ⟨p, 0, none⟩), .int .i64 a, .int .i64 b] w fun e w' => ∃ pa pc la lc ra rc sa sc J, Mem.le I J ∧ rBytes.rel J [.slice sa N sc] (List.replicate N 0) ∧
      e = .returned (.tuple #[.slice pa 0 pc, .agg #[.slice la 0 lc, .slice ra 0 rc, .slice sa N sc], .int .i64 0]) ∧ Sat W w' (sep (isAM p M0) (sep (kn J) A)) := by
  refine (arange_ok hw p M0 a b h hn).mono ?_
  rintro e w' ⟨pa, pc, cells, ks, la, lc, ra, rc, sa, sc, J, hk, hJ, rfl, h1⟩
  obtain rfl := keys_M0 hk
  rw [left_M0, right_M0, shape_M0, hN] at h1 ⊢
  have h2 : Sat W w' (sep (osl 5 1 sa N sc ((List.replicate N (0 : UInt8)).map bv)) (sep (kn J) (sep (isAM p M0) A))) := by
    have := h1.drop.drop.drop.drop
    rw [List.length_replicate] at this
    exact this
  obtain ⟨K, hK, hr, h3⟩ := osl_learnQ h2 (by rw [List.length_replicate])
  refine ⟨pa, pc, la, lc, ra, rc, sa, sc, K, Mem.le_trans hJ hK, hr, by rw [List.length_replicate]; rfl, ?_⟩
  simpa only [sep_comm, sep_lcomm, sep_assoc] using h3
theorem same_knQ {W w : World} {A : Assn} {J : Mem} (v u : Value) (x : List UInt8) (h : Sat W w (sep (kn J) A)) (h1 : rBytes.rel J [v] x) (h2 : rBytes.rel J [u] x) :
    Calls Tryd.prog 34 #[v, u] w fun e w' => e = .returned (.bool true) ∧ Sat W w' (sep (kn J) A) := by
  have := sameBytes_spec v u x x ((h.tell h2).p1.tell h1).p2.p1
  rw [decide_eq_true rfl] at this
  exact this.mono fun e w' ⟨h1, h2⟩ => ⟨h1, h2.drop.drop⟩
theorem root_M0 : rootN M0 = 0 := by rw [rootN, hbN_M0]; rfl
theorem nkeys_M0 : nkeys M0 = 0 := nkeys_none
set_option maxRecDepth 100000 in
set_option maxHeartbeats 8000000 in
theorem lives33_spec {W w : World} {A : Assn} {I : Mem} (hw : WholeOK W) (h : Sat W w (sep (kn I) A)) :
    Calls Tryd.prog 24 #[] w fun e w' => e = .returned (.bool true) ∧ Sat W w' (sep (kn I) A) := by
  have HNEW := Lib.hid (anew_spec h)
  have HW := Lib.hid hw
  clear h hw
  go_enter Tryd.func24, Tryd.ntmps24
  go_wp2_with fail
  refine HNEW.out.mono ?_
  rintro e w1 ⟨p, rfl, h1⟩
  have h1' : Sat W w1 (sep (isAM p M0) (sep (kn I) A)) := h1
  have hr := aroot_spec HW.out p M0 h1'
  rw [root_M0] at hr
  have HR := Lib.hid hr
  clear HNEW h1 h1' hr
  go_wp2_with fail
  refine HR.out.mono ?_
  rintro e w2 ⟨rfl, h2⟩
  have hl := alen_spec p M0 h2
  rw [nkeys_M0] at hl
  have HL := Lib.hid hl
  clear HR h2 hl
  go_wp2_with fail
  refine HL.out.mono ?_
  rintro e w3 ⟨rfl, h3⟩
  have HA := Lib.hid (arange_empty HW.out p 5 5 (by omega) 12 out1 h3)
  clear HL h3
  go_wp2_with fail
  refine HA.out.mono ?_
  rintro e w4 ⟨pa, pc, la, lc, ra, rc, sa, sc, J1, hJ1, hs1, rfl, h4⟩
  have h5 := h4.alloc (.cells #[.slice la 0 lc, .slice ra 0 rc, .slice sa 12 sc] 40)
  obtain ⟨q1, hq1⟩ : ∃ q1, q1 = w4.heap.size := ⟨_, rfl⟩
  obtain ⟨w5, hw5⟩ : ∃ w5, w5 = w4.alloc (.cells #[.slice la 0 lc, .slice ra 0 rc, .slice sa 12 sc] 40) := ⟨_, rfl⟩
  rw [← hq1, ← hw5] at h5
  have HQ1 := Lib.hid (And.intro hq1 hw5)
  have HB := Lib.hid (arange_empty HW.out p 0 2047 (by omega) 1 out2 (show Sat W w5 (sep (isAM p M0) (sep (kn J1) (sep (blk q1 (.cells #[.slice la 0 lc, .slice ra 0 rc, .slice sa 12 sc] 40 (0, 0))) A))) by simpa only [sep_comm, sep_lcomm, sep_assoc] using h5))
  have HJ1 := Lib.hid (And.intro hJ1 hs1)
  clear HA h4 h5 hq1 hw5 hJ1 hs1
  go_upto_region 5 with (fail)
  rw [← HQ1.out.1, ← HQ1.out.2]
  go_wp2_with fail
  refine HB.out.mono ?_
  rintro e w6 ⟨pa2, pc2, la2, lc2, ra2, rc2, sa2, sc2, J2, hJ2, -, rfl, h6⟩
  have h7 := h6.alloc (.cells #[.slice la2 0 lc2, .slice ra2 0 rc2, .slice sa2 1 sc2] 40)
  obtain ⟨q2, hq2⟩ : ∃ q2, q2 = w6.heap.size := ⟨_, rfl⟩
  obtain ⟨w7, hw7⟩ : ∃ w7, w7 = w6.alloc (.cells #[.slice la2 0 lc2, .slice ra2 0 rc2, .slice sa2 1 sc2] 40) := ⟨_, rfl⟩
  rw [← hq2, ← hw7] at h7
  have HQ2 := Lib.hid (And.intro hq2 hw7)
  have HC := Lib.hid (arange_empty HW.out p 1 4095 (by omega) 1 out3 (show Sat W w7 (sep (isAM p M0) (sep (kn J2) (sep (blk q2 (.cells #[.slice la2 0 lc2, .slice ra2 0 rc2, .slice sa2 1 sc2] 40 (0, 0))) (sep (blk q1 (.cells #[.slice la 0 lc, .slice ra 0 rc, .slice sa 12 sc] 40 (0, 0))) A)))) by simpa only [sep_comm, sep_lcomm, sep_assoc] using h7))
  have HJ2 := Lib.hid hJ2
  clear HB h6 h7 hq2 hw7 hJ2
  go_upto_region 6 with (fail)
  rw [← HQ2.out.1, ← HQ2.out.2]
  go_wp2_with fail
  refine HC.out.mono ?_
  rintro e w8 ⟨pa3, pc3, la3, lc3, ra3, rc3, sa3, sc3, J3, hJ3, -, rfl, h8⟩
  have h9 := h8.alloc (.cells #[.slice la3 0 lc3, .slice ra3 0 rc3, .slice sa3 1 sc3] 40)
  obtain ⟨q3, hq3⟩ : ∃ q3, q3 = w8.heap.size := ⟨_, rfl⟩
  obtain ⟨w9, hw9⟩ : ∃ w9, w9 = w8.alloc (.cells #[.slice la3 0 lc3, .slice ra3 0 rc3, .slice sa3 1 sc3] 40) := ⟨_, rfl⟩
  rw [← hq3, ← hw9] at h9
  have HQ3 := Lib.hid (And.intro hq3 hw9)
  have hd := h9.drew
  obtain ⟨wd, hwd⟩ : ∃ wd, wd = w9.drew := ⟨_, rfl⟩
  rw [← hwd] at hd
  have HJ3 := Lib.hid hJ3
  clear HC h8 h9 hq3 hw9 hJ3
  go_upto_region 7 with (fail)
  rw [← HQ3.out.1, ← HQ3.out.2]
  have ha : Sat W wd (sep (kn J3) (sep (blk q1 (.cells #[.slice la 0 lc, .slice ra 0 rc, .slice sa 12 sc] 40 (0, 0))) (sep (blk q2 (.cells #[.slice la2 0 lc2, .slice ra2 0 rc2, .slice sa2 1 sc2] 40 (0, 0))) (sep (blk q3 (.cells #[.slice la3 0 lc3, .slice ra3 0 rc3, .slice sa3 1 sc3] 40 (0, 0))) (sep (isAM p M0) A))))) := by
    simpa only [sep_comm, sep_lcomm, sep_assoc] using hd
  refine wp_region_canon rfl (fun w' => w'.cell? ⟨q1, 2, none⟩ = some (.slice sa 12 sc)) [(0, .p), (1, .p), (2, .p), (3, .p), (4, .p), (5, .p), (6, .p), (7, .p), (8, .p), (9, .p), (10, .p), (11, .p), (12, .s), (13, .e true), (14, .e false), (15, .p), (16, .p), (17, .p), (18, .t), (19, .p), (20, .p), (21, .p), (22, .p), (23, .p), (24, .t), (25, .p), (26, .p), (27, .p), (28, .p), (29, .p), (30, .t), (31, .p), (32, .p), (33, .t), (34, .p), (35, .p), (36, .p), (37, .t), (38, .p), (39, .p), (40, .p), (41, .p), (42, .p)] (by kernel_rfl) ?_
  rw [← hwd]
  clear hwd hd
  have hS0 : wd.cell? ⟨q1, 2, none⟩ = some (.slice sa 12 sc) := ha.p1.cell 2
  (repeat ((first | (refine C_p (v := ?_) rfl rfl (fun w' => ?_) ?_; rotate_left; (go_simp; with_reducible rfl)) | (refine C_s (v := ?_) rfl rfl hS0 (fun w' hS => ?_) ?_; rotate_left; ((try dsimp only at hS); go_simp; with_reducible rfl)) | (refine C_t (v := ?_) rfl rfl ?_ ?_; rotate_left; (go_simp; with_reducible rfl)) | (refine C_po rfl rfl ?_) | (refine C_so rfl rfl hS0 ?_) | (refine C_to rfl rfl ?_)); simp only [Act.put, List.setIfInBounds_toArray, List.set_cons_zero, List.set_cons_succ]))
  obtain ⟨wm', hmk0, hm1⟩ := make_bytes (P := Tryd.prog) (t := 32) (e := 5) Tryd.underlying32 infoU8c ha 12 (by omega)
  have hmk : (Instr.makeSlice 32 (.int .i64 12) (.int .i64 12)).run Tryd.prog wd = .ok (.slice (some ⟨wd.heap.size, 0, none⟩) 12 12) wm' := hmk0
  obtain ⟨mb, hmb⟩ : ∃ mb, mb = wd.heap.size := ⟨_, rfl⟩
  rw [← hmb] at hmk hm1
  obtain ⟨J4, hJ4, hz, hm2⟩ := osl_learnQ (show Sat W wm' (sep (osl 5 1 (some ⟨mb, 0, none⟩) 12 12 ((List.replicate 12 (0 : UInt8)).map bv)) (sep (kn J3) (sep (blk q1 (.cells #[.slice la 0 lc, .slice ra 0 rc, .slice sa 12 sc] 40 (0, 0))) (sep (blk q2 (.cells #[.slice la2 0 lc2, .slice ra2 0 rc2, .slice sa2 1 sc2] 40 (0, 0))) (sep (blk q3 (.cells #[.slice la3 0 lc3, .slice ra3 0 rc3, .slice sa3 1 sc3] 40 (0, 0))) (sep (isAM p M0) A)))))) from hm1) rfl
  have hsb := same_knQ (.slice sa 12 sc) (.slice (some ⟨mb, 0, none⟩) 12 12) (List.replicate 12 0) hm2 (rBytes.mono (Mem.le_trans HJ2.out (Mem.le_trans HJ3.out hJ4)) HJ1.out.2) hz
  have HSB := Lib.hid hsb
  have hS1 : wm'.cell? ⟨q1, 2, none⟩ = some (.slice sa 12 sc) := hm2.p1.cell 2
  have HJ4 := Lib.hid hJ4
  clear ha hmk0 hm1 hmb hz hm2 hsb hJ4 hS0
  (refine C_e rfl rfl (fun K hK => ?_); go_simp)
  (refine hK _ _ (fun _ => hS1) ?_; clear hK K; (try simp only [Act.put, List.setIfInBounds_toArray, List.set_cons_zero, List.set_cons_succ]))
  clear hS1 hmk
  (repeat ((first | (refine C_p (v := ?_) rfl rfl (fun w' => ?_) ?_; rotate_left; (go_simp; with_reducible rfl)) | (refine C_s (v := ?_) rfl rfl hS0 (fun w' hS => ?_) ?_; rotate_left; ((try dsimp only at hS); go_simp; with_reducible rfl)) | (refine C_t (v := ?_) rfl rfl ?_ ?_; rotate_left; (go_simp; with_reducible rfl)) | (refine C_po rfl rfl ?_) | (refine C_so rfl rfl hS0 ?_) | (refine C_to rfl rfl ?_)); simp only [Act.put, List.setIfInBounds_toArray, List.set_cons_zero, List.set_cons_succ]))
  (refine C_e rfl rfl (fun K hK => ?_); go_simp)
  refine HSB.out.mono ?_
  rintro e wn ⟨rfl, hn⟩
  clear HSB
  have t0 : wn.cell? ⟨q2, 2, none⟩ = some (.slice sa2 1 sc2) := hn.p2.cell 2
  have t1 : wn.cell? ⟨q3, 2, none⟩ = some (.slice sa3 1 sc3) := hn.p3.cell 2
  have t2 : wn.cell? ⟨q1, 0, none⟩ = some (.slice la 0 lc) := hn.p1.cell 0
  have t3 : wn.cell? ⟨q2, 1, none⟩ = some (.slice ra2 0 rc2) := hn.p2.cell 1
  have t4 : wn.cell? ⟨q3, 0, none⟩ = some (.slice la3 0 lc3) := hn.p3.cell 0
  have HN := Lib.hid hn
  clear hn
  (refine hK _ _ (fun h => by cases h) ?_; clear hK K; (try simp only [Act.put, List.setIfInBounds_toArray, List.set_cons_zero, List.set_cons_succ]))
  (repeat ((first | (refine C_p (v := ?_) rfl rfl (fun w' => ?_) ?_; rotate_left; (go_simp; with_reducible rfl)) | (refine C_s (v := ?_) rfl rfl hS0 (fun w' hS => ?_) ?_; rotate_left; ((try dsimp only at hS); go_simp; with_reducible rfl)) | (refine C_t (v := ?_) rfl rfl ?_ ?_; rotate_left; (go_simp; with_reducible rfl)) | (refine C_po rfl rfl ?_) | (refine C_so rfl rfl hS0 ?_) | (refine C_to rfl rfl ?_)); simp only [Act.put, List.setIfInBounds_toArray, List.set_cons_zero, List.set_cons_succ]))
  refine C_nil ?_
  go_wp2_with fail
  go_ret
  refine ⟨rfl, ?_⟩
  have h1 := HN.out.kn_mono (Mem.le_trans HJ1.out.1 (Mem.le_trans HJ2.out (Mem.le_trans HJ3.out HJ4.out)))
  exact (show Sat W wn (sep (blk q1 (.cells #[.slice la 0 lc, .slice ra 0 rc, .slice sa 12 sc] 40 (0, 0))) (sep (blk q2 (.cells #[.slice la2 0 lc2, .slice ra2 0 rc2, .slice sa2 1 sc2] 40 (0, 0))) (sep (blk q3 (.cells #[.slice la3 0 lc3, .slice ra3 0 rc3, .slice sa3 1 sc3] 40 (0, 0))) (sep (isAM p M0) (sep (kn I) A))))) by simpa only [sep_comm, sep_lcomm, sep_assoc] using h1).drop.drop.drop.drop
end Go.Proofs.YtcmjbjlliehdiaaDoor
/- What came in: rows of integers and of bytes, as known slices. -/
namespace PA
open Go Go.RowKit
def wm (w : World) : Mem := fun b => w.heap[b]?
theorem Sat.startKn (W : World) : Sat W W (sep (kn (wm W)) emp) :=
  ⟨rfl, rfl, rfl, wm W, Mem.no, fun _ _ h => h, fun _ _ h => h, fun _ _ h => (by simp [Mem.no] at h), Mem.no, Mem.no, fun _ => .inl rfl, (Mem.un_no _).symm, ⟨rfl, Mem.le_refl _⟩, rfl⟩
theorem ints_rel {I : Mem} {v : Value} {ns : List Int} : (rInt.slice 1).rel I [v] ns ↔ ∃ a c, v = .slice a ns.length c ∧ Swf a ns.length c ∧ cellsAt a (ns.map iv) I := by
  constructor
  · rintro ⟨a, c, cells, h1, h2, h3, h4⟩
    cases h1
    rw [(rows_rInt _ _ _).1 h4] at h3
    exact ⟨a, c, rfl, h2, h3⟩
  · rintro ⟨a, c, rfl, h2, h3⟩
    exact ⟨a, c, _, rfl, h2, h3, (rows_rInt _ _ _).2 rfl⟩
theorem cellsAt_of {w : World} {x : Addr} {us : List Value} (h : ∀ j u, us[j]? = some u → w.cell? (x.add j) = some u) : cellsAt (some x) us (wm w) := by
  cases us with
  | nil => exact .inl rfl
  | cons u us =>
    right
    have h0 := h 0 u rfl
    have e0 : x.add 0 = x := rfl
    rw [e0] at h0
    obtain ⟨b, o, sp⟩ := x
    unfold World.cell? at h0
    dsimp only at h0
    cases hb : w.heap[b]? with
    | none => rw [hb] at h0; cases h0
    | some ob =>
      rw [hb] at h0
      cases ob with
      | cells c t f =>
        dsimp only at h0
        cases sp with
        | some q => simp at h0
        | none =>
          refine ⟨b, o, c, t, f, rfl, hb, fun i v hv => ?_⟩
          have hi := h i v hv
          have e : (⟨b, o, none⟩ : Addr).add i = ⟨b, o + i, none⟩ := by unfold Addr.add; split <;> simp_all
          rw [e] at hi
          unfold World.cell? at hi
          dsimp only at hi
          rw [hb] at hi
          simpa using hi
      | _ => cases h0
end PA
namespace Go.Proofs.YtcmjbjlliehdiaaDoor
open Go.RowKit PA
def I64' (n : Int) : Prop := -9223372036854775808 ≤ n ∧ n ≤ 9223372036854775807
/-- A row of integers that came in. -/
def IsArg (w : World) (a : Option Addr) (len cap : Nat) (zs : List Int) : Prop :=
  (a = none ∧ len = 0 ∧ cap = 0 ∧ zs = []) ∨
  ∃ x, a = some x ∧ len ≤ cap ∧ cap ≤ maxLen ∧ zs.length = cap ∧ (∀ i, i < zs.length → w.cell? (x.add i) = some (.int .i64 (zs.getD i 0))) ∧ ∀ n ∈ zs, (Lit.int .i64 n).wf = true
theorem argI {w : World} {a : Option Addr} {len cap : Nat} {zs : List Int} (h : IsArg w a len cap zs) :
    ∃ l : List Int, len = l.length ∧ (rInt.slice 1).rel (wm w) [.slice a len cap] l ∧ ∀ n ∈ l, I64' n := by
  rcases h with ⟨rfl, rfl, rfl, rfl⟩ | ⟨x, rfl, h1, h2, h3, h4, h5⟩
  · exact ⟨[], rfl, ints_rel.2 ⟨none, 0, rfl, ⟨Nat.le_refl _, Nat.zero_le _, fun _ => rfl⟩, .inl rfl⟩, fun n hn => by cases hn⟩
  · have hl : len = (zs.take len).length := by simp; omega
    refine ⟨zs.take len, hl, ints_rel.2 ⟨some x, cap, by rw [← hl], ⟨by rw [← hl]; exact h1, h2, fun e => by cases e⟩, cellsAt_of fun j u hu => ?_⟩, fun n hn => ?_⟩
    · rw [List.getElem?_map, List.getElem?_take] at hu
      split at hu
      · rename_i hj
        have hjz : j < zs.length := by omega
        rw [List.getElem?_eq_getElem hjz] at hu
        rw [h4 j hjz, ← hu, List.getD_eq_getElem?_getD, List.getElem?_eq_getElem hjz]
        rfl
      · cases hu
    · exact i64_of_wf (h5 n (List.mem_of_mem_take hn))
/-- A row of bytes that came in. -/
def IsArgB (w : World) (a : Option Addr) (len cap : Nat) (zs : List Int) : Prop :=
  (a = none ∧ len = 0 ∧ cap = 0 ∧ zs = []) ∨
  ∃ x, a = some x ∧ len ≤ cap ∧ cap ≤ maxLen ∧ zs.length = cap ∧ (∀ i, i < zs.length → w.cell? (x.add i) = some (.int .u8 (zs.getD i 0))) ∧ ∀ n ∈ zs, (Lit.int .u8 n).wf = true
theorem argB {w : World} {a : Option Addr} {len cap : Nat} {zs : List Int} (h : IsArgB w a len cap zs) :
    ∃ l : List UInt8, len = l.length ∧ rBytes.rel (wm w) [.slice a len cap] l := by
  rcases h with ⟨rfl, rfl, rfl, rfl⟩ | ⟨x, rfl, h1, h2, h3, h4, h5⟩
  · exact ⟨[], rfl, bytes_rel.2 ⟨none, 0, rfl, ⟨Nat.le_refl _, Nat.zero_le _, fun _ => rfl⟩, .inl rfl⟩⟩
  · have hl : len = ((zs.take len).map fun n => UInt8.ofNat n.toNat).length := by simp; omega
    refine ⟨_, hl, bytes_rel.2 ⟨some x, cap, by rw [← hl], ⟨by rw [← hl]; exact h1, h2, fun e => by cases e⟩, cellsAt_of fun j u hu => ?_⟩⟩
    rw [List.map_map, List.getElem?_map, List.getElem?_take] at hu
    split at hu
    · rename_i hj
      have hjz : j < zs.length := by omega
      rw [List.getElem?_eq_getElem hjz] at hu
      rw [h4 j hjz, ← hu]
      have hw := h5 zs[j] (List.getElem_mem hjz)
      have hb2 : 0 ≤ zs[j] ∧ zs[j] ≤ 255 := bounds_u8 hw
      have e1 : zs.getD j 0 = zs[j] := by rw [List.getD_eq_getElem?_getD, List.getElem?_eq_getElem hjz]; rfl
      rw [e1]
      show some (Value.int .u8 zs[j]) = some (Value.int .u8 ((UInt8.ofNat zs[j].toNat).toNat : Int))
      congr 2
      simp; omega
    · cases hu
end Go.Proofs.YtcmjbjlliehdiaaDoor
/- Known lists of hashes; sameHashes, SameProof, bare, proof, SamePairs. -/
namespace Go.Proofs.YtcmjbjlliehdiaaDoor
open Go.RowKit PA
attribute [local go_sem] Oper.semAt_some
def rU64 : Rep Nat := ⟨fun _ cs n => cs = [.int .u64 (n : Nat)], fun _ h => h⟩
theorem rows_rU64 (I : Mem) : ∀ (cs : List Value) (bs : List Nat), (rU64.rows 1).rel I cs bs ↔ cs = bs.map uv := by
  intro cs bs
  constructor
  · rintro ⟨css, rfl, h⟩
    induction bs generalizing css with
    | nil => cases css with
      | nil => rfl
      | cons _ _ => exact h.elim
    | cons b bs ih => cases css with
      | nil => exact h.elim
      | cons c css =>
        have h1 : c = [.int .u64 (b : Nat)] := h.1.1
        simp only [List.flatten_cons, ih css h.2, h1, List.map_cons, uv]; rfl
  · rintro rfl
    refine ⟨bs.map fun b => [uv b], ?_, ?_⟩
    · rw [← flatten1 (bs.map uv)]; simp [Function.comp_def]
    · induction bs with
      | nil => trivial
      | cons b bs ih => exact ⟨⟨rfl, rfl⟩, ih⟩
abbrev rHs : Rep (List Nat) := rU64.slice 1
theorem hs_rel {I : Mem} {v : Value} {ns : List Nat} : rHs.rel I [v] ns ↔ ∃ a c, v = .slice a ns.length c ∧ Swf a ns.length c ∧ cellsAt a (ns.map uv) I := by
  constructor
  · rintro ⟨a, c, cells, h1, h2, h3, h4⟩
    cases h1
    rw [(rows_rU64 _ _ _).1 h4] at h3
    exact ⟨a, c, rfl, h2, h3⟩
  · rintro ⟨a, c, rfl, h2, h3⟩
    exact ⟨a, c, _, rfl, h2, h3, (rows_rU64 _ _ _).2 rfl⟩
theorem hs_nil (I : Mem) : rHs.rel I [.slice none 0 0] [] := hs_rel.2 ⟨none, 0, rfl, ⟨Nat.le_refl _, Nat.zero_le _, fun _ => rfl⟩, .inl rfl⟩
theorem hs_learn {W w : World} {A : Assn} {I : Mem} {a : Option Addr} {l c : Nat} {hs : List Nat} (h : Sat W w (sep (osl 43 1 a l c (hs.map uv)) (sep (kn I) A))) (hl : l = hs.length) : ∃ J, Mem.le I J ∧ rHs.rel J [.slice a l c] hs ∧ Sat W w (sep (kn J) A) := by
  subst hl
  have h1 := (rows_nil rU64 1 h).p1
  have h2 : Sat W w (sep (osl 43 1 a hs.length c (hs.map uv)) (sep ((rU64.rows 1).is (hs.map uv) hs) (sep (kn I) A))) := by
    have h3 := (show Sat W w (sep (kn I) (sep (osl 43 1 a hs.length c (hs.map uv)) A)) by simpa only [sep_comm, sep_lcomm, sep_assoc] using h).tell (p := fun I => (rU64.rows 1).rel I (hs.map uv) hs) (hp := fun _ _ hl => (rU64.rows 1).mono hl) ((rows_rU64 _ _ _).2 rfl)
    have h4 : Sat W w (sep ((rU64.rows 1).is (hs.map uv) hs) (sep (kn I) (sep (osl 43 1 a hs.length c (hs.map uv)) A))) := h3
    simpa only [sep_comm, sep_lcomm, sep_assoc] using h4
  exact (Sat.slice_of_osl (R := rU64) (xs := hs) h2 rfl).learn
theorem ret_bq {b c : Bool} (h : b = c) : Ending.returned (.bool b) = .returned (.bool c) := by rw [h]
set_option maxRecDepth 100000 in
set_option maxHeartbeats 4000000 in
theorem sameHashes_spec {W w : World} {A : Assn} {I : Mem} (v u : Value) (x y : List Nat) (h : Sat W w (sep (kn I) A)) (h1 : rHs.rel I [v] x) (h2 : rHs.rel I [u] y) :
    Calls Tryd.prog 56 #[v, u] w fun e w' => e = .returned (.bool (decide (x = y))) ∧ Sat W w' (sep (kn I) A) := by
  obtain ⟨a, c, rfl, hw1, hx⟩ := hs_rel.1 h1
  obtain ⟨b, d, rfl, hw2, hy⟩ := hs_rel.1 h2
  have hl1 : (x.length : Int) ≤ 9223372036854775807 := by have := hw1.1; have := hw1.2.1; unfold maxLen at this; omega
  have hl2 : (y.length : Int) ≤ 9223372036854775807 := by have := hw2.1; have := hw2.2.1; unfold maxLen at this; omega
  obtain ⟨nx, hnx⟩ : ∃ nx, nx = x.length := ⟨_, rfl⟩
  obtain ⟨ny, hny⟩ : ∃ ny, ny = y.length := ⟨_, rfl⟩
  have HX := Lib.hid hx
  have HY := Lib.hid hy
  rw [← hnx] at hl1 ⊢
  rw [← hny] at hl2 ⊢
  have HNX := Lib.hid hnx
  have HNY := Lib.hid hny
  have H := Lib.hid h
  clear hx hy h h1 h2 hw1 hw2
  by_cases hne : nx = ny
  · subst hne
    clear hnx hny
    go_enter Tryd.func56, Tryd.ntmps56
    go_wp2
    go_loopw [5] (fun i wr => ∃ k : Nat, k ≤ nx ∧ i = .int .i64 k ∧ Hid (x.take k = y.take k) ∧ Sat W wr (sep (kn I) A)) (fun i _ => nx - (intOf i).toNat)
    case atStart => exact ⟨0, Nat.zero_le _, rfl, Lib.hid (by rw [List.take_zero, List.take_zero]), H.out⟩
    case round =>
      obtain ⟨k, hk, rfl, HT, hS⟩ := hrel
      by_cases hlt : k < nx
      · have k1 : k < x.length := by have := HNX.out; omega
        have k2 : k < y.length := by have := HNY.out; omega
        obtain ⟨wd, hwd⟩ : ∃ wd, wd = wr.drew := ⟨_, rfl⟩
        have hd := hS.drew
        rw [← hwd] at hd
        obtain ⟨b1, o1, rfl, hc1⟩ := cells_ext HX.out (by intro e; rw [List.map_eq_nil_iff] at e; rw [e] at k1; simp at k1)
        obtain ⟨b2, o2, rfl, hc2⟩ := cells_ext HY.out (by intro e; rw [List.map_eq_nil_iff] at e; rw [e] at k2; simp at k2)
        have g1 := hc1 wd hd.ext k (uv x[k]) (by simp [k1])
        have g2 := hc2 wd hd.ext k (uv y[k]) (by simp [k2])
        clear hc1 hc2
        obtain ⟨xk, hxk⟩ : ∃ z, z = x[k] := ⟨_, rfl⟩
        obtain ⟨yk, hyk⟩ : ∃ z, z = y[k] := ⟨_, rfl⟩
        rw [← hxk] at g1
        rw [← hyk] at g2
        have HXK := Lib.hid hxk
        have HYK := Lib.hid hyk
        have HD := Lib.hid hd
        unfold uv at g1 g2
        clear hxk hyk hS hd
        by_cases hxy : xk = yk
        · subst hxy
          have b1 : (((xk : Nat) : Int) != ((xk : Nat) : Int)) = false := by simp
          go_wp2_with fail
          refine wp_region_canon rfl (fun _ => True) [(0, .p), (1, .p), (2, .p), (3, .t), (4, .p), (5, .p), (6, .p), (7, .t), (8, .p)] (by kernel_rfl) ?_
          rw [← hwd]
          clear hwd
          have hS0 : True := trivial
          (repeat ((first | (refine C_p (v := ?_) rfl rfl (fun w' => ?_) ?_; rotate_left; (go_simp; with_reducible rfl)) | (refine C_s (v := ?_) rfl rfl hS0 (fun w' hS => ?_) ?_; rotate_left; ((try dsimp only at hS); go_simp; with_reducible rfl)) | (refine C_t (v := ?_) rfl rfl ?_ ?_; rotate_left; (go_simp; with_reducible rfl)) | (refine C_po rfl rfl ?_) | (refine C_so rfl rfl hS0 ?_) | (refine C_to rfl rfl ?_)); simp only [Act.put, List.setIfInBounds_toArray, List.set_cons_zero, List.set_cons_succ]))
          refine C_nil ?_
          go_wp2_with fail
          go_roundw
          case rel => exact ⟨k + 1, by omega, rfl, Lib.hid (by rw [List.take_succ_eq_append_getElem k1, List.take_succ_eq_append_getElem k2, HT.out, ← HXK.out, ← HYK.out]), HD.out⟩
          case measure => simp only [intOf]; omega
        · have b1 : (((xk : Nat) : Int) != ((yk : Nat) : Int)) = true := by simp; omega
          have HXY := Lib.hid hxy
          clear hxy
          go_wp2_with fail
          refine wp_region_canon rfl (fun _ => True) [(0, .p), (1, .p), (2, .p), (3, .t), (4, .p), (5, .p), (6, .p), (7, .t), (8, .p)] (by kernel_rfl) ?_
          rw [← hwd]
          clear hwd
          have hS0 : True := trivial
          (repeat ((first | (refine C_p (v := ?_) rfl rfl (fun w' => ?_) ?_; rotate_left; (go_simp; with_reducible rfl)) | (refine C_s (v := ?_) rfl rfl hS0 (fun w' hS => ?_) ?_; rotate_left; ((try dsimp only at hS); go_simp; with_reducible rfl)) | (refine C_t (v := ?_) rfl rfl ?_ ?_; rotate_left; (go_simp; with_reducible rfl)) | (refine C_po rfl rfl ?_) | (refine C_so rfl rfl hS0 ?_) | (refine C_to rfl rfl ?_)); simp only [Act.put, List.setIfInBounds_toArray, List.set_cons_zero, List.set_cons_succ]))
          refine C_nil ?_
          go_wp2_with fail
          go_ret
          refine ⟨ret_bq (Eq.symm (decide_eq_false (fun e => HXY.out (by have h1 := HXK.out; have h2 := HYK.out; subst e; exact h1.trans h2.symm)))), HD.out⟩
      · obtain rfl : k = nx := by omega
        have HS := Lib.hid hS
        clear hS
        go_wp2_with fail
        go_ret
        refine ⟨ret_bq (Eq.symm (decide_eq_true ?_)), HS.out⟩
        have := HT.out
        rw [List.take_of_length_le (by rw [HNX.out]; exact Nat.le_refl _), List.take_of_length_le (by rw [HNY.out]; exact Nat.le_refl _)] at this
        exact this
  · have hneI : ((nx : Int) != (ny : Int)) = true := by simp; omega
    have HNE := Lib.hid hne
    clear hne hnx hny
    go_enter Tryd.func56, Tryd.ntmps56
    go_wp2_with fail
    go_ret
    refine ⟨ret_bq (Eq.symm (decide_eq_false fun e => HNE.out (by rw [HNX.out, HNY.out, e]))), H.out⟩
/-- A proof, as the value of a struct. -/
def prfV (t : Option Addr × Nat × Nat) (u : Option Addr × Nat × Nat) (s : Option Addr × Nat × Nat) : Value := .agg #[.slice t.1 t.2.1 t.2.2, .slice u.1 u.2.1 u.2.2, .slice s.1 s.2.1 s.2.2]
/-- Hashes to the left and to the right, and the shape. -/
structure Prf where
  l : List Nat
  r : List Nat
  s : List UInt8
  deriving DecidableEq
def prfR (I : Mem) (v : Value) (p : Prf) : Prop := ∃ a b c, v = .agg #[a, b, c] ∧ rHs.rel I [a] p.l ∧ rHs.rel I [b] p.r ∧ rBytes.rel I [c] p.s
theorem prfR.mono {I J : Mem} {v : Value} {p : Prf} (hl : Mem.le I J) (h : prfR I v p) : prfR J v p := by
  obtain ⟨a, b, c, e, h1, h2, h3⟩ := h
  exact ⟨a, b, c, e, rHs.mono hl h1, rHs.mono hl h2, rBytes.mono hl h3⟩
end Go.Proofs.YtcmjbjlliehdiaaDoor
