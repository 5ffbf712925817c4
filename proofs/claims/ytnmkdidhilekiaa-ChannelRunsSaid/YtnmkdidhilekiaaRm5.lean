/- The reference model of package channel: In, the walk. -/
import Derived.Test.YtnmkdidhilekiaaRm2
import Derived.Test.YtnmkdidhilekiaaRm4
import Derived.Deep.LoopGhost
namespace Go.Proofs.Ytnmkdidhilekiaa
open Go.RowKit PA
theorem infoHeld : (Try.prog.info? 91).map (fun i => (i.zero, i.size, i.bytes)) = some (some (.agg #[.int .i64 0, .slice none 0 0]), 2, 32) := by kernel_rfl
def RInPost (W : World) (A : Assn) (p : Nat) (K : Int) (m : MEnd) (seq ack : Int) (bs : List UInt8) (e : Ending) (w' : World) : Prop :=
  ∃ a c outs m', e = .returned (.slice a outs.length c) ∧ InPost (absM m) seq ack bs outs (absM m') ∧ MOk K m' ∧ mlook m'.held (m'.got + 1) = none ∧ m'.sent = m.sent ∧ m'.win = m.win ∧ m'.held.length ≤ m.held.length + 1 ∧ Swf a outs.length c ∧
    Sat W w' (sep ((rBytes.slice 1).is [.slice a outs.length c] outs) (sep (isM p m') A))
theorem rin_nil {W w : World} {A : Assn} {p : Nat} {K : Int} {m m' : MEnd} {seq ack : Int} {bs : List UInt8} (h : Sat W w (sep (isM p m') A)) (hp : InPost (absM m) seq ack bs [] (absM m')) (hok : MOk K m') (hno : mlook m'.held (m'.got + 1) = none) (hs : m'.sent = m.sent) (hw : m'.win = m.win) (hl : m'.held.length ≤ m.held.length) :
    RInPost W A p K m seq ack bs (.returned (.slice none 0 0)) w :=
  ⟨none, 0, [], m', rfl, hp, hok, hno, hs, hw, by omega, ⟨Nat.le_refl _, Nat.zero_le _, fun _ => rfl⟩, ((h.rows_nil rBytes 1).osl_nil 31 1).slice_of_osl rfl⟩
theorem addrN (g o j : Nat) : (⟨g, o, none⟩ : Addr).add j = ⟨g, o + j, none⟩ := by unfold Addr.add; split <;> simp_all
theorem addr0 (g j : Nat) : (⟨g, 0, none⟩ : Addr).add j = ⟨g, j, none⟩ := by unfold Addr.add; split <;> simp_all
theorem rows_erase {α : Type} {R : Rep α} {k : Nat} {I : Mem} {cs : List Value} {xs : List α} (h : (R.rows k).rel I cs xs) (i : Nat) : (R.rows k).rel I (cs.take (i * k) ++ cs.drop ((i + 1) * k)) (xs.eraseIdx i) := by
  obtain ⟨css, rfl, hall⟩ := h
  have hl : ∀ c ∈ css, c.length = k := fun c hc => (hall.mem c hc).choose_spec.2
  refine ⟨css.take i ++ css.drop (i + 1), ?_, ?_⟩
  · rw [List.flatten_append, flatten_take css hl, flatten_drop css hl]
  · rw [List.eraseIdx_eq_take_drop_succ]
    exact (hall.take i).append (hall.drop (i + 1))
def RInRel (W : World) (A : Assn) (p : Nat) (K : Int) (m3 : MEnd) (k : Nat) (out : Value) (wr : World) : Prop :=
  ∃ a c vs outs m', out = .slice a outs.length c ∧ DlvPre (absM m3) outs (absM m') ∧ MOk K m' ∧ m'.sent = m3.sent ∧ m'.win = m3.win ∧ m'.held.length = k ∧ outs.length + k = m3.held.length ∧
    Sat W wr (sep (osl 31 1 a outs.length c vs) (sep ((rBytes.rows 1).is vs outs) (sep (isM p m') A)))
theorem rin_step {W w : World} {A : Assn} {p : Nat} {K : Int} {m3 m' : MEnd} {gk i g' : Nat} {a2 aS aH a4 ab' : Option Addr} {c2 cS cH cc c4' cb' : Nat} {vs vS vH : List Value} {outs : List (List UInt8)} {b : List UInt8}
    (hP : DlvPre (absM m3) outs (absM m')) (hok : MOk K m') (hms : m'.sent = m3.sent) (hmw : m'.win = m3.win) (hln : m'.held.length = gk) (hsum : outs.length + gk = m3.held.length) (hg : g' = m'.got) (hig : i < gk)
    (hf : fIdx m'.held ((g' : Int) + 1) = some i) (hb : b = (m'.held[i]'(by rw [hln]; exact hig)).2)
    (h12 : Sat W w (sep (blk p (.cells (((mCells m' aS cS aH cc).setIfInBounds 4 (.slice a4 (i + (gk - (i + 1))) c4')).setIfInBounds 3 (.int .i64 ((g' : Int) + 1))) 50 (0, 0))) (sep (osl 91 2 a4 (i + (gk - (i + 1))) c4' (vH.take (i * 2) ++ vH.drop ((i + 1) * 2)))
      (sep (osl 31 1 a2 (outs.length + 1) c2 (vs ++ [.slice ab' b.length cb'])) (sep (rBytes.is [.slice ab' b.length cb'] b) (sep (osl 91 2 aH m'.held.length cH vH) (sep ((rHeld.rows 2).is vH m'.held) (sep ((rBytes.rows 1).is vs outs) (sep (osl 31 1 aS m'.sent.length cS vS) (sep ((rBytes.rows 1).is vS m'.sent) A)))))))))) :
    RInRel W A p K m3 (gk - 1) (.slice a2 (outs.length + 1) c2) w := by
  obtain ⟨m4, hm4⟩ : ∃ m4, m4 = mAdv m' i := ⟨_, rfl⟩
  have hm4l : i + (gk - (i + 1)) = m4.held.length := by
    rw [hm4]
    show _ = (m'.held.eraseIdx i).length
    rw [List.length_eraseIdx, if_pos (by rw [hln]; exact hig), hln]
    omega
  have hB3 : Sat W w (sep ((rBytes.rows 1).is (vs ++ [.slice ab' b.length cb']) (outs ++ [b])) _) := h12.p3.p6.snoc rfl
  have hB4 := hB3.p4.drop
  have hB5 : Sat W w (sep ((rHeld.rows 2).is (vH.take (i * 2) ++ vH.drop ((i + 1) * 2)) (m'.held.eraseIdx i)) _) := hB4.p4.is_imp (T := rHeld.rows 2) (ds := vH.take (i * 2) ++ vH.drop ((i + 1) * 2)) (y := m'.held.eraseIdx i) fun I hI => rows_erase hI i
  have hfi : fIdx m'.held ((m'.got : Int) + 1) = some i := by rw [← hg]; exact hf
  obtain ⟨hi', hlook⟩ := mlook_of hfi
  have habs : absM m4 = advSt (absM m') := by rw [hm4]; exact abs_adv m' i hok.apart hfi
  have hs4 : m4.sent = m'.sent ∧ m4.win = m'.win ∧ m4.held = m'.held.eraseIdx i ∧ m4.acked = m'.acked ∧ m4.got = m'.got + 1 ∧ m4.ow = m'.ow := by rw [hm4]; exact ⟨rfl, rfl, rfl, rfl, rfl, rfl⟩
  have hok4 : MOk K m4 := by rw [hm4]; exact hok.adv i hfi
  clear hm4
  refine ⟨a2, c2, vs ++ [.slice ab' b.length cb'], outs ++ [b], m4, by simp, ?_, hok4, by rw [hs4.1]; exact hms, by rw [hs4.2.1]; exact hmw, by rw [← hm4l]; omega, by rw [List.length_append, List.length_singleton]; omega, ?_⟩
  · rw [habs]
    exact hP.snoc (by show mlook m'.held ((m'.got : Int) + 1) = some b; rw [hlook, hb])
  · have e1 : ((mCells m' aS cS aH cc).setIfInBounds 4 (.slice a4 (i + (gk - (i + 1))) c4')).setIfInBounds 3 (.int .i64 ((g' : Int) + 1)) = mCells m4 aS cS a4 c4' := by
      unfold mCells
      rw [hs4.1, hs4.2.1, hs4.2.2.2.1, hs4.2.2.2.2.1, hs4.2.2.2.2.2, ← hm4l, hg]
      rfl
    rw [e1, hm4l, show m'.held.eraseIdx i = m4.held from hs4.2.2.1.symm, show m'.sent = m4.sent from hs4.1.symm] at hB5
    rw [List.length_append, List.length_singleton]
    have h13 : Sat W w (sep (mAt p m4 aS cS vS a4 c4' (vH.take (i * 2) ++ vH.drop ((i + 1) * 2))) (sep (osl 31 1 a2 (outs.length + 1) c2 (vs ++ [.slice ab' b.length cb'])) (sep ((rBytes.rows 1).is (vs ++ [.slice ab' b.length cb']) (outs ++ [b])) A))) := by
      simp only [mAt]
      simpa only [sep_comm, sep_lcomm, sep_assoc] using hB5
    exact (isM_mk h13).q2
set_option maxHeartbeats 4000000 in
set_option maxRecDepth 100000 in
theorem rin_spec {W w : World} {A : Assn} (p : Nat) (m : MEnd) (K seq ack : Int) (v : Value) (bs : List UInt8) (h : Sat W w (sep (isM p m) (sep (rBytes.is [v] bs) A))) (hok : MOk K m) (hs : seq ≤ K) (hno : mlook m.held (m.got + 1) = none) (hl : m.held.length ≤ 900) :
    Calls Try.prog 21 #[.pointer (some ⟨p, 0, none⟩), .agg #[.int .i64 seq, .int .i64 ack, v]] w fun e w' => RInPost W A p K m seq ack bs e w' := by
  obtain ⟨ab, cb, rfl, hwf, -⟩ := h.p1.bytes_open
  obtain ⟨nb, hnb⟩ : ∃ nb, nb = bs.length := ⟨_, rfl⟩
  have hnm : nb ≤ maxLen := by have := hwf.1; have := hwf.2.1; omega
  obtain ⟨aS, cS, vS, aH, cH, vH, h⟩ := isM_open h
  rw [← hnb] at h ⊢
  obtain ⟨L, hL⟩ : ∃ L, L = m.sent.length := ⟨_, rfl⟩
  obtain ⟨q, hq⟩ : ∃ q, q = m.acked := ⟨_, rfl⟩
  obtain ⟨g, hgg⟩ : ∃ g, g = m.got := ⟨_, rfl⟩
  have hok' := hok
  obtain ⟨o1, o2, o3, o4, o5, o6⟩ := hok'
  rw [← hL, ← hq] at o1
  rw [← hL] at o2
  rw [← hgg] at o5
  have hgg1 : (g : Int) ≤ 1000000 := by omega
  have hA := h.alloc (.cells #[.int .i64 seq, .int .i64 ack, .slice ab nb cb] 40)
  have HL := Lib.hid hL
  have HQ := Lib.hid hq
  have HG := Lib.hid hgg
  have HNB := Lib.hid hnb
  have HOK := Lib.hid hok
  have HNO := Lib.hid hno
  obtain ⟨bp, hbp⟩ : ∃ bp, bp = w.heap.size := ⟨_, rfl⟩
  rw [← hbp] at hA
  have HBP := Lib.hid hbp
  have hwg : IntKind.i64.wrap ((g : Int) + 16) = (g : Int) + 16 := IntWalk.i64_in _ (by omega)
  clear hL hq hgg hnb hok hno hwf h o3 o4
  go_enter Try.func21, Try.ntmps21
  go_wp2_with fail
  rw [← HBP.out]
  refine (rvalid_spec _ _ _ _ _ hA hnm).mono ?_
  rintro e w1 ⟨rfl, h1⟩
  clear hA hbp
  have hcell : ∀ w', Sat W w' (sep (blk bp (.cells #[.int .i64 seq, .int .i64 ack, .slice ab nb cb] 40 (0, 0))) (sep (mAt p m aS cS vS aH cH vH) (sep (rBytes.is [.slice ab nb cb] bs) A))) →
      w'.cell? ⟨bp, 0, none⟩ = some (.int .i64 seq) ∧ w'.cell? ⟨bp, 1, none⟩ = some (.int .i64 ack) ∧ w'.cell? ⟨bp, 2, none⟩ = some (.slice ab nb cb) ∧ w'.cell? ⟨p, 1, none⟩ = some (.slice aS L cS) ∧ w'.cell? ⟨p, 2, none⟩ = some (.int .i64 q) ∧ w'.cell? ⟨p, 3, none⟩ = some (.int .i64 g) ∧ w'.frozen? ⟨p, 2, none⟩ = false := by
    intro w' h
    simp only [mAt, sep_assoc] at h
    exact ⟨h.cell 0, h.cell 1, h.cell 2, by rw [HL.out]; exact h.p1.cell 1, by rw [HQ.out]; exact h.p1.cell 2, by rw [HG.out]; exact h.p1.cell 3, h.p1.unfrozen 2⟩
  obtain ⟨d0, d1, d2, d3, d4, d5, -⟩ := hcell _ h1.drew
  have hS0 : True := trivial
  have hback : ∀ w', Sat W w' (sep (blk bp (.cells #[.int .i64 seq, .int .i64 ack, .slice ab nb cb] 40 (0, 0))) (sep (mAt p m aS cS vS aH cH vH) (sep (rBytes.is [.slice ab nb cb] bs) A))) → Sat W w' (sep (isM p m) A) := by
    intro w' h
    exact (isM_mk h.forget).p1.drop
  have HBACK := Lib.hid hback
  clear hback
  by_cases hcase : validB seq ack nb = true ∧ ack ≤ L ∧ seq ≤ (g : Int) + 16
  · obtain ⟨hv, hak, hsq⟩ := hcase
    have hv0 : 0 ≤ seq ∧ 0 ≤ ack := by simp [validB] at hv; omega
    obtain ⟨hseq0, hack0⟩ := hv0
    have f2 : decide ((L : Int) < ack) = false := by simp; omega
    have f3 : decide ((g : Int) + 16 < seq) = false := by simp; omega
    have HV := Lib.hid hv
    rw [hv]
    clear hv hwg
    have hwg : IntKind.i64.wrap ((g : Int) + 16) = (g : Int) + 16 := IntWalk.i64_in _ (by omega)
    go_wp2_with fail
    refine wp_region_canon rfl (fun _ => True) [(0, .p), (1, .p), (2, .p), (3, .p), (4, .t), (5, .p), (6, .p), (7, .p), (8, .t), (9, .p), (10, .p), (11, .p), (12, .p), (13, .p), (14, .t), (15, .p), (16, .p), (17, .p), (18, .t), (19, .p), (20, .p), (21, .p)] (by kernel_rfl) ?_
    (repeat (first | (refine C_p (v := ?_) rfl rfl (fun w' => ?_) ?_; rotate_left; (go_simp; with_reducible rfl); simp only [Act.put, List.setIfInBounds_toArray, List.set_cons_zero, List.set_cons_succ]) | (refine C_s (v := ?_) rfl rfl hS0 (fun w' hS => ?_) ?_; rotate_left; ((try dsimp only at hS); go_simp; with_reducible rfl); simp only [Act.put, List.setIfInBounds_toArray, List.set_cons_zero, List.set_cons_succ]) | (refine C_t (v := ?_) rfl rfl ?_ ?_; rotate_left; (go_simp; with_reducible rfl); simp only [Act.put, List.setIfInBounds_toArray, List.set_cons_zero, List.set_cons_succ]) | (refine C_po rfl rfl ?_; simp only [Act.put, List.setIfInBounds_toArray, List.set_cons_zero, List.set_cons_succ]) | (refine C_so rfl rfl hS0 ?_; simp only [Act.put, List.setIfInBounds_toArray, List.set_cons_zero, List.set_cons_succ]) | (refine C_to rfl rfl ?_; simp only [Act.put, List.setIfInBounds_toArray, List.set_cons_zero, List.set_cons_succ])))
    refine C_nil ?_
    have h2 := h1.drew.drew
    clear d0 d1 d2 d3 d4 d5 f2 f3
    obtain ⟨d0, d1, d2, d3, d4, d5, d6⟩ := hcell _ h2
    obtain ⟨a, ha⟩ : ∃ a : Nat, ack = a := ⟨ack.toNat, by omega⟩
    obtain ⟨mx, hmx⟩ : ∃ mx : Nat, mx = max q a := ⟨_, rfl⟩
    have hif : (if (q : Int) < ack then ack else (q : Int)) = (mx : Int) := by split <;> omega
    have HA := Lib.hid ha
    have HMX := Lib.hid hmx
    have HAK := Lib.hid hak
    have HSQ := Lib.hid hsq
    clear ha hmx
    go_wp2_with fail
    refine wp_region_canon rfl (fun _ => True) [(0, .p), (1, .p), (2, .p), (3, .p), (4, .t), (5, .p), (6, .t), (7, .p), (8, .p), (9, .p), (10, .e false)] (by kernel_rfl) ?_
    (repeat (first | (refine C_p (v := ?_) rfl rfl (fun w' => ?_) ?_; rotate_left; (go_simp; with_reducible rfl); simp only [Act.put, List.setIfInBounds_toArray, List.set_cons_zero, List.set_cons_succ]) | (refine C_s (v := ?_) rfl rfl hS0 (fun w' hS => ?_) ?_; rotate_left; ((try dsimp only at hS); go_simp; with_reducible rfl); simp only [Act.put, List.setIfInBounds_toArray, List.set_cons_zero, List.set_cons_succ]) | (refine C_t (v := ?_) rfl rfl ?_ ?_; rotate_left; (go_simp; with_reducible rfl); simp only [Act.put, List.setIfInBounds_toArray, List.set_cons_zero, List.set_cons_succ]) | (refine C_po rfl rfl ?_; simp only [Act.put, List.setIfInBounds_toArray, List.set_cons_zero, List.set_cons_succ]) | (refine C_so rfl rfl hS0 ?_; simp only [Act.put, List.setIfInBounds_toArray, List.set_cons_zero, List.set_cons_succ]) | (refine C_to rfl rfl ?_; simp only [Act.put, List.setIfInBounds_toArray, List.set_cons_zero, List.set_cons_succ])))
    (refine C_e rfl rfl (fun K hK => ?_); go_simp)
    (refine hK _ _ (fun h => by cases h) ?_; clear hK K; (try simp only [Act.put, List.setIfInBounds_toArray, List.set_cons_zero, List.set_cons_succ]))
    refine C_nil ?_
    obtain ⟨m1, hm1⟩ : ∃ m1, m1 = mAck m a := ⟨_, rfl⟩
    have ok1 : MOk K m1 := by rw [hm1]; exact HOK.out.mack a (by rw [← HL.out]; have := HA.out; omega)
    have abs1 : absM m1 = ackSt (absM m) ack := by rw [hm1, HA.out]; exact abs_ack m a
    have hsent : m1.sent = m.sent ∧ m1.win = m.win ∧ m1.held = m.held ∧ m1.got = m.got := by rw [hm1]; exact ⟨rfl, rfl, rfl, rfl⟩
    have h3 : Sat W (w1.setCell ⟨p, 2, none⟩ (.int .i64 mx)).drew.drew (sep (blk bp (.cells #[.int .i64 seq, .int .i64 ack, .slice ab nb cb] 40 (0, 0))) (sep (mAt p m1 aS cS vS aH cH vH) (sep (rBytes.is [.slice ab nb cb] bs) A))) := by
      have h4 := h1
      simp only [mAt, sep_assoc] at h4
      have h5 := (h4.p1.setCell 2 (.int .i64 mx)).drew.drew
      rw [show (mCells m aS cS aH cH).setIfInBounds 2 (.int .i64 mx) = mCells m1 aS cS aH cH by rw [hm1, HMX.out, HQ.out]; rfl] at h5
      simp only [mAt]
      rw [hsent.1, hsent.2.2.1]
      simpa only [sep_comm, sep_lcomm, sep_assoc] using h5
    generalize hw2 : (w1.setCell ⟨p, 2, none⟩ (.int .i64 mx)).drew.drew = w2 at h3 ⊢
    clear hw2 h1 h2 d0 d1 d2 d3 d4 d5 d6 hif hcell HBACK
    have hback : ∀ w' (m' : MEnd) vH, Sat W w' (sep (blk bp (.cells #[.int .i64 seq, .int .i64 ack, .slice ab nb cb] 40 (0, 0))) (sep (mAt p m' aS cS vS aH cH vH) (sep (rBytes.is [.slice ab nb cb] bs) A))) → Sat W w' (sep (isM p m') A) := by
      intro w' m' vH h
      exact (isM_mk h.forget).p1.drop
    have hgood : validB seq ack bs.length = true ∧ ack ≤ (absM m).ack + (absM m).wait.length ∧ seq ≤ (absM m).dlv + 16 := by
      refine ⟨by rw [← HNB.out]; exact HV.out, ?_, ?_⟩
      · show ack ≤ (m.acked : Int) + ((m.sent.drop m.acked).length : Int)
        rw [List.length_drop, ← HL.out, ← HQ.out]; have := HAK.out; omega
      · show seq ≤ (m.got : Int) + 16
        rw [← HG.out]; exact HSQ.out
    have HGOOD := Lib.hid hgood
    have HB := Lib.hid hback
    have HM1 := Lib.hid hm1
    have HAB := Lib.hid abs1
    have HOK1 := Lib.hid ok1
    have HSE := Lib.hid hsent
    have d0 : w2.cell? ⟨bp, 0, none⟩ = some (.int .i64 seq) := h3.cell 0
    clear hgood hback hm1 abs1 ok1 hsent hak hsq
    by_cases hs0 : seq = 0
    · have g1 : (seq == 0) = true := by simp [hs0]
      have HS0 := Lib.hid hs0
      clear hs0
      go_wp2_with fail
      go_ret
      refine rin_nil (HB.out _ _ _ h3) ?_ HOK1.out (by rw [HSE.out.2.2.1, HSE.out.2.2.2]; exact HNO.out) HSE.out.1 HSE.out.2.1 (by rw [HSE.out.2.2.1]; exact Nat.le_refl _)
      unfold InPost
      rw [if_pos HGOOD.out, if_pos HS0.out]
      exact ⟨rfl, HAB.out⟩
    · have g1 : (seq == 0) = false := by simp [hs0]
      have HS0 := Lib.hid hs0
      have h4 : Sat W w2 (sep (blk p (.cells (mCells m1 aS cS aH cH) 50 (0, 0))) (sep (blk bp (.cells #[.int .i64 seq, .int .i64 ack, .slice ab nb cb] 40 (0, 0))) (sep (osl 31 1 aS m1.sent.length cS vS) (sep ((rBytes.rows 1).is vS m1.sent) (sep (osl 91 2 aH m1.held.length cH vH) (sep ((rHeld.rows 2).is vH m1.held) (sep (rBytes.is [.slice ab nb cb] bs) A))))))) := by
        simp only [mAt] at h3
        simpa only [sep_comm, sep_lcomm, sep_assoc] using h3
      have e5 : w2.cell? ⟨p, 5, none⟩ = some (.bool m1.ow) := h4.cell 5
      have e5f : w2.frozen? ⟨p, 5, none⟩ = false := h4.unfrozen 5
      go_wp2_with fail
      obtain ⟨m2, hm2⟩ : ∃ m2, m2 = mOw m1 := ⟨_, rfl⟩
      have h5 : Sat W (w2.setCell ⟨p, 5, none⟩ (.bool true)) (sep (blk bp (.cells #[.int .i64 seq, .int .i64 ack, .slice ab nb cb] 40 (0, 0))) (sep (mAt p m2 aS cS vS aH cH vH) (sep (rBytes.is [.slice ab nb cb] bs) A))) := by
        have h6 := h4.setCell 5 (.bool true)
        rw [show (mCells m1 aS cS aH cH).setIfInBounds 5 (.bool true) = mCells m2 aS cS aH cH by rw [hm2]; rfl] at h6
        simp only [mAt]
        rw [show m2.sent = m1.sent by rw [hm2]; rfl, show m2.held = m1.held by rw [hm2]; rfl]
        simpa only [sep_comm, sep_lcomm, sep_assoc] using h6
      have ok2 : MOk K m2 := by rw [hm2]; exact HOK1.out.mow
      have hse2 : m2.sent = m.sent ∧ m2.win = m.win ∧ m2.held = m.held ∧ m2.got = m.got := by rw [hm2]; exact HSE.out
      have HM2 := Lib.hid hm2
      have HOK2 := Lib.hid ok2
      have HSE2 := Lib.hid hse2
      generalize hw3 : w2.setCell ⟨p, 5, none⟩ (.bool true) = w3 at h5 ⊢
      clear hw3 h4 h3 e5 e5f hm2 ok2 hse2 d0
      have hD := h5.drew
      have d0 : w3.drew.cell? ⟨bp, 0, none⟩ = some (.int .i64 seq) := hD.cell 0
      have d3 : w3.drew.cell? ⟨p, 3, none⟩ = some (.int .i64 g) := by
        simp only [mAt, sep_assoc] at hD
        rw [HG.out, ← HSE2.out.2.2.2]; exact hD.p1.cell 3
      have hnl : m2.held.length ≤ 1000 := by rw [HSE2.out.2.2.1]; omega
      have HNL := Lib.hid hnl
      have hnil : ¬ ((g : Int) < seq ∧ mlook m.held seq = none) → InPost (absM m) seq ack bs [] (absM m2) := by
        intro hno
        unfold InPost
        rw [if_pos HGOOD.out, if_neg HS0.out]
        have e1 : absM m2 = holdSt (ackSt (absM m) ack) seq bs := by
          rw [HM2.out, ← HAB.out]
          refine abs_hold2 m1 seq bs ?_
          rw [HSE.out.2.2.2, HSE.out.2.2.1, ← HG.out]; exact hno
        refine ⟨e1, ?_⟩
        show mlook m2.held ((m2.got : Int) + 1) = none
        rw [HSE2.out.2.2.1, HSE2.out.2.2.2]; exact HNO.out
      have HNIL := Lib.hid hnil
      clear hnil hnl
      by_cases hsg : seq ≤ (g : Int)
      · have f1 : decide (seq ≤ (g : Int)) = true := by simp [hsg]
        have HSG := Lib.hid hsg
        go_wp2_with fail
        refine wp_region_canon rfl (fun _ => True) [(0, .p), (1, .t), (2, .p), (3, .p), (4, .p), (5, .t), (6, .p), (7, .p), (8, .p), (9, .p), (10, .t), (11, .e false), (12, .p), (13, .p)] (by kernel_rfl) ?_
        (repeat (first | (refine C_p (v := ?_) rfl rfl (fun w' => ?_) ?_; rotate_left; (go_simp; with_reducible rfl); simp only [Act.put, List.setIfInBounds_toArray, List.set_cons_zero, List.set_cons_succ]) | (refine C_s (v := ?_) rfl rfl hS0 (fun w' hS => ?_) ?_; rotate_left; ((try dsimp only at hS); go_simp; with_reducible rfl); simp only [Act.put, List.setIfInBounds_toArray, List.set_cons_zero, List.set_cons_succ]) | (refine C_t (v := ?_) rfl rfl ?_ ?_; rotate_left; (go_simp; with_reducible rfl); simp only [Act.put, List.setIfInBounds_toArray, List.set_cons_zero, List.set_cons_succ]) | (refine C_po rfl rfl ?_; simp only [Act.put, List.setIfInBounds_toArray, List.set_cons_zero, List.set_cons_succ]) | (refine C_so rfl rfl hS0 ?_; simp only [Act.put, List.setIfInBounds_toArray, List.set_cons_zero, List.set_cons_succ]) | (refine C_to rfl rfl ?_; simp only [Act.put, List.setIfInBounds_toArray, List.set_cons_zero, List.set_cons_succ])))
        (refine C_eo rfl rfl (fun h => by first | cases h | exact hS0) ?_; simp only [Act.put, List.setIfInBounds_toArray, List.set_cons_zero, List.set_cons_succ])
        (repeat (first | (refine C_p (v := ?_) rfl rfl (fun w' => ?_) ?_; rotate_left; (go_simp; with_reducible rfl); simp only [Act.put, List.setIfInBounds_toArray, List.set_cons_zero, List.set_cons_succ]) | (refine C_s (v := ?_) rfl rfl hS0 (fun w' hS => ?_) ?_; rotate_left; ((try dsimp only at hS); go_simp; with_reducible rfl); simp only [Act.put, List.setIfInBounds_toArray, List.set_cons_zero, List.set_cons_succ]) | (refine C_t (v := ?_) rfl rfl ?_ ?_; rotate_left; (go_simp; with_reducible rfl); simp only [Act.put, List.setIfInBounds_toArray, List.set_cons_zero, List.set_cons_succ]) | (refine C_po rfl rfl ?_; simp only [Act.put, List.setIfInBounds_toArray, List.set_cons_zero, List.set_cons_succ]) | (refine C_so rfl rfl hS0 ?_; simp only [Act.put, List.setIfInBounds_toArray, List.set_cons_zero, List.set_cons_succ]) | (refine C_to rfl rfl ?_; simp only [Act.put, List.setIfInBounds_toArray, List.set_cons_zero, List.set_cons_succ])))
        refine C_nil ?_
        go_wp2_with fail
        go_ret
        refine rin_nil (HB.out _ _ _ hD) (HNIL.out ?_) HOK2.out (by rw [HSE2.out.2.2.1, HSE2.out.2.2.2]; exact HNO.out) HSE2.out.1 HSE2.out.2.1 (by rw [HSE2.out.2.2.1]; exact Nat.le_refl _)
        rintro ⟨h, -⟩
        have := HSG.out
        omega
      · have f1 : decide (seq ≤ (g : Int)) = false := by simp; omega
        have hgs : (g : Int) < seq := by omega
        have HSG := Lib.hid hgs
        clear hgs hsg
        go_wp2_with fail
        refine wp_region_canon rfl (fun _ => True) [(0, .p), (1, .t), (2, .p), (3, .p), (4, .p), (5, .t), (6, .p), (7, .p), (8, .p), (9, .p), (10, .t), (11, .e false), (12, .p), (13, .p)] (by kernel_rfl) ?_
        (repeat (first | (refine C_p (v := ?_) rfl rfl (fun w' => ?_) ?_; rotate_left; (go_simp; with_reducible rfl); simp only [Act.put, List.setIfInBounds_toArray, List.set_cons_zero, List.set_cons_succ]) | (refine C_s (v := ?_) rfl rfl hS0 (fun w' hS => ?_) ?_; rotate_left; ((try dsimp only at hS); go_simp; with_reducible rfl); simp only [Act.put, List.setIfInBounds_toArray, List.set_cons_zero, List.set_cons_succ]) | (refine C_t (v := ?_) rfl rfl ?_ ?_; rotate_left; (go_simp; with_reducible rfl); simp only [Act.put, List.setIfInBounds_toArray, List.set_cons_zero, List.set_cons_succ]) | (refine C_po rfl rfl ?_; simp only [Act.put, List.setIfInBounds_toArray, List.set_cons_zero, List.set_cons_succ]) | (refine C_so rfl rfl hS0 ?_; simp only [Act.put, List.setIfInBounds_toArray, List.set_cons_zero, List.set_cons_succ]) | (refine C_to rfl rfl ?_; simp only [Act.put, List.setIfInBounds_toArray, List.set_cons_zero, List.set_cons_succ])))
        (refine C_e rfl rfl (fun K hK => ?_); go_simp)
        have hDm : Sat W w3.drew (sep (mAt p m2 aS cS vS aH cH vH) (sep (blk bp (.cells #[.int .i64 seq, .int .i64 ack, .slice ab nb cb] 40 (0, 0))) (sep (rBytes.is [.slice ab nb cb] bs) A))) := hD.p1
        refine (rfind_spec p m2 seq hDm HNL.out).mono ?_
        rintro e w4 ⟨rfl, rfl⟩
        have hfi := HSE2.out.2.2.1
        rw [hfi]
        clear hfi
        cases hf : fIdx m.held seq with
        | some i =>
          have HF := Lib.hid hf
          clear hf
          have f2 : decide ((0 : Int) ≤ (i : Int)) = true := by simp
          simp only [fRes]
          (refine hK _ _ (fun h => by cases h) ?_; clear hK K; (try simp only [Act.put, List.setIfInBounds_toArray, List.set_cons_zero, List.set_cons_succ]))
          (repeat (first | (refine C_p (v := ?_) rfl rfl (fun w' => ?_) ?_; rotate_left; (go_simp; with_reducible rfl); simp only [Act.put, List.setIfInBounds_toArray, List.set_cons_zero, List.set_cons_succ]) | (refine C_s (v := ?_) rfl rfl hS0 (fun w' hS => ?_) ?_; rotate_left; ((try dsimp only at hS); go_simp; with_reducible rfl); simp only [Act.put, List.setIfInBounds_toArray, List.set_cons_zero, List.set_cons_succ]) | (refine C_t (v := ?_) rfl rfl ?_ ?_; rotate_left; (go_simp; with_reducible rfl); simp only [Act.put, List.setIfInBounds_toArray, List.set_cons_zero, List.set_cons_succ]) | (refine C_po rfl rfl ?_; simp only [Act.put, List.setIfInBounds_toArray, List.set_cons_zero, List.set_cons_succ]) | (refine C_so rfl rfl hS0 ?_; simp only [Act.put, List.setIfInBounds_toArray, List.set_cons_zero, List.set_cons_succ]) | (refine C_to rfl rfl ?_; simp only [Act.put, List.setIfInBounds_toArray, List.set_cons_zero, List.set_cons_succ])))
          refine C_nil ?_
          go_wp2_with fail
          go_ret
          refine rin_nil (HB.out _ _ _ hD) (HNIL.out ?_) HOK2.out (by rw [HSE2.out.2.2.1, HSE2.out.2.2.2]; exact HNO.out) HSE2.out.1 HSE2.out.2.1 (by rw [HSE2.out.2.2.1]; exact Nat.le_refl _)
          rintro ⟨-, h⟩
          rw [mlook_iff, HF.out] at h
          cases h
        | none =>
          have HF := Lib.hid hf
          clear hf
          simp only [fRes]
          (refine hK _ _ (fun h => by cases h) ?_; clear hK K; (try simp only [Act.put, List.setIfInBounds_toArray, List.set_cons_zero, List.set_cons_succ]))
          (repeat (first | (refine C_p (v := ?_) rfl rfl (fun w' => ?_) ?_; rotate_left; (go_simp; with_reducible rfl); simp only [Act.put, List.setIfInBounds_toArray, List.set_cons_zero, List.set_cons_succ]) | (refine C_s (v := ?_) rfl rfl hS0 (fun w' hS => ?_) ?_; rotate_left; ((try dsimp only at hS); go_simp; with_reducible rfl); simp only [Act.put, List.setIfInBounds_toArray, List.set_cons_zero, List.set_cons_succ]) | (refine C_t (v := ?_) rfl rfl ?_ ?_; rotate_left; (go_simp; with_reducible rfl); simp only [Act.put, List.setIfInBounds_toArray, List.set_cons_zero, List.set_cons_succ]) | (refine C_po rfl rfl ?_; simp only [Act.put, List.setIfInBounds_toArray, List.set_cons_zero, List.set_cons_succ]) | (refine C_so rfl rfl hS0 ?_; simp only [Act.put, List.setIfInBounds_toArray, List.set_cons_zero, List.set_cons_succ]) | (refine C_to rfl rfl ?_; simp only [Act.put, List.setIfInBounds_toArray, List.set_cons_zero, List.set_cons_succ])))
          refine C_nil ?_
          have hE := hD.drew
          simp only [mAt, sep_assoc] at hE
          obtain ⟨n, hn⟩ : ∃ n, n = m2.held.length := ⟨_, rfl⟩
          have hn9 : n ≤ 900 := by rw [hn, HSE2.out.2.2.1]; exact hl
          have HN := Lib.hid hn
          rw [← hn] at hE
          clear hn hDm hD d0 d3 h5
          have hS0 : w3.drew.drew.cell? ⟨p, 4, none⟩ = some (.slice aH n cH) := by rw [HN.out]; exact hE.p1.cell 4
          have d0 : w3.drew.drew.cell? ⟨bp, 0, none⟩ = some (.int .i64 seq) := hE.cell 0
          have d2 : w3.drew.drew.cell? ⟨bp, 2, none⟩ = some (.slice ab nb cb) := hE.cell 2
          go_wp2_with fail
          refine wp_region_canon rfl (fun w' => w'.cell? ⟨p, 4, none⟩ = some (.slice aH n cH)) [(0, .p), (1, .p), (2, .p), (3, .p), (4, .s), (5, .p), (6, .t), (7, .p), (8, .t), (9, .p), (10, .e true), (11, .e false), (12, .p), (13, .p), (14, .e false)] (by kernel_rfl) ?_
          (repeat (first | (refine C_p (v := ?_) rfl rfl (fun w' => ?_) ?_; rotate_left; (go_simp; with_reducible rfl); simp only [Act.put, List.setIfInBounds_toArray, List.set_cons_zero, List.set_cons_succ]) | (refine C_s (v := ?_) rfl rfl hS0 (fun w' hS => ?_) ?_; rotate_left; ((try dsimp only at hS); go_simp; with_reducible rfl); simp only [Act.put, List.setIfInBounds_toArray, List.set_cons_zero, List.set_cons_succ]) | (refine C_t (v := ?_) rfl rfl ?_ ?_; rotate_left; (go_simp; with_reducible rfl); simp only [Act.put, List.setIfInBounds_toArray, List.set_cons_zero, List.set_cons_succ]) | (refine C_po rfl rfl ?_; simp only [Act.put, List.setIfInBounds_toArray, List.set_cons_zero, List.set_cons_succ]) | (refine C_so rfl rfl hS0 ?_; simp only [Act.put, List.setIfInBounds_toArray, List.set_cons_zero, List.set_cons_succ]) | (refine C_to rfl rfl ?_; simp only [Act.put, List.setIfInBounds_toArray, List.set_cons_zero, List.set_cons_succ])))
          (refine C_e rfl rfl (fun K hK => ?_); go_simp)
          have hA := hE.alloc0 (.cells #[.int .i64 seq, .slice ab nb cb] 91)
          have hS1 : (w3.drew.drew.alloc (.cells #[.int .i64 seq, .slice ab nb cb] 91)).cell? ⟨p, 4, none⟩ = some (.slice aH n cH) := by rw [HN.out]; exact hA.p1.cell 4
          (refine hK _ _ (fun _ => hS1) ?_; clear hK K; (try simp only [Act.put, List.setIfInBounds_toArray, List.set_cons_zero, List.set_cons_succ]))
          clear hS0 d0 d2
          refine C_e rfl rfl (fun K hK => ?_)
          refine wp_append_osl (.tmp 67) (.tmp 73) 48 rfl 91 2 32 _ Try.underlying48 infoHeld rfl rfl hA.p4 rfl [.int .i64 seq, .slice ab nb cb] rfl (by simp) (by intro b hb; cases hb; exact new_src _ _ _) (by simp [Value.oneCell']) (by omega) (by unfold maxLen; omega) ?_
          intro a2 c2 w5 hS2
          have e4 : w5.cell? ⟨p, 4, none⟩ = some (.slice aH n cH) := by rw [HN.out]; exact hS2.p2.cell 4
          have e4f : w5.frozen? ⟨p, 4, none⟩ = false := hS2.p2.unfrozen 4
          (refine hK _ _ (fun h => by cases h) ?_; clear hK K; (try simp only [Act.put, List.setIfInBounds_toArray, List.set_cons_zero, List.set_cons_succ]))
          (repeat (first | (refine C_p (v := ?_) rfl rfl (fun w' => ?_) ?_; rotate_left; (go_simp; with_reducible rfl); simp only [Act.put, List.setIfInBounds_toArray, List.set_cons_zero, List.set_cons_succ]) | (refine C_s (v := ?_) rfl rfl hS0 (fun w' hS => ?_) ?_; rotate_left; ((try dsimp only at hS); go_simp; with_reducible rfl); simp only [Act.put, List.setIfInBounds_toArray, List.set_cons_zero, List.set_cons_succ]) | (refine C_t (v := ?_) rfl rfl ?_ ?_; rotate_left; (go_simp; with_reducible rfl); simp only [Act.put, List.setIfInBounds_toArray, List.set_cons_zero, List.set_cons_succ]) | (refine C_po rfl rfl ?_; simp only [Act.put, List.setIfInBounds_toArray, List.set_cons_zero, List.set_cons_succ]) | (refine C_so rfl rfl hS0 ?_; simp only [Act.put, List.setIfInBounds_toArray, List.set_cons_zero, List.set_cons_succ]) | (refine C_to rfl rfl ?_; simp only [Act.put, List.setIfInBounds_toArray, List.set_cons_zero, List.set_cons_succ])))
          (refine C_e rfl rfl (fun K hK => ?_); go_simp)
          (refine hK _ _ (fun h => by cases h) ?_; clear hK K; (try simp only [Act.put, List.setIfInBounds_toArray, List.set_cons_zero, List.set_cons_succ]))
          refine C_nil ?_
          obtain ⟨m3, hm3⟩ : ∃ m3, m3 = mHold m1 seq bs := ⟨_, rfl⟩
          have hlk : mlook m1.held seq = none := by rw [HSE.out.2.2.1]; exact mlook_none HF.out
          have hs3 : m3.sent = m2.sent ∧ m3.win = m2.win ∧ m3.held = m2.held ++ [(seq, bs)] ∧ m3.acked = m2.acked ∧ m3.got = m2.got ∧ m3.ow = true := by rw [hm3, HM2.out]; exact ⟨rfl, rfl, rfl, rfl, rfl, rfl⟩
          have ok3 : MOk K m3 := by rw [hm3]; exact HOK1.out.hold seq bs hs hlk
          have abs3 : absM m3 = holdSt (ackSt (absM m) ack) seq bs := by
            rw [hm3, ← HAB.out]
            exact abs_hold1 m1 seq bs (by rw [HSE.out.2.2.2, ← HG.out]; exact HSG.out) hlk
          have h7 : Sat W (w5.setCell ⟨p, 4, none⟩ (.slice a2 (n + 1) c2)) (sep (isM p m3) A) := by
            have h8 := hS2.p2.setCell 4 (.slice a2 (n + 1) c2)
            have e1 : (mCells m2 aS cS aH cH).setIfInBounds 4 (.slice a2 (n + 1) c2) = mCells m3 aS cS a2 c2 := by
              unfold mCells
              rw [hs3.1, hs3.2.1, hs3.2.2.1, hs3.2.2.2.1, hs3.2.2.2.2.1, hs3.2.2.2.2.2, List.length_append, List.length_singleton, ← HN.out]
              rw [show m2.ow = true by rw [HM2.out]; rfl]
              rfl
            rw [e1] at h8
            have h9 : Sat W (w5.setCell ⟨p, 4, none⟩ (.slice a2 (n + 1) c2)) (sep (rHeld.is [.int .i64 seq, .slice ab nb cb] (seq, bs)) _) := h8.p6.is_imp (T := rHeld) (ds := [.int .i64 seq, .slice ab nb cb]) (y := (seq, bs)) fun I hI => ⟨_, rfl, hI⟩
            have h10 := h9.p6.snoc rfl
            refine (isM_mk (aS := aS) (cS := cS) (vS := vS) (aH := a2) (cH := c2) (vH := vH ++ [.int .i64 seq, .slice ab nb cb]) ?_)
            simp only [mAt]
            rw [hs3.1, hs3.2.2.1, List.length_append, List.length_singleton, ← HN.out]
            have h11 := h10.p3.forget
            simpa only [sep_comm, sep_lcomm, sep_assoc] using h11
          have H7 := Lib.hid h7
          have h3l : m3.held.length = n + 1 := by rw [hs3.2.2.1, List.length_append, List.length_singleton, ← HN.out]
          have HS3 := Lib.hid hs3
          have HOK3 := Lib.hid ok3
          have HAB3 := Lib.hid abs3
          have H3L := Lib.hid h3l
          generalize w5.setCell ⟨p, 4, none⟩ (.slice a2 (n + 1) c2) = w6 at h7 ⊢
          clear hS2 hA hE e4 e4f hs3 ok3 abs3 hm3 hlk h3l hS1 H7
          go_wp2_with fail
          go_loopg [6] (n + 1) (fun k out wr => RInRel W A p K m3 k out wr)
          case atStart => exact ⟨none, 0, [], [], m3, rfl, rfl, HOK3.out, rfl, rfl, H3L.out, by rw [H3L.out]; simp, (h7.rows_nil rBytes 1).osl_nil _ _⟩
          case round =>
            clear h7
            obtain ⟨a, c, vs, outs, m', rfl, hpre, hok, hms, hmw, hlen, hsum, hS⟩ := hrel
            have HP := Lib.hid hpre
            have HOKm := Lib.hid hok
            have HMS := Lib.hid hms
            have HMW := Lib.hid hmw
            have HLN := Lib.hid hlen
            have hgk : gk ≤ 901 := by have := H3L.out; omega
            have hol : outs.length ≤ 901 := by have := H3L.out; omega
            have HSUM := Lib.hid hsum
            obtain ⟨g', hg'⟩ : ∃ g', g' = m'.got := ⟨_, rfl⟩
            have hg2 : (g' : Int) ≤ 1000000 := by rw [hg']; have := hok.got; have := hok.lim; omega
            have HG' := Lib.hid hg'
            obtain ⟨aS, cS, vS, aH, cH, vH, h5⟩ := isM_open hS.p2
            have c3 : wr.cell? ⟨p, 3, none⟩ = some (.int .i64 g') := by
              simp only [mAt, sep_assoc] at h5; rw [hg']; exact h5.cell 3
            have e1 : IntKind.i64.wrap ((g' : Int) + 1) = (g' : Int) + 1 := IntWalk.i64_in _ (by omega)
            have hnl : m'.held.length ≤ 1000 := by omega
            have HNL2 := Lib.hid hnl
            clear hpre hok hms hmw hlen hsum hg' hnl
            go_wp2_with fail
            refine (rfind_spec p m' ((g' : Int) + 1) h5 HNL2.out).mono ?_
            rintro e w7 ⟨rfl, rfl⟩
            cases hf : fIdx m'.held ((g' : Int) + 1) with
            | none =>
              have HF2 := Lib.hid hf
              clear hf
              simp only [fRes]
              go_wp2_with fail
              go_ret
              refine ⟨a, c, outs, m', rfl, ?_, HOKm.out, ?_, ?_, ?_, ?_, hS.swf_of_osl, hS.slice_of_osl rfl⟩
              · unfold InPost
                rw [if_pos HGOOD.out, if_neg HS0.out, ← HAB3.out]
                refine ⟨HP.out, ?_⟩
                show mlook m'.held ((m'.got : Int) + 1) = none
                rw [← HG'.out]; exact mlook_none HF2.out
              · rw [← HG'.out]; exact mlook_none HF2.out
              · rw [HMS.out, HS3.out.1, HSE2.out.1]
              · rw [HMW.out, HS3.out.2.1, HSE2.out.2.1]
              · have e1 := HLN.out
                have e2 := H3L.out
                have e3 := HSUM.out
                have e4 : n = m.held.length := by rw [HN.out, HSE2.out.2.2.1]
                omega
            | some i =>
              have HF2 := Lib.hid hf
              clear hf
              simp only [fRes]
              go_wp2_with fail
              refine (rfind_spec p m' ((g' : Int) + 1) h5 HNL2.out).mono ?_
              rintro e w7 ⟨rfl, rfl⟩
              rw [HF2.out]
              simp only [fRes]
              obtain ⟨hi, hik, -⟩ := fIdx_some HF2.out
              have hig : i < gk := by rw [← HLN.out]; exact hi
              have hE : Sat W w7 (sep (osl 91 2 aH m'.held.length cH vH) (sep ((rHeld.rows 2).is vH m'.held) (sep (osl 31 1 a outs.length c vs) (sep ((rBytes.rows 1).is vs outs) (sep (blk p (.cells (mCells m' aS cS aH cH) 50 (0, 0))) (sep (osl 31 1 aS m'.sent.length cS vS) (sep ((rBytes.rows 1).is vS m'.sent) A))))))) := by
                simp only [mAt] at h5
                simpa only [sep_comm, sep_lcomm, sep_assoc] using h5
              obtain ⟨gH, cv, rfl, hcv, hcc, h6⟩ := osl_row_at (R := rHeld) (E := 91) (k := 2) (by omega) hE i hi
              obtain ⟨v, rfl, -⟩ := h6.pers_heap
              have h6b : Sat W w7 (sep (rBytes.is [v] m'.held[i].2) _) := h6.is_imp (T := rBytes) (ds := [v]) (y := m'.held[i].2) (by
                rintro I ⟨v', e, h'⟩
                simp at e
                subst e
                exact h')
              obtain ⟨ab', cb', rfl, -, -⟩ := h6b.bytes_open
              obtain ⟨b, hb⟩ : ∃ b, b = m'.held[i].2 := ⟨_, rfl⟩
              rw [← hb] at h6b hcc
              have eB := hcc 1 _ rfl
              have hol2 := hE.osl_len
              have hHL := hol2
              rw [HLN.out] at hol2
              have hcH : gk ≤ cH := hol2.2.1
              have hcM : cH ≤ maxLen := hol2.2.2
              have hvH : vH.length = gk * 2 := hol2.1
              have c4 : w7.cell? ⟨p, 4, none⟩ = some (.slice (some ⟨gH, 0, none⟩) gk cH) := by
                rw [← HLN.out]; exact hE.p4.cell 4
              have higI : (i : Int) < (gk : Int) := by omega
              have HB2 := Lib.hid hb
              have HII := Lib.hid hi
              have HIK := Lib.hid hik
              have hA := h6b.alloc0 (.cells #[.slice ab' b.length cb'] 31)
              have hnf := infoHeld
              clear hb hik h6 hcc hcv h5 h6b hS hHL hol2 c3
              go_wp2_with (at_builtin; refine wpl_append_osl rfl (.tmp 92) (.tmp 101) 42 rfl 31 1 24 (.slice none 0 0) Try.underlying42 infoBytes rfl rfl hA.p3 rfl [.slice ab' b.length cb'] rfl (by simp) (by intro b hb; cases hb; exact new_src _ [_] _) (by simp [Value.oneCell']) (by omega) (by unfold maxLen; omega) ?_)
              intro a2 c2 w8 h8
              have hne : vH ≠ [] := by intro e; rw [e] at hvH; simp at hvH; omega
              have hsrc : ∀ j u, vH[j]? = some u → w8.cell? ((⟨gH, 0, none⟩ : Addr).add j) = some u := by
                obtain ⟨g2, e, hc⟩ := h8.p2.osl_at hne
                cases e
                intro j u hu
                rw [addr0]; exact hc j u hu
              have hone := h8.p3.rows_all (fun v => v.oneCell' = true) rHeld_one
              have c4 : w8.cell? ⟨p, 4, none⟩ = some (.slice (some ⟨gH, 0, none⟩) gk cH) := by
                rw [← HLN.out]; exact h8.p5.cell 4
              have hB := h8.osl_nil 91 2
              have hsrc1 : ∀ j u, (vH.take (i * 2))[j]? = some u → w8.cell? ((⟨gH, 0, none⟩ : Addr).add j) = some u := by
                intro j u hu
                rw [List.getElem?_take] at hu
                split at hu
                · exact hsrc j u hu
                · cases hu
              clear hA hsrc
              go_wp2_with (at_builtin; refine wpl_append_osl rfl (.tmp 103) (.tmp 109) 48 rfl 91 2 32 _ Try.underlying48 infoHeld rfl rfl hB rfl (vH.take (i * 2)) (by rw [List.length_take]; omega) (by simp) (by intro b hb; cases hb; exact hsrc1) (fun u hu => hone u (List.mem_of_mem_take hu)) (by omega) (by unfold maxLen; omega) ?_)
              intro a3 c3 w9 h9
              have hsrc : ∀ j u, vH[j]? = some u → w9.cell? ((⟨gH, 0, none⟩ : Addr).add j) = some u := by
                obtain ⟨g2, e, hc⟩ := h9.p3.osl_at hne
                cases e
                intro j u hu
                rw [addr0]; exact hc j u hu
              have c4 : w9.cell? ⟨p, 4, none⟩ = some (.slice (some ⟨gH, 0, none⟩) gk cH) := by
                rw [← HLN.out]; exact h9.p6.cell 4
              have hiw : IntKind.i64.wrap ((i : Int) + 1) = (i : Int) + 1 := IntWalk.i64_in _ (by omega)
              have hi1 : i + 1 ≤ gk := by omega
              have hi2 : (i : Int) + 1 ≤ (gk : Int) := by omega
              clear hB hsrc1
              have hdl : (vH.drop ((i + 1) * 2)).length = (gk - (i + 1)) * 2 := by rw [List.length_drop]; omega
              have hsrcA : cH = i + 1 → ∀ j u, (vH.drop ((i + 1) * 2))[j]? = some u → w9.cell? ((⟨gH, 0, none⟩ : Addr).add j) = some u := by
                intro e j u hu
                have := (List.getElem?_eq_some_iff.1 hu).1
                rw [hdl] at this
                omega
              have hsrcB : ∀ j u, (vH.drop ((i + 1) * 2))[j]? = some u → w9.cell? ((⟨gH, (i + 1) * 2, none⟩ : Addr).add j) = some u := by
                intro j u hu
                rw [List.getElem?_drop] at hu
                have := hsrc _ _ hu
                rw [addr0] at this
                rw [addrN]
                exact this
              clear hsrc
              have hcap : cH = i + 1 ∨ ¬ cH = i + 1 := by omega
              rcases hcap with hcap | hcap
              all_goals
                go_wp2_with (at_builtin; refine wpl_append_osl rfl (.tmp 112) (.tmp 119) 48 rfl 91 2 32 _ Try.underlying48 infoHeld rfl rfl h9 rfl (vH.drop ((i + 1) * 2)) hdl (by simp) (by intro b hb; cases hb; first | exact hsrcA hcap | exact hsrcB) (fun u hu => hone u (List.mem_of_mem_drop hu)) (by omega) (by unfold maxLen; omega) ?_)
                intro a4 c4' w10 h10
                have h11 := h10.p6.setCell 4 (.slice a4 (i + (gk - (i + 1))) c4')
                have f4 : w10.frozen? ⟨p, 4, none⟩ = false := h10.p6.unfrozen 4
                have c4 : w10.cell? ⟨p, 4, none⟩ = some (.slice (some ⟨gH, 0, none⟩) m'.held.length _) := h10.p6.cell 4
                have f3 : (w10.setCell ⟨p, 4, none⟩ (.slice a4 (i + (gk - (i + 1))) c4')).frozen? ⟨p, 3, none⟩ = false := h11.unfrozen 3
                have c3 : (w10.setCell ⟨p, 4, none⟩ (.slice a4 (i + (gk - (i + 1))) c4')).cell? ⟨p, 3, none⟩ = some (.int .i64 g') := by
                  rw [HG'.out]; exact h11.cell 3
                have h12 := h11.setCell 3 (.int .i64 ((g' : Int) + 1))
                clear h9 hsrcA hsrcB h8 hE hdl h10 h11
                go_wp2_with fail
                go_roundg (gk - 1)
                case measure => omega
                case rel =>
                  exact rin_step HP.out HOKm.out HMS.out HMW.out HLN.out HSUM.out HG'.out hig HF2.out HB2.out h12
  · have hbad : InPost (absM m) seq ack bs [] (absM m) := by
      unfold InPost
      rw [if_neg]
      · exact ⟨rfl, rfl⟩
      · rintro ⟨k1, k2, k3⟩
        apply hcase
        rw [HNB.out]
        refine ⟨k1, ?_, ?_⟩
        · have : (absM m).ack + ((absM m).wait.length : Int) = (L : Int) := by
            show (m.acked : Int) + ((m.sent.drop m.acked).length : Int) = L
            rw [List.length_drop, ← HL.out, ← HQ.out]; omega
          omega
        · have : (absM m).dlv = (g : Int) := by rw [HG.out]; rfl
          omega
    have hways : validB seq ack nb = false ∨ (validB seq ack nb = true ∧ decide ((L : Int) < ack) = true) ∨ (validB seq ack nb = true ∧ decide ((L : Int) < ack) = false ∧ decide ((g : Int) + 16 < seq) = true) := by
      cases hv : validB seq ack nb with
      | false => exact .inl rfl
      | true =>
        by_cases ha : (L : Int) < ack
        · exact .inr (.inl ⟨rfl, by simpa using ha⟩)
        · refine .inr (.inr ⟨rfl, by simpa using ha, ?_⟩)
          simp
          by_cases hq : (g : Int) + 16 < seq
          · exact hq
          · exact absurd ⟨hv, by omega, by omega⟩ hcase
    have HB := Lib.hid hbad
    clear hcase hbad
    rcases hways with f1 | ⟨f1, f2⟩ | ⟨f1, f2, f3⟩
    all_goals
      rw [f1]
      go_wp2_with fail
      refine wp_region_canon rfl (fun _ => True) [(0, .p), (1, .p), (2, .p), (3, .p), (4, .t), (5, .p), (6, .p), (7, .p), (8, .t), (9, .p), (10, .p), (11, .p), (12, .p), (13, .p), (14, .t), (15, .p), (16, .p), (17, .p), (18, .t), (19, .p), (20, .p), (21, .p)] (by kernel_rfl) ?_
      (repeat (first | (refine C_p (v := ?_) rfl rfl (fun w' => ?_) ?_; rotate_left; (go_simp; with_reducible rfl); simp only [Act.put, List.setIfInBounds_toArray, List.set_cons_zero, List.set_cons_succ]) | (refine C_s (v := ?_) rfl rfl hS0 (fun w' hS => ?_) ?_; rotate_left; ((try dsimp only at hS); go_simp; with_reducible rfl); simp only [Act.put, List.setIfInBounds_toArray, List.set_cons_zero, List.set_cons_succ]) | (refine C_t (v := ?_) rfl rfl ?_ ?_; rotate_left; (go_simp; with_reducible rfl); simp only [Act.put, List.setIfInBounds_toArray, List.set_cons_zero, List.set_cons_succ]) | (refine C_po rfl rfl ?_; simp only [Act.put, List.setIfInBounds_toArray, List.set_cons_zero, List.set_cons_succ]) | (refine C_so rfl rfl hS0 ?_; simp only [Act.put, List.setIfInBounds_toArray, List.set_cons_zero, List.set_cons_succ]) | (refine C_to rfl rfl ?_; simp only [Act.put, List.setIfInBounds_toArray, List.set_cons_zero, List.set_cons_succ])))
      refine C_nil ?_
      go_wp2_with fail
      go_ret
      exact rin_nil (HBACK.out _ h1.drew) HB.out HOK.out HNO.out rfl rfl (Nat.le_refl _)
end Go.Proofs.Ytnmkdidhilekiaa
