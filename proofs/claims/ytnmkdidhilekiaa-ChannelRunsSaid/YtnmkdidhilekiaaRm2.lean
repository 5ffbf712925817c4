/- The reference model of package channel: Out. -/
import Derived.Test.YtnmkdidhilekiaaRm
namespace Go.Proofs.Ytnmkdidhilekiaa
open Go.RowKit PA
theorem infoRPacket : (Try.prog.info? 40).map (fun i => (i.zero, i.size, i.bytes)) = some (some (.agg #[.int .i64 0, .int .i64 0, .slice none 0 0]), 3, 40) := by kernel_rfl
theorem pkList_snoc (a d : Int) (l : List (List UInt8)) (b : List UInt8) : pkList a d (l ++ [b]) = pkList a d l ++ [⟨a + l.length + 1, d, b⟩] := by
  induction l generalizing a with
  | nil => simp [pkList]
  | cons x l ih => simp only [List.cons_append, pkList, ih, List.length_cons]; rw [show a + 1 + (l.length : Int) + 1 = a + ((l.length + 1 : Nat) : Int) + 1 by omega]
def ROutRel (W : World) (A : Assn) (p : Nat) (m : MEnd) (aS : Option Addr) (cS : Nat) (vS : List Value) (aH : Option Addr) (cH : Nat) (vH : List Value) (n : Nat) (v i : Value) (wr : World) : Prop :=
  ∃ (k : Nat) (a : Option Addr) (c : Nat) (cs : List Value), k ≤ n ∧ i = .int .i64 ((m.acked + k : Nat) : Int) ∧ v = .slice a k c ∧
    Sat W wr (sep (osl 40 3 a k c cs) (sep ((rPkt.rows 3).is cs (pkList m.acked m.got ((m.sent.drop m.acked).take k))) (sep (mAt p m aS cS vS aH cH vH) A)))
theorem rout_close {W w : World} {A : Assn} {p : Nat} {m : MEnd} {aS : Option Addr} {cS : Nat} {vS : List Value} {aH : Option Addr} {cH : Nat} {vH : List Value} {a : Option Addr} {N c : Nat} {cs : List Value} {xs : List Pkt}
    (h : Sat W w (sep (osl 40 3 a N c cs) (sep ((rPkt.rows 3).is cs xs) (sep (mAt p m aS cS vS aH cH vH) A)))) (hN : N = xs.length) :
    Swf a N c ∧ Sat W (w.setCell ⟨p, 5, none⟩ (.bool false)) (sep ((rPkt.slice 3).is [.slice a N c] xs) (sep (isM p { m with ow := false }) A)) := by
  refine ⟨h.swf_of_osl, ?_⟩
  have h1 := h.slice_of_osl hN
  simp only [mAt, sep_assoc] at h1
  have h2 := h1.p1.setCell 5 (.bool false)
  rw [show (mCells m aS cS aH cH).setIfInBounds 5 (.bool false) = mCells { m with ow := false } aS cS aH cH from rfl] at h2
  have h3 : Sat W (w.setCell ⟨p, 5, none⟩ (.bool false)) (sep (mAt p { m with ow := false } aS cS vS aH cH vH) (sep ((rPkt.slice 3).is [.slice a N c] xs) A)) := by
    simp only [mAt]
    simpa only [sep_comm, sep_lcomm, sep_assoc] using h2
  exact (isM_mk h3).p1
set_option maxHeartbeats 4000000 in
set_option maxRecDepth 100000 in
theorem rout_spec {W w : World} {A : Assn} (p : Nat) (m : MEnd) (h : Sat W w (sep (isM p m) A)) (hw1 : 1 ≤ m.win) (hw2 : m.win ≤ 16) (n : Nat) (hn : (n : Int) = min ((m.sent.length - m.acked : Nat) : Int) m.win) (ha : m.acked ≤ m.sent.length) (hs : m.sent.length ≤ 1000) :
    Calls Try.prog 16 #[.pointer (some ⟨p, 0, none⟩)] w fun e w' => ∃ a c, e = .returned (.slice a (outN (absM m) n) c) ∧ Swf a (outN (absM m) n) c ∧
      Sat W w' (sep ((rPkt.slice 3).is [.slice a (outN (absM m) n) c] (outPkts (absM m) n)) (sep (isM p { m with ow := false }) A)) := by
  obtain ⟨aS, cS, vS, aH, cH, vH, h⟩ := isM_open h
  obtain ⟨L, hL⟩ : ∃ L, L = m.sent.length := ⟨_, rfl⟩
  obtain ⟨q, hq⟩ : ∃ q, q = m.acked := ⟨_, rfl⟩
  obtain ⟨g, hgg⟩ : ∃ g, g = m.got := ⟨_, rfl⟩
  rw [← hL, ← hq] at hn ha
  rw [← hL] at hs
  have HL := Lib.hid hL
  have HQ := Lib.hid hq
  have HG := Lib.hid hgg
  have hcell : ∀ w', Sat W w' (sep (mAt p m aS cS vS aH cH vH) A) → w'.cell? ⟨p, 0, none⟩ = some (.int .i64 m.win) ∧ w'.cell? ⟨p, 1, none⟩ = some (.slice aS L cS) ∧ w'.cell? ⟨p, 2, none⟩ = some (.int .i64 q) ∧ w'.cell? ⟨p, 3, none⟩ = some (.int .i64 g) ∧ w'.cell? ⟨p, 5, none⟩ = some (.bool m.ow) ∧ w'.frozen? ⟨p, 5, none⟩ = false := by
    intro w' h
    simp only [mAt, sep_assoc] at h
    exact ⟨h.cell 0, by rw [hL]; exact h.cell 1, by rw [hq]; exact h.cell 2, by rw [hgg]; exact h.cell 3, h.cell 5, h.unfrozen 5⟩
  have hwq : IntKind.i64.wrap ((q : Int) + m.win) = (q : Int) + m.win := IntWalk.i64_in _ (by omega)
  have HC := Lib.hid hcell
  have c2 := (hcell _ h).2.2.1
  clear hL hq hgg hcell
  go_enter Try.func16, Try.ntmps16
  go_wp2
  go_loopw [3, 4] (ROutRel W A p m aS cS vS aH cH vH n) (fun v _ _ => match v with | .slice _ k _ => n - k | _ => 0)
  case atStart => exact ⟨0, none, 0, [], by omega, by rw [HQ.out]; simp, rfl, by simpa [pkList] using ((h.rows_nil rPkt 3).osl_nil _ _)⟩
  case round =>
    clear h c2
    obtain ⟨k, a, c, cs, hk, rfl, rfl, hS⟩ := hrel
    rw [← HQ.out]
    have hD := hS.drew
    obtain ⟨e0, e1, e2, e3, e5, e6⟩ := HC.out _ hD.drop.drop
    have hS0 : True := trivial
    obtain ⟨i, hi⟩ : ∃ i, i = q + k := ⟨_, rfl⟩
    rw [← hi]
    by_cases hkn : k < n
    · have f1 : decide ((i : Int) < (L : Int)) = true := by simp; omega
      have f2 : decide ((i : Int) < (q : Int) + m.win) = true := by simp; omega
      have f3 : decide (i < L) = true := by simp; omega
      have f4 : (i < L) = True := by simp; omega
      have f5 : ((i : Int) < (q : Int) + m.win) = True := by simp; omega
      have hil : i < m.sent.length := by rw [← HL.out]; omega
      have hiI : (i : Int) < (L : Int) := by omega
      have hiw : IntKind.i64.wrap ((i : Int) + 1) = (i : Int) + 1 := IntWalk.i64_in _ (by omega)
      have HI := Lib.hid hi
      clear hi
      go_wp2_with fail
      refine wp_region_canon rfl (fun _ => True) [(0, .p), (1, .p), (2, .p), (3, .p), (4, .t), (5, .p), (6, .p), (7, .p), (8, .p), (9, .p), (10, .p), (11, .p), (12, .t), (13, .p), (14, .p), (15, .p), (16, .t), (17, .p), (18, .p), (19, .p)] (by kernel_rfl) ?_
      (repeat (first | (refine C_p (v := ?_) rfl rfl (fun w' => ?_) ?_; rotate_left; (go_simp; with_reducible rfl); simp only [Act.put, List.setIfInBounds_toArray, List.set_cons_zero, List.set_cons_succ]) | (refine C_s (v := ?_) rfl rfl hS0 (fun w' hS => ?_) ?_; rotate_left; ((try dsimp only at hS); go_simp; with_reducible rfl); simp only [Act.put, List.setIfInBounds_toArray, List.set_cons_zero, List.set_cons_succ]) | (refine C_t (v := ?_) rfl rfl ?_ ?_; rotate_left; (go_simp; with_reducible rfl); simp only [Act.put, List.setIfInBounds_toArray, List.set_cons_zero, List.set_cons_succ]) | (refine C_po rfl rfl ?_; simp only [Act.put, List.setIfInBounds_toArray, List.set_cons_zero, List.set_cons_succ]) | (refine C_so rfl rfl hS0 ?_; simp only [Act.put, List.setIfInBounds_toArray, List.set_cons_zero, List.set_cons_succ]) | (refine C_to rfl rfl ?_; simp only [Act.put, List.setIfInBounds_toArray, List.set_cons_zero, List.set_cons_succ])))
      refine C_nil ?_
      have hD2 := hD.drew
      obtain ⟨d0, d1, d2, d3, -, -⟩ := HC.out _ hD2.drop.drop
      obtain ⟨gs, cv, eS, hcv, hcc, h5⟩ := osl_row_at (R := rBytes) (E := 31) (k := 1) (a := aS) (c := cS) (cs := vS) (xs := m.sent) (A := sep (osl 40 3 a k c cs) (sep ((rPkt.rows 3).is cs (pkList m.acked m.got ((m.sent.drop m.acked).take k))) (sep (blk p (.cells (mCells m aS cS aH cH) 50 (0, 0))) (sep (osl 91 2 aH m.held.length cH vH) (sep ((rHeld.rows 2).is vH m.held) A))))) (by omega) (by
        simp only [mAt] at hD2
        simpa only [sep_comm, sep_lcomm, sep_assoc] using hD2) i hil
      obtain ⟨vy, rfl⟩ : ∃ v, cv = [v] := by match cv, hcv with | [x], _ => exact ⟨x, rfl⟩
      obtain ⟨ab, cb, rfl, -, -⟩ := h5.bytes_open
      have gi := hcc 0 _ rfl
      simp only [Nat.mul_one, Nat.add_zero] at gi
      rw [eS] at d1
      have hA := h5.alloc0 (.cells #[.int .i64 ((i : Int) + 1), .int .i64 g, .slice ab m.sent[i].length cb] 40)
      have HIL := Lib.hid hil
      have hk17 : k ≤ 1000 := by omega
      clear e0 e1 e2 e3 e5 e6 hD hD2 d0 d2 hcc h5 hS f1 f2 f3 f4 f5
      go_wp2_with fail
      refine wp_region_canon rfl (fun _ => True) [(0, .p), (1, .p), (2, .p), (3, .p), (4, .p), (5, .p), (6, .t), (7, .p), (8, .p), (9, .p), (10, .t), (11, .p), (12, .p), (13, .t), (14, .p), (15, .e false), (16, .e false), (17, .p)] (by kernel_rfl) ?_
      (repeat (first | (refine C_p (v := ?_) rfl rfl (fun w' => ?_) ?_; rotate_left; (go_simp; with_reducible rfl); simp only [Act.put, List.setIfInBounds_toArray, List.set_cons_zero, List.set_cons_succ]) | (refine C_s (v := ?_) rfl rfl hS0 (fun w' hS => ?_) ?_; rotate_left; ((try dsimp only at hS); go_simp; with_reducible rfl); simp only [Act.put, List.setIfInBounds_toArray, List.set_cons_zero, List.set_cons_succ]) | (refine C_t (v := ?_) rfl rfl ?_ ?_; rotate_left; (go_simp; with_reducible rfl); simp only [Act.put, List.setIfInBounds_toArray, List.set_cons_zero, List.set_cons_succ]) | (refine C_po rfl rfl ?_; simp only [Act.put, List.setIfInBounds_toArray, List.set_cons_zero, List.set_cons_succ]) | (refine C_so rfl rfl hS0 ?_; simp only [Act.put, List.setIfInBounds_toArray, List.set_cons_zero, List.set_cons_succ]) | (refine C_to rfl rfl ?_; simp only [Act.put, List.setIfInBounds_toArray, List.set_cons_zero, List.set_cons_succ])))
      (refine C_e rfl rfl (fun K hK => ?_); go_simp)
      (refine hK _ _ (fun h => by cases h) ?_; clear hK K; (try simp only [Act.put, List.setIfInBounds_toArray, List.set_cons_zero, List.set_cons_succ]))
      refine C_e rfl rfl (fun K hK => ?_)
      refine wp_append_osl (.tmp 31) (.tmp 46) 30 rfl 40 3 40 _ Try.underlying30 infoRPacket rfl rfl hA.p3 rfl [.int .i64 ((i : Int) + 1), .int .i64 g, .slice ab m.sent[i].length cb] rfl (by simp) (by intro b hb; cases hb; exact new_src _ _ _) (by simp [Value.oneCell']) (by omega) (by unfold maxLen; omega) ?_
      intro a2 c2 w2 hS2
      (refine hK _ _ (fun h => by cases h) ?_; clear hK K; (try simp only [Act.put, List.setIfInBounds_toArray, List.set_cons_zero, List.set_cons_succ]))
      (repeat (first | (refine C_p (v := ?_) rfl rfl (fun w' => ?_) ?_; rotate_left; (go_simp; with_reducible rfl); simp only [Act.put, List.setIfInBounds_toArray, List.set_cons_zero, List.set_cons_succ]) | (refine C_s (v := ?_) rfl rfl hS0 (fun w' hS => ?_) ?_; rotate_left; ((try dsimp only at hS); go_simp; with_reducible rfl); simp only [Act.put, List.setIfInBounds_toArray, List.set_cons_zero, List.set_cons_succ]) | (refine C_t (v := ?_) rfl rfl ?_ ?_; rotate_left; (go_simp; with_reducible rfl); simp only [Act.put, List.setIfInBounds_toArray, List.set_cons_zero, List.set_cons_succ]) | (refine C_po rfl rfl ?_; simp only [Act.put, List.setIfInBounds_toArray, List.set_cons_zero, List.set_cons_succ]) | (refine C_so rfl rfl hS0 ?_; simp only [Act.put, List.setIfInBounds_toArray, List.set_cons_zero, List.set_cons_succ]) | (refine C_to rfl rfl ?_; simp only [Act.put, List.setIfInBounds_toArray, List.set_cons_zero, List.set_cons_succ])))
      refine C_nil ?_
      clear hA d1 d3 gi
      go_wp2_with fail
      go_roundw
      case rel =>
        refine ⟨k + 1, a2, c2, cs ++ [.int .i64 ((i : Int) + 1), .int .i64 g, .slice ab m.sent[i].length cb], by omega, by rw [← HQ.out]; have := HI.out; go_num, rfl, ?_⟩
        have h6 : Sat W w2 (sep (rPkt.is [.int .i64 ((i : Int) + 1), .int .i64 g, .slice ab m.sent[i].length cb] ⟨(i : Int) + 1, g, m.sent[i]⟩) _) := hS2.p1.is_imp (T := rPkt) (ds := [.int .i64 ((i : Int) + 1), .int .i64 g, .slice ab m.sent[i].length cb]) (y := ⟨(i : Int) + 1, g, m.sent[i]⟩) fun I hI => ⟨_, rfl, hI⟩
        have hkd : k < (m.sent.drop m.acked).length := by rw [List.length_drop, ← HL.out, ← HQ.out]; have := HI.out; omega
        have hsn : pkList m.acked m.got ((m.sent.drop m.acked).take (k + 1)) = pkList m.acked m.got ((m.sent.drop m.acked).take k) ++ [⟨(i : Int) + 1, g, m.sent[i]⟩] := by
          rw [List.take_succ_eq_append_getElem hkd, pkList_snoc, List.length_take, Nat.min_eq_left (by omega), List.getElem_drop, HG.out]
          congr 2
          have e1 := HI.out
          have e2 := HQ.out
          congr 1
          · omega
          · congr 1; omega
        rw [hsn]
        have h7 : Sat W w2 (sep ((rPkt.rows 3).is (cs ++ [.int .i64 ((i : Int) + 1), .int .i64 g, .slice ab m.sent[i].length cb]) (pkList m.acked m.got ((m.sent.drop m.acked).take k) ++ [⟨(i : Int) + 1, g, m.sent[i]⟩])) _) := (h6.p4).snoc rfl
        simp only [mAt]
        simpa only [sep_comm, sep_lcomm, sep_assoc] using h7
      case measure => simp; omega
    · obtain rfl : k = n := by omega
      have hcond : decide (i < L) = false ∧ (i < L) = False ∨ (decide (i < L) = true ∧ (i < L) = True ∧ ((i : Int) < (q : Int) + m.win) = False ∧ decide ((i : Int) < (q : Int) + m.win) = false) := by
        by_cases h : i < L
        · right
          refine ⟨by simp; omega, by simp; omega, by simp; omega, by simp; omega⟩
        · left
          exact ⟨by simp; omega, by simp; omega⟩
      have HI := Lib.hid hi
      clear hi
      rcases hcond with ⟨f1, f2⟩ | ⟨f1, f2, f3, f4⟩
      all_goals
        go_wp2_with fail
        refine wp_region_canon rfl (fun _ => True) [(0, .p), (1, .p), (2, .p), (3, .p), (4, .t), (5, .p), (6, .p), (7, .p), (8, .p), (9, .p), (10, .p), (11, .p), (12, .t), (13, .p), (14, .p), (15, .p), (16, .t), (17, .p), (18, .p), (19, .p)] (by kernel_rfl) ?_
        (repeat (first | (refine C_p (v := ?_) rfl rfl (fun w' => ?_) ?_; rotate_left; (go_simp; with_reducible rfl); simp only [Act.put, List.setIfInBounds_toArray, List.set_cons_zero, List.set_cons_succ]) | (refine C_s (v := ?_) rfl rfl hS0 (fun w' hS => ?_) ?_; rotate_left; ((try dsimp only at hS); go_simp; with_reducible rfl); simp only [Act.put, List.setIfInBounds_toArray, List.set_cons_zero, List.set_cons_succ]) | (refine C_t (v := ?_) rfl rfl ?_ ?_; rotate_left; (go_simp; with_reducible rfl); simp only [Act.put, List.setIfInBounds_toArray, List.set_cons_zero, List.set_cons_succ]) | (refine C_po rfl rfl ?_; simp only [Act.put, List.setIfInBounds_toArray, List.set_cons_zero, List.set_cons_succ]) | (refine C_so rfl rfl hS0 ?_; simp only [Act.put, List.setIfInBounds_toArray, List.set_cons_zero, List.set_cons_succ]) | (refine C_to rfl rfl ?_; simp only [Act.put, List.setIfInBounds_toArray, List.set_cons_zero, List.set_cons_succ])))
        refine C_nil ?_
        clear e0 e1 e2 hD e3 e5 e6
        obtain ⟨e0, e1, e2, e3, e5, e6⟩ := HC.out _ hS.drew.drop.drop
        have hk17 : k ≤ 1000 := by omega
        by_cases hk0 : k = 0
        · subst hk0
          have hE := hS.drew
          cases how : m.ow with
          | true =>
            have HOW := Lib.hid how
            rw [how] at e5
            have hA := hE.alloc0 (.cells #[.int .i64 0, .int .i64 g, .slice none 0 0] 40)
            clear how hE hS
            go_wp2_with (at_builtin; refine wpl_append_osl rfl (.tmp 57) (.tmp 63) 30 rfl 40 3 40 _ Try.underlying30 infoRPacket rfl rfl hA rfl [.int .i64 0, .int .i64 g, .slice none 0 0] rfl (by simp) (by intro b hb; cases hb; exact new_src _ _ _) (by simp [Value.oneCell']) (by omega) (by unfold maxLen; omega) ?_)
            intro a2 c2 w2 hS2
            have e6' := (HC.out _ hS2.drop.drop).2.2.2.2.2
            have e5' := (HC.out _ hS2.drop.drop).2.2.2.2.1
            clear e0 e1 e2 e3 e5 e6 hA
            go_wp2_with fail
            go_ret
            have hnil : Sat W w2 (sep (rPkt.is [.int .i64 0, .int .i64 g, .slice none 0 0] ⟨0, g, []⟩) _) := hS2.bytes_nil.is_imp (T := rPkt) (ds := [.int .i64 0, .int .i64 g, .slice none 0 0]) (y := ⟨0, g, []⟩) fun I hI => ⟨_, rfl, hI⟩
            have hrow := (hnil.p2).snoc rfl
            have hxs : pkList m.acked m.got [] ++ [⟨0, g, []⟩] = outPkts (absM m) 0 := by
              unfold outPkts
              rw [if_pos ⟨rfl, HOW.out⟩]
              show [(⟨0, (g : Int), []⟩ : Pkt)] = [⟨0, (m.got : Int), []⟩]
              rw [HG.out]
            rw [hxs] at hrow
            have hoN : outN (absM m) 0 = 1 := by unfold outN; rw [if_pos ⟨rfl, HOW.out⟩]
            obtain ⟨k1, k2⟩ := rout_close hrow.p1 (by rw [← hxs]; simp [pkList])
            rw [hoN]
            exact ⟨a2, c2, rfl, k1, k2⟩
          | false =>
            have HOW := Lib.hid how
            rw [how] at e5
            clear how
            go_wp2_with fail
            go_ret
            have hxs : pkList m.acked m.got ((m.sent.drop m.acked).take 0) = outPkts (absM m) 0 := by
              unfold outPkts
              rw [if_neg (by rw [show (absM m).ow = m.ow from rfl, HOW.out]; simp)]
              rfl
            have hoN : outN (absM m) 0 = 0 := by
              unfold outN
              rw [if_neg (by rw [show (absM m).ow = m.ow from rfl, HOW.out]; simp)]
            rw [hxs] at hS
            obtain ⟨k1, k2⟩ := rout_close hS (by rw [← hxs]; simp [pkList])
            rw [hoN]
            exact ⟨a, c, rfl, k1, k2.drew⟩
        · have g1 : ((k : Int) == 0) = false := by simp; omega
          have HK0 := Lib.hid hk0
          go_wp2_with fail
          go_ret
          have hxs : pkList m.acked m.got ((m.sent.drop m.acked).take k) = outPkts (absM m) k := by
            unfold outPkts
            rw [if_neg (by intro h; exact HK0.out h.1)]
            rfl
          have hoN : outN (absM m) k = k := by
            unfold outN
            rw [if_neg (by intro h; exact HK0.out h.1)]
          rw [hxs] at hS
          obtain ⟨k1, k2⟩ := rout_close hS (by rw [outPkts_length _ _ (by show k ≤ (m.sent.drop m.acked).length; rw [List.length_drop, ← HL.out, ← HQ.out]; omega), hoN])
          rw [hoN]
          exact ⟨a, c, rfl, k1, k2.drew⟩
end Go.Proofs.Ytnmkdidhilekiaa
