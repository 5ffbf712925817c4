/- ChannelWindow, the walk. -/
import Derived.Test.YtnmkdidhilekiaaCh7
namespace Go.Proofs.Ytnmkdidhilekiaa
open Go.RowKit PA
def winSt (win : Int) (m : Nat) (ack : Int) (ow : Bool) : AEnd := ⟨win, List.replicate m [], ack, 0, fun _ => none, ow⟩
theorem make_big {W w : World} {A : Assn} (h : Sat W w A) (n : Nat) (hn : (n : Int) ≤ 281474976710656) : ∃ (bs : List UInt8) (w' : World), bs.length = n ∧
    (Instr.makeSlice 31 (.int .i64 n) (.int .i64 n)).run Try.prog w = .ok (.slice (some ⟨w.heap.size, 0, none⟩) n n) w' ∧ Sat W w' (sep (rBytes.is [.slice (some ⟨w.heap.size, 0, none⟩) n n] bs) A) := by
  obtain ⟨w', h1, h2⟩ := make_bytes (P := Try.prog) Try.underlying31 infoU8 h n hn
  exact ⟨_, w', by simp, h1, h2.bytes_of_osl.2⟩
def WinRel2 (w : World) (p : Nat) (a0 : Int) (m : Nat) (i : Value) (wr : World) : Prop :=
  ∃ k : Nat, k ≤ 2 ∧ i = .int .i64 k ∧ Sat w wr (sep (isEnd p (winSt a0 m 0 false)) emp)
def WinRel3 (r : Nat) (j : Value) : Prop := ∃ k : Nat, k ≤ r ∧ j = .int .i64 k
theorem win_len (a0 : Int) (m : Nat) (a : Int) (o : Bool) : (winSt a0 m a o).wait.length = m := by simp [winSt]
theorem win_outN (a0 : Int) (m r : Nat) (a : Int) : outN (winSt a0 m a false) r = r := by simp [outN, winSt]
theorem win_pk (a0 : Int) (m r : Nat) (a : Int) (hr : r ≤ m) : outPkts (winSt a0 m a false) r = pkList a 0 (List.replicate r []) := by
  simp [outPkts, winSt, Nat.min_eq_left hr]
theorem win_ack (a0 : Int) (m q : Nat) (hq : q ≤ m) : ackSt (winSt a0 m 0 false) q = winSt a0 (m - q) q false := by
  unfold ackSt
  split
  · simp [winSt]
  · have : q = 0 := by simp [winSt] at *; omega
    subst this; simp [winSt]
theorem win_short (a0 : Int) (m : Nat) (a : Int) (o : Bool) : ∀ b ∈ (winSt a0 m a o).wait, b.length ≤ 65536 := by
  intro b hb; rw [(List.mem_replicate.1 hb).2]; decide
def WinRel (w : World) (p : Nat) (a0 : Int) (n : Nat) (i : Value) (wr : World) : Prop :=
  ∃ k : Nat, k ≤ n ∧ i = .int .i64 k ∧ Sat w wr (sep (isEnd p (winSt a0 (min k 1000) 0 false)) emp)
set_option maxHeartbeats 4000000 in
set_option maxRecDepth 100000 in
theorem channelWindow_walk (a0 a1 a2 : Int) (w0 : (Lit.int .i64 a0).wf = true) (w1 : (Lit.int .i64 a1).wf = true) (w2 : (Lit.int .i64 a2).wf = true) (w : World) :
    Calls Try.prog 6 #[.int .i64 a0, .int .i64 a1, .int .i64 a2] w fun e w' => e = .returned (.bool true) ∧ Below w.heap.size w w' := by
  obtain ⟨b0, b1⟩ := i64_of_wf w0
  obtain ⟨b2, b3⟩ := i64_of_wf w1
  obtain ⟨b4, b5⟩ := i64_of_wf w2
  clear w0 w1 w2
  have h0 := Sat.start w
  by_cases hw : a0 < 1 ∨ 16 < a0
  · rcases hw with hw | hw
    · go_enter Try.func6, Try.ntmps6
      go_wp2_with fail
      refine (new_no a0 h0 (.inl hw)).mono ?_
      rintro e w1 ⟨rfl, h1⟩
      go_wp2_with fail
      refine (lives36_spec h1).mono ?_
      rintro e w2 ⟨rfl, h2⟩
      go_wp2_with fail
      go_ret
      exact ⟨rfl, h2.below⟩
    · have hw' : ¬ a0 < 1 := by omega
      go_enter Try.func6, Try.ntmps6
      go_wp2_with fail
      refine (new_no a0 h0 (.inr hw)).mono ?_
      rintro e w1 ⟨rfl, h1⟩
      go_wp2_with fail
      refine (lives36_spec h1).mono ?_
      rintro e w2 ⟨rfl, h2⟩
      go_wp2_with fail
      go_ret
      exact ⟨rfl, h2.below⟩
  · have hw1 : 1 ≤ a0 := by omega
    have hw2 : a0 ≤ 16 := by omega
    clear hw
    go_enter Try.func6, Try.ntmps6
    go_wp2_with fail
    refine (new_ok a0 h0 hw1 hw2).mono ?_
    rintro e w1 ⟨p, rfl, h1⟩
    go_wp2_with fail
    refine (around_spec a1 1003 _ b2 b3 (by omega) (by omega)).mono ?_
    rintro e w2 ⟨rfl, rfl⟩
    obtain ⟨g1, g2⟩ := aroundI_lt a1 1003 (by omega)
    obtain ⟨n, hn⟩ : ∃ n : Nat, aroundI a1 1003 = n := ⟨(aroundI a1 1003).toNat, by omega⟩
    rw [hn] at g1 g2 ⊢
    have hn3 : n < 1003 := by omega
    clear hn g1 g2
    go_wp2_with fail
    go_loopw [10] (WinRel w p a0 n) (fun i _ => n - (intOf i).toNat)
    case atStart => exact ⟨0, Nat.zero_le _, rfl, h1⟩
    case round =>
      obtain ⟨k, hk, rfl, hS⟩ := hrel
      by_cases hlt : k < n
      · by_cases hk1 : k < 1000
        · have hb : decide ((k : Int) < 1000) = true := by simp; omega
          go_wp2_with fail
          refine (send_ok p _ (.slice none 0 0) [] (hS.bytes_nil.p1) (by decide) (by simp [winSt]; omega)).mono ?_
          rintro e w3 ⟨rfl, h3⟩
          go_wp2_with fail
          go_roundw
          case rel =>
            refine ⟨k + 1, by omega, by go_num, ?_⟩
            have : ({ winSt a0 (min k 1000) 0 false with wait := (winSt a0 (min k 1000) 0 false).wait ++ [[]] } : AEnd) = winSt a0 (min (k + 1) 1000) 0 false := by
              rw [Nat.min_eq_left (by omega), Nat.min_eq_left (by omega)]; simp [winSt, List.replicate_succ']
            rw [this] at h3
            exact h3
          case measure => simp [intOf]; omega
        · have hb : decide ((k : Int) < 1000) = false := by simp; omega
          go_wp2_with fail
          refine (send_no p _ (.slice none 0 0) [] (hS.bytes_nil.p1) (.inr (by simp [winSt]; omega))).mono ?_
          rintro e w3 ⟨rfl, h3⟩
          go_wp2_with fail
          go_roundw
          case rel =>
            refine ⟨k + 1, by omega, by go_num, ?_⟩
            rw [Nat.min_eq_right (by omega)] at h3
            rw [Nat.min_eq_right (by omega)]
            exact h3.p1.drop
          case measure => simp [intOf]; omega
      · obtain rfl : k = n := by omega
        have hmn : (if (1000 : Int) < (k : Int) then 1000 else (k : Int)) = ((min k 1000 : Nat) : Int) := by split <;> omega
        have hm : min k 1000 ≤ 1000 := Nat.min_le_right _ _
        generalize min k 1000 = m at *
        clear hk hlt h1
        go_wp2_with fail
        clear hmn hn3
        refine (around_spec a2 (m + 1) _ b4 b5 (by omega) (by omega)).mono ?_
        rintro e w4 ⟨rfl, rfl⟩
        obtain ⟨g1, g2⟩ := aroundI_lt a2 (m + 1) (by omega)
        obtain ⟨q, hq⟩ : ∃ q : Nat, aroundI a2 (m + 1) = q := ⟨(aroundI a2 (m + 1)).toNat, by omega⟩
        rw [hq] at g1 g2 ⊢
        have hqm : q ≤ m := by omega
        clear hq g1 g2
        obtain ⟨r, hr⟩ : ∃ r : Nat, (r : Int) = min (m : Int) a0 := ⟨(min (m : Int) a0).toNat, by omega⟩
        have hrm : r ≤ m := by omega
        have hmr : (if a0 < (m : Int) then a0 else (m : Int)) = (r : Int) := by split <;> omega
        have HR := Lib.hid hr
        clear hr
        go_wp2_with fail
        go_loopw [12] (WinRel2 w p a0 m) (fun i _ => 2 - (intOf i).toNat)
        case atStart => exact ⟨0, by omega, rfl, hS⟩
        case round =>
          clear hS
          obtain ⟨i, hi, rfl, hS⟩ := hrel
          by_cases hi2 : i < 2
          · go_wp2_with fail
            refine (out_pkts p _ hS hw1 hw2 r (by rw [win_len]; exact HR.out) (by simp [winSt]) (by simp [winSt]) (win_short _ _ _ _)).mono ?_
            rintro e w5 ⟨ap, cp, he, hwp, hP⟩
            rw [win_outN] at he hwp hP
            rw [win_pk _ _ _ _ hrm] at hP
            subst he
            go_wp2_with fail
            go_loop [14] (WinRel3 r) (fun i => r - (intOf i).toNat)
            case atStart => exact ⟨0, Nat.zero_le _, rfl⟩
            case round =>
              obtain ⟨j, hj, rfl⟩ := hrel
              by_cases hj2 : j < r
              · obtain ⟨bp, op, v, rfl, g00, g01, g02, h7⟩ := pkt_get hP j (by rw [pkList_length, List.length_replicate]; exact hj2)
                rw [pkList_get] at g00 g01
                simp only [Int.zero_add] at g00 g01
                clear hP h7 g02 hwp
                go_wp2_with fail
                go_round
                case rel => exact ⟨j + 1, by omega, by go_num⟩
                case measure => simp [intOf]; omega
              · go_wp2_with fail
                go_roundw
                case rel => exact ⟨i + 1, by omega, by go_num, hP.drop⟩
                case measure => simp [intOf]; omega
          · clear hmr HR
            go_wp2_with fail
            refine (in_bad p _ 0 (m + 1) (.slice none 0 0) [] hS.bytes_nil.p1 (.inr ⟨by simp [validB]; omega, .inl (by rw [win_len]; simp [winSt]; omega)⟩) (by simp [winSt]) (by rw [win_len]; simp [winSt]; omega) (by simp [winSt]) (by simp [winSt])).mono ?_
            rintro e w6 ⟨rfl, h6⟩
            clear hS
            go_wp2_with fail
            refine (waiting_spec p _ h6).mono ?_
            rintro e w7 ⟨he, h7⟩
            rw [win_len] at he
            subst he
            clear h6
            go_wp2_with fail
            refine (in_zero p _ 0 q (.slice none 0 0) [] h7.bytes_nil.p1 (by simp [validB]) (by rw [win_len]; simp [winSt]; omega) (by simp [winSt]) rfl (by simp [winSt]) (by rw [win_len]; simp [winSt]; omega) (by simp [winSt]) (by simp [winSt]) (by decide)).mono ?_
            rintro e w8 ⟨rfl, h8⟩
            rw [win_ack _ _ _ hqm] at h8
            clear h7
            go_wp2_with fail
            obtain ⟨r2, hr2⟩ : ∃ r : Nat, (r : Int) = min ((m - q : Nat) : Int) a0 := ⟨(min ((m - q : Nat) : Int) a0).toNat, by omega⟩
            have hmr : (if a0 < (m : Int) - q then a0 else (m : Int) - q) = (r2 : Int) := by split <;> omega
            have hr3 : r2 ≤ m - q := by omega
            refine (out_pkts p _ h8 hw1 hw2 r2 (by rw [win_len]; exact hr2) (by simp [winSt]) (by simp [winSt]; omega) (win_short _ _ _ _)).mono ?_
            rintro e w9 ⟨ap, cp, he, hwp, hP⟩
            rw [win_outN] at he hwp hP
            rw [win_pk _ _ _ _ hr3] at hP
            subst he
            clear h8 hr2
            go_wp2_with fail
            refine (waiting_spec p _ hP.p1).mono ?_
            rintro e w10 ⟨he, h10⟩
            have hl : ((winSt a0 (m - q) q false).wait.length : Int) = (m : Int) - q := by rw [win_len]; omega
            rw [hl] at he
            subst he
            clear hl
            have hsub : IntKind.i64.wrap ((m : Int) - q) = (m : Int) - q := IntWalk.i64_in _ (by omega)
            have h11 := h10.p1
            obtain ⟨big, w11, hbl, hmk, h12⟩ := make_big h10 65537 (by omega)
            have hmk' : (Instr.makeSlice 31 (.int .i64 65537) (.int .i64 65537)).run Try.prog w10 = .ok (.slice (some ⟨w10.heap.size, 0, none⟩) 65537 65537) w11 := hmk
            have HBL := Lib.hid hbl
            clear hmk hbl
            by_cases hz : r2 = 0
            · subst hz
              go_wp2_with fail
              refine (send_no p _ _ big h12.p1 (.inl (by rw [HBL.out]; omega))).mono ?_
              rintro e w12 ⟨rfl, h13⟩
              clear hmk'
              go_wp2_with fail
              refine (lives36_spec h13).mono ?_
              rintro e w13 ⟨rfl, h14⟩
              go_wp2_with fail
              go_ret
              exact ⟨rfl, h14.below⟩
            · obtain ⟨bp, op, v, rfl, g00, g01, g02, -⟩ := pkt_get h11 0 (by rw [pkList_length, List.length_replicate]; omega)
              rw [pkList_get] at g00
              have hz2 : ((r2 : Int) == 0) = false := by simp; omega
              rw [Nat.zero_mul, Nat.add_zero, show (q : Int) + ((0 : Nat) : Int) + 1 = (q : Int) + 1 by omega] at g00
              clear g01 g02
              go_wp2_with fail
              refine (send_no p _ _ big h12.p1 (.inl (by rw [HBL.out]; omega))).mono ?_
              rintro e w12 ⟨rfl, h13⟩
              clear hmk'
              go_wp2_with fail
              refine (lives36_spec h13).mono ?_
              rintro e w13 ⟨rfl, h14⟩
              go_wp2_with fail
              go_ret
              exact ⟨rfl, h14.below⟩
end Go.Proofs.Ytnmkdidhilekiaa
