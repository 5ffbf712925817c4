/- Package channel: the section's example holds. -/
import Derived.Test.YtnmkdidhilekiaaCh6
import Derived.Lib.SlBytesConst
namespace Go.Proofs.Ytnmkdidhilekiaa
open Go.RowKit PA
def stB0 : AEnd := ⟨2, [], 0, 0, fun _ => none, false⟩
def stB1 : AEnd := ⟨2, [], 0, 0, fset (fun _ => none) 2 (some [98]), true⟩
def stB2 : AEnd := ⟨2, [], 0, 0, fset (fset (fun _ => none) 2 (some [98])) 1 (some [97]), true⟩
theorem in_b1 (outs : List (List UInt8)) (s : AEnd) (h : DlvPre (holdSt (ackSt stB0 0) 2 [98]) outs s) (_h2 : s.held (s.dlv + 1) = none) : outs = [] ∧ s = stB1 := by
  have e : holdSt (ackSt stB0 0) 2 [98] = stB1 := by simp [holdSt, ackSt, stB0, stB1]
  rw [e] at h
  cases outs with
  | nil => exact ⟨rfl, h⟩
  | cons b outs => have := h.1; simp [stB1, fset] at this
theorem in_b2 (outs : List (List UInt8)) (s : AEnd) (h : DlvPre (holdSt (ackSt stB1 0) 1 [97]) outs s) (h2 : s.held (s.dlv + 1) = none) : outs = [[97], [98]] ∧ s.win = 2 ∧ s.wait = [] ∧ s.ack = 0 ∧ s.dlv = 2 ∧ s.ow = true := by
  have e : holdSt (ackSt stB1 0) 1 [97] = stB2 := by simp [holdSt, ackSt, stB1, stB2, fset]
  rw [e] at h
  match outs, h with
  | [], h => subst h; simp [stB2, fset] at h2
  | [b], h => 
    obtain ⟨_, h⟩ := h
    subst h; simp [stB2, advSt, fset] at h2
  | [b, c], h =>
    obtain ⟨h1, h3, h⟩ := h
    simp [stB2, fset] at h1
    simp [stB2, advSt, fset] at h3
    subst h1 h3 h
    exact ⟨rfl, rfl, rfl, rfl, rfl, rfl⟩
  | b :: c :: d :: outs, h =>
    obtain ⟨_, _, h4, _⟩ := h
    simp [stB2, advSt, fset] at h4
set_option maxHeartbeats 4000000 in
set_option maxRecDepth 100000 in
theorem lives36_spec {W w : World} {A : Assn} (h : Sat W w A) : Calls Try.prog 23 #[] w fun e w' => e = .returned (.bool true) ∧ Sat W w' A := by
  have kc := fun (w : World) (C : Array Value) (n c : Nat) => Lib.run_convert_bytes_const (P := Try.prog) w 31 5 C n c Try.underlying31 Try.underlying5
  go_enter Try.func23, Try.ntmps23
  go_wp2_with fail
  refine (new_ok 2 h (by omega) (by omega)).mono ?_
  rintro e w1 ⟨pa, rfl, h1⟩
  clear h
  go_wp2_with fail
  refine (new_ok 2 h1 (by omega) (by omega)).mono ?_
  rintro e w2 ⟨pb, rfl, h2⟩
  clear h1
  go_wp2_with fail
  refine (send_ok pa _ _ [97] (h2.bytes_of_alloc [97] 5 (1, 2) (by decide)).p2 (by decide) (by decide)).mono ?_
  rintro e w3 ⟨rfl, h3⟩
  clear h2
  go_wp2_with fail
  refine (send_ok pa _ _ [98] (h3.bytes_of_alloc [98] 5 (1, 2) (by decide)).p1 (by decide) (by decide)).mono ?_
  rintro e w4 ⟨rfl, h4⟩
  clear h3
  go_wp2_with fail
  refine (send_ok pa _ _ [99] (h4.bytes_of_alloc [99] 5 (1, 2) (by decide)).p1 (by decide) (by decide)).mono ?_
  rintro e w5 ⟨rfl, h5⟩
  clear h4
  simp only [newEnd, List.nil_append, List.cons_append] at h5
  go_wp2_with fail
  refine (out_pkts pa _ h5 (by decide) (by decide) 2 (by decide) (by decide) (by decide) (by decide)).mono ?_
  rintro e w6 ⟨ap, cp, he, hwp, h6⟩
  simp only [outN, Nat.reduceEqDiff, false_and, if_false] at he
  subst he
  clear h5
  simp only [outN, outPkts, pkList, List.take, Nat.reduceEqDiff, false_and, if_false] at h6 hwp
  obtain ⟨bp, op, v0, rfl, g00, g01, g02, h7⟩ := pkt_get h6 0 (by decide)
  obtain ⟨bp', op', v1, e, g10, g11, g12, h8⟩ := pkt_get h7.p1 1 (by decide)
  cases e
  obtain ⟨a0, k0, rfl, -, -⟩ := h7.bytes_open
  obtain ⟨a1, k1, rfl, -, -⟩ := h8.bytes_open
  clear h6 h7 hwp
  simp at g00 g01 g02 g10 g11 g12
  go_wp2_with fail
  simp only [List.getElem_cons_zero, List.getElem_cons_succ, List.length_cons, List.length_nil, Nat.zero_add] at h8
  refine (in_ok pb stB0 2 0 (.slice a1 1 k1) [98] h8.p4 (by decide) (by decide) (by decide) (by decide) (by intro k hk; exact absurd rfl hk) (by decide) (by decide) (by decide) (by decide) (by decide)).mono ?_
  rintro e w7 ⟨ax, cx, vx, outs, s, rfl, hd, hd2, h9⟩
  obtain ⟨rfl, rfl⟩ := in_b1 outs s hd hd2
  clear h8 g00 g01 g02 g10 g11 g12 hd hd2
  have h10 := h9.p3
  obtain ⟨bp', op', v0, e, g00, g01, g02, h11⟩ := pkt_get h10 0 (by decide)
  cases e
  obtain ⟨a0', k0', rfl, -, -⟩ := h11.bytes_open
  clear h9 h10
  simp at g00 g01 g02
  go_wp2_with fail
  simp only [List.getElem_cons_zero, List.getElem_cons_succ, List.length_cons, List.length_nil, Nat.zero_add] at h11
  refine (in_ok pb stB1 1 0 (.slice a0' 1 k0') [97] h11.p4 (by decide) (by decide) (by decide) (by decide) (by intro k hk; simp [stB1, fset] at hk; omega) (by decide) (by decide) (by decide) (by decide) (by decide)).mono ?_
  rintro e w8 ⟨ay, cy, vy, outs, s, rfl, hd, hd2, h12⟩
  obtain ⟨rfl, s1, s2, s3, s4, s5⟩ := in_b2 outs s hd hd2
  clear h11 g00 g01 g02 hd hd2
  go_wp2_with fail
  refine (out_pkts pb s h12.p2 (by omega) (by omega) 0 (by rw [s2, s1]; decide) (by omega) (by omega) (by rw [s2]; simp)).mono ?_
  rintro e w9 ⟨aq, cq, he, hwq, h13⟩
  rw [show outN s 0 = 1 by simp [outN, s5]] at he hwq h13
  rw [show outPkts s 0 = [⟨0, 2, []⟩] by simp [outPkts, s5, s4]] at h13
  subst he
  clear h12 s1 s2 s3 s4 s5
  obtain ⟨bq, oq, v2, rfl, g00, g01, g02, h14⟩ := pkt_get h13 0 (by decide)
  obtain ⟨a2, k2, rfl, -, -⟩ := h14.bytes_open
  have h15 := h14.p4.p4.slice_of_osl (R := rBytes) (k := 1) (xs := [[97], [98]]) rfl
  clear h13 h14
  obtain ⟨by1, oy, cv, rfl, hcv, hcy, h16⟩ := h15.slice_get 1 (by decide) (by decide)
  obtain ⟨vy1, rfl⟩ : ∃ v, cv = [v] := by match cv, hcv with | [x], _ => exact ⟨x, rfl⟩
  have gy := hcy 0 _ rfl
  have hst := run_string_bytes (P := Try.prog) (src := 31) (dst := 9) Try.underlying31 Try.underlying5 Try.underlying9 h16
  obtain ⟨a3, k3, rfl, -, -⟩ := h16.bytes_open
  clear h15 hcy hcv
  simp at g00 g01 g02 gy hst
  go_wp2_with fail
  have h17 := h16.p2.p9
  clear h16 hst gy g00 g01 g02 hwq
  refine (in_zero pa ⟨2, [[97], [98], [99]], 0, 0, fun _ => none, false⟩ 0 2 (.slice a2 0 k2) [] h17 (by decide) (by decide) (by decide) rfl (by decide) (by decide) (by decide) (by decide) (by decide)).mono ?_
  rintro e w10 ⟨rfl, h18⟩
  rw [show ackSt ⟨2, [[97], [98], [99]], 0, 0, fun _ => none, false⟩ 2 = ⟨2, [[99]], 2, 0, fun _ => none, false⟩ from rfl] at h18
  clear h17
  go_wp2_with fail
  refine (out_pkts pa _ h18 (by decide) (by decide) 1 (by decide) (by decide) (by decide) (by decide)).mono ?_
  rintro e w11 ⟨ap, cp2, he, hwp, h19⟩
  simp only [outN, Nat.reduceEqDiff, false_and, if_false] at he
  subst he
  clear h18
  simp only [outN, outPkts, pkList, List.take, Nat.reduceEqDiff, false_and, if_false] at h19 hwp
  obtain ⟨b4, o4, v4, rfl, g00, g01, g02, h20⟩ := pkt_get h19 0 (by decide)
  have hst := run_string_bytes (P := Try.prog) (src := 31) (dst := 9) Try.underlying31 Try.underlying5 Try.underlying9 h20
  obtain ⟨a4, k4, rfl, -, -⟩ := h20.bytes_open
  clear hwp h19
  simp at g00 g01 g02 hst
  go_wp2_with fail
  refine (waiting_spec pa _ h20.p2).mono ?_
  rintro e w12 ⟨rfl, h21⟩
  go_wp2_with fail
  go_ret
  exact ⟨rfl, h21.drop.drop.drop.drop.drop.drop.drop.drop.drop.drop.drop⟩
end Go.Proofs.Ytnmkdidhilekiaa
