/- Package hash: Sum. -/
import Derived.RangeFuncBox
import Derived.Test.YtcmjbjlliehdiaaDoorH
namespace Go.Proofs.YtcmjbjlliehdiaaDoor
open Go.RowKit PA
attribute [local go_sem] Oper.semAt_some
theorem mix_in (F : Fence) (n : Nat) (hF : F.fn 58) (hro : F.round = none) (s x : Nat) (w : World) (hs : s < 18446744073709551616) (hx : x < 18446744073709551616) : CallsIn F n Tryd.prog 58 #[.int .u64 s, .int .u64 x] w fun e w' => e = .returned (.int .u64 (mixN s x : Nat)) ∧ w = w' := by
  refine callsIn_of_wp Tryd.func58 rfl hF ?_ hro
  simp only [Tryd.ntmps58, List.size_toArray, List.length_cons, List.length_nil, Nat.reduceAdd, Nat.reduceSub, Array.replicate_succ, Array.replicate_zero, List.push_toArray, List.append_toArray, List.nil_append, List.cons_append]
  gi_wp2
  go_ret
  exact ⟨ret_int (mix_val s x hs hx), rfl⟩
theorem mix0_spec (s : Nat) (w : World) (hs : s < 18446744073709551616) : Calls Tryd.prog 58 #[.int .u64 s, .int .u64 0] w fun e w' => e = .returned (.int .u64 (mixN s 0 : Nat)) ∧ w = w' := mix_spec s 0 w hs (by omega)
/-- A row of ints that lies below n. -/
def IntsAt (n : Nat) (w : World) (ad : Option Addr) (l : List Int) : Prop := l ≠ [] → ∃ b o, ad = some ⟨b, o, none⟩ ∧ b < n ∧ ∀ j (h : j < l.length), w.cell? ⟨b, o + j, none⟩ = some (.int .i64 l[j])
set_option maxRecDepth 100000 in
set_option maxHeartbeats 4000000 in
theorem sum_spec (s : ByteArray) (ad : Option Addr) (cp : Nat) (ns : List Int) (w : World) (hs : s.size ≤ 4611686018427387904) (hn : ns.length ≤ 4611686018427387904) (hl : IntsAt w.heap.size w ad ns) :
    Calls Tryd.prog 26 #[.string s, .slice ad ns.length cp] w fun e w' => e = .returned (.int .u64 (sumN s.data.toList ns : Nat)) ∧ Below w.heap.size w w' := by
  refine (callsIn_wide (n := 3)).1 ?_
  refine callsIn_of_wp_marks Tryd.func26 rfl trivial ?_ rfl
  simp only [Tryd.ntmps26, List.size_toArray, List.length_cons, List.length_nil, Nat.reduceAdd, Nat.reduceSub, Array.replicate_succ, Array.replicate_zero, List.push_toArray, List.append_toArray, List.nil_append, List.cons_append]
  have HS := Lib.hid hs
  have HN := Lib.hid hn
  have HL := Lib.hid hl
  clear hs hn hl
  gi_wp2_with (refine ⟨trivial, ?_⟩; gi_at_call 57; refine (wordsS_in Fence.wide _ trivial rfl s _).mono ?_; rintro e w' ⟨rfl, rfl⟩)
  obtain ⟨B, hB⟩ : ∃ B, B = w.heap.size := ⟨_, rfl⟩
  obtain ⟨W0, hW0⟩ : ∃ W0, W0 = (w.alloc (.cells #[.int .u64 0] 43)).alloc (.cells #[.string s] 9) := ⟨_, rfl⟩
  have hz0 : W0.heap.size = B + 2 := by rw [hW0, hB]; simp
  have hbel0 : Below B w W0 := by rw [hW0, hB]; exact ((Below.refl _ w).alloc (Nat.le_refl _) _).alloc (by simp) _
  have hbx0 : Boxed W0 B 43 (.int .u64 0) := by rw [hW0, hB]; exact (Boxed.new w 43 _).alloc _
  have hbs : Boxed W0 (B + 1) 9 (.string s) := by rw [hW0, hB]; have := Boxed.new (w.alloc (.cells #[.int .u64 0] 43)) 9 (.string s); rw [World.size_alloc] at this; exact this
  rw [← hW0, ← hB]
  have HB := Lib.hid hB
  clear hW0 hB
  refine wpIn_rangeFunc_ownF (F := Fence.wide) rfl (by omega) (gf := 89) (lb := #[.pointer (some ⟨B + 1, 0, none⟩)]) rfl trivial (enters_of Tryd.func89 (by kernel_rfl) rfl)
    (wordsS_stops Fence.wide (3 - 1) trivial rfl (by omega) (B + 1) B s HS.out _ (by rw [hz0]; omega) hbs.cell) (fun h k => KpB.trans h k) (kpB_b (by rw [hz0]; omega) (by rw [hz0]; omega)) (Below.refl _ _) (fun _ => rfl)
    (fun pre W => Boxed W B 43 (.int .u64 (((pre.map (·.1)).foldl mixN 0 : Nat))) ∧ Below B w W)
    (fun _ _ _ => False)
    (OwnFrom.and (Own.from (boxed_own _ _ _) _) (ownFrom_below (by rw [HB.out]; exact Nat.le_refl _) (by rw [hz0]; omega)))
    (fun _ => (Own.from (fun _ _ _ _ hs _ _ => hs) _))
    ⟨hbx0, hbel0⟩
    (fun x => { tmps := #[.string s, .slice ad ns.length cp, undef, undef, .int .u64 0, .pointer (some ⟨B, 0, none⟩), .int .u64 (x.1 : Nat), undef, undef, .string s, .func (.func 89) #[] #[.pointer (some ⟨B + 1, 0, none⟩)], .int .u64 (x.1 : Nat), undef, undef, undef, undef, undef, undef, undef, undef, undef, undef, undef, undef, undef, undef, undef, undef, undef, undef, undef, undef, undef, undef, undef, undef, undef], defers := [] }) ?assign ?body ?done ?stop
  case assign =>
    intro l x W K hK
    gi_wp2
    exact hK
  case body =>
    /-DEV-/
    rintro l pre x W ⟨hbx, hbl⟩ _
    have hd : 1 ≤ 3 - 1 - 1 := by omega
    have hlt := foldl_mix_lt (pre.map (·.1)) 0 (by omega)
    obtain ⟨y, hy⟩ : ∃ y, y = (pre.map (·.1)).foldl mixN 0 := ⟨_, rfl⟩
    rw [← hy] at hbx hlt
    have hc := hbx.cell
    have hf := hbx.frozen
    have HY := Lib.hid hy
    have HLT := Lib.hid hlt
    clear hy hlt
    gi_wp2_with (refine ⟨trivial, ?_⟩; gi_at_call 58; refine (CallsIn.inRound l (mix_in _ _ trivial rfl _ _ _ HLT.out x.2)).mono ?_; rintro e w' ⟨rfl, rfl⟩)
    refine ⟨KeepsOthers.setCell _ _ _, ⟨(Below.refl B W).setCell (p := ⟨B, 0, none⟩) (Nat.le_refl _) _, World.cell?_setCell_other W _ _ _ (by simp)⟩, ?_, hbl.setCell (p := ⟨B, 0, none⟩) (Nat.le_refl _) _⟩
    rw [List.map_append, List.foldl_append, ← HY.out, List.map_cons, List.map_nil, List.foldl_cons, List.foldl_nil]
    exact hbx.set _
    /-VED-/
  case done =>
    rintro D xs W hD rfl ⟨hbx, hbl⟩ hK
    rw [wordsU_val] at hbx
    obtain ⟨y0, hy0⟩ : ∃ y0, y0 = (wordsN s.data.toList).foldl mixN 0 := ⟨_, rfl⟩
    have hy0l : y0 < 18446744073709551616 := by rw [hy0]; exact foldl_mix_lt _ 0 (by omega)
    rw [← hy0] at hbx
    have hsz : (s.size : Int) ≤ 4611686018427387904 := by have := HS.out; omega
    have hnl : (ns.length : Int) ≤ 4611686018427387904 := by have := HN.out; omega
    obtain ⟨n0, hn0⟩ : ∃ n0, n0 = ns.length := ⟨_, rfl⟩
    rw [← hn0] at hnl ⊢
    have hw1 : IntKind.u64.wrap (s.size : Int) = (s.size : Nat) := wraps_u64 _ (by omega) (by omega)
    have hw2 : IntKind.u64.wrap (n0 : Int) = (n0 : Nat) := wraps_u64 _ (by omega) (by omega)
    have hlt1 : s.size < 18446744073709551616 := by omega
    have hlt2 : n0 < 18446744073709551616 := by omega
    have hc := hbx.cell
    have hf := hbx.frozen
    have hB2 := hbl.setCell (p := ⟨B, 0, none⟩) (Nat.le_refl _) (.int .u64 (mixN (mixN y0 s.size) n0 : Nat))
    have hbx2 := hbx.set (.int .u64 (mixN (mixN y0 s.size) n0 : Nat))
    have hK2 : (W.setCell ⟨B, 0, none⟩ (.int .u64 (mixN (mixN y0 s.size) n0 : Nat))).heap[D]? = some (.deferred (some [])) := (KeepsOthers.setCell _ _ _).same D _ hK rfl
    have H0 := Lib.hid hy0
    have HN0 := Lib.hid hn0
    have HK2 := Lib.hid hK2
    have HL0 := Lib.hid hy0l
    have HL1 := Lib.hid hlt1
    have HL2 := Lib.hid hlt2
    clear hy0 hy0l hlt1 hlt2 hn0 hbx hK hK2
    gi_wp2_with (refine ⟨trivial, ?_⟩; ((with_reducible refine (callsIn_wide.2 (mix_spec _ _ _ (by first | exact HL0.out | exact mixN_lt _ _) (by first | exact HL1.out | exact HL2.out))).mono ?_); rintro e w' ⟨rfl, rfl⟩))
    generalize W.setCell ⟨B, 0, none⟩ (.int .u64 (mixN (mixN y0 s.size) n0 : Nat)) = W2 at *
    obtain ⟨y2, hy2⟩ : ∃ y2, y2 = mixN (mixN y0 s.size) n0 := ⟨_, rfl⟩
    have hy2l : y2 < 18446744073709551616 := by rw [hy2]; exact mixN_lt _ _
    rw [← hy2] at hbx2 ⊢
    have HY2 := Lib.hid hy2
    have HY2L := Lib.hid hy2l
    clear hy2 hy2l hw1 hw2 hc hf
    gi_loopw [26] (fun iv wr => ∃ k : Nat, k ≤ n0 ∧ iv = .int .i64 k ∧ Boxed wr B 43 (.int .u64 ((((ns.map u64N).take k).foldl mixN y2 : Nat))) ∧ Below B w wr ∧ wr.heap[D]? = some (.deferred (some []))) (fun iv _ => n0 - (intOf iv).toNat)
    case atStart => exact ⟨0, Nat.zero_le _, rfl, by simpa using hbx2, hB2, HK2.out⟩
    case round =>
      clear hbx2 hB2
      obtain ⟨k, hk, rfl, hbx, hbl2, hK⟩ := hrel
      obtain ⟨y, hy⟩ : ∃ y, y = ((ns.map u64N).take k).foldl mixN y2 := ⟨_, rfl⟩
      have hyl : y < 18446744073709551616 := by rw [hy]; exact foldl_mix_lt _ _ HY2L.out
      rw [← hy] at hbx
      have hc := hbx.cell
      have hf := hbx.frozen
      have HY := Lib.hid hy
      have HYL := Lib.hid hyl
      have HK := Lib.hid hK
      clear hy hyl hK
      by_cases hlt : k < n0
      · have hltn : k < ns.length := by rw [← HN0.out]; exact hlt
        obtain ⟨b, o, rfl, hbn, hcells⟩ := HL.out (fun e => by rw [e] at hltn; simp at hltn)
        have hck : wr.cell? ⟨b, o + k, none⟩ = some (.int .i64 ns[k]) := (hbl2.cell (p := ⟨b, o + k, none⟩) (by rw [HB.out]; exact hbn)).trans (hcells k hltn)
        obtain ⟨z, hz⟩ : ∃ z, z = ns[k] := ⟨_, rfl⟩
        rw [← hz] at hck
        have hwz := u64N_wrap z
        have hzl := u64N_lt z
        have HZ := Lib.hid hz
        have HZL := Lib.hid hzl
        have hltI : (k : Int) < n0 := by omega
        clear hz hcells hzl
        gi_wp2_with (refine ⟨trivial, ?_⟩; ((with_reducible refine (callsIn_wide.2 (mix_spec _ _ _ (by exact HYL.out) (by exact HZL.out))).mono ?_); rintro e w' ⟨rfl, rfl⟩))
        go_roundw
        case rel =>
          refine ⟨k + 1, by omega, by go_num, ?_, hbl2.setCell (p := ⟨B, 0, none⟩) (Nat.le_refl _) _, (KeepsOthers.setCell _ _ _).same D _ HK.out rfl⟩
          have e : (ns.map u64N).take (k + 1) = (ns.map u64N).take k ++ [u64N z] := by
            rw [List.take_succ_eq_append_getElem (by rw [List.length_map, ← HN0.out]; exact hlt), List.getElem_map, ← HZ.out]
          rw [e, List.foldl_append, ← HY.out, List.foldl_cons, List.foldl_nil]
          exact hbx.set _
        case measure => simp [intOf]; omega
      · obtain rfl : k = n0 := by omega
        gi_wp2_with (refine ⟨trivial, ?_⟩; ((with_reducible refine (callsIn_wide.2 (mix0_spec y _ (by exact HYL.out))).mono ?_); rintro e w' ⟨rfl, rfl⟩))
        refine ⟨by simp, .inl ⟨_, _, rfl, run_takeDeferred HK.out, ?_⟩⟩
        refine ⟨_, results_tmp rfl _ _ _, ?_, ?_⟩
        · refine ret_int ?_
          rw [sumN, sumU, List.length_map, ← H0.out, ← HN0.out, show s.data.toList.length = s.size by simp, ← HY2.out]
          rw [HY.out, List.take_of_length_le (by rw [List.length_map, ← HN0.out]; exact Nat.le_refl _)]
        · rw [← HB.out]
          exact hbl2.trans (belowK_b (w := w) (by rw [HB.out]; exact Nat.le_refl _) wr D _ _ (by have := HB.out; omega) HK.out rfl rfl)
  case stop =>
    rintro D c pre W _ _ h _
    exact h.elim
end Go.Proofs.YtcmjbjlliehdiaaDoor
