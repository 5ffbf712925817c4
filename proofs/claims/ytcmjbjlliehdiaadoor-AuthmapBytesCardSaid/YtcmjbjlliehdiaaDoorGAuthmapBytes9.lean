/- Package hash: Sum. -/
import Derived.RangeFuncBox
import Derived.Test.YtcmjbjlliehdiaaDoorH
import Derived.Maps.AppendAt
namespace Go.Proofs.YtcmjbjlliehdiaaDoor
open Go.RowKit PA
attribute [local go_sem] Oper.semAt_some
theorem mix_in (F : Fence) (n : Nat) (hF : F.fn 58) (hro : F.round = none) (s x : Nat) (w : World) (hs : s < 18446744073709551616) (hx : x < 18446744073709551616) : CallsIn F n Tryd.prog 58 #[.int .u64 s, .int .u64 x] w fun e w' => e = .returned (.int .u64 (mixN s x : Nat)) ∧ w = w' := by
  refine callsIn_of_wp Tryd.func58 rfl hF ?_ hro
  simp only [Tryd.ntmps58, List.size_toArray, List.length_cons, List.length_nil, Nat.reduceAdd, Nat.reduceSub, Array.replicate_succ, Array.replicate_zero, List.push_toArray, List.append_toArray, List.nil_append, List.cons_append]
  gi_wp2
  go_ret
  exact ⟨ret_int (mix_val s x hs hx), rfl⟩
theorem mix0_spec (s : Nat) (w : World) (hs : s < 18446744073709551616) : Calls Tryd.prog 58 #[.int .u64 s, .int .u64 0] w fun e w' => e = .returned (.int .u64 (mixN s 0 : Nat)) ∧ w = w' := mix_spec s 0 w hs (by omega)
/-- A row of ints that lies below n. -/
def IntsAt (n : Nat) (w : World) (ad : Option Addr) (l : List Int) : Prop := l ≠ [] → ∃ b o, ad = some ⟨b, o, none⟩ ∧ b < n ∧ ∀ j (h : j < l.length), w.cell? ⟨b, o + j, none⟩ = some (.int .i64 l[j])
set_option maxRecDepth 100000 in
set_option maxHeartbeats 4000000 in
theorem sum_spec (s : ByteArray) (ad : Option Addr) (cp : Nat) (ns : List Int) (w : World) (hs : s.size ≤ 4611686018427387904) (hn : ns.length ≤ 4611686018427387904) (hl : IntsAt w.heap.size w ad ns) :
    Calls Tryd.prog 26 #[.string s, .slice ad ns.length cp] w fun e w' => e = .returned (.int .u64 (sumN s.data.toList ns : Nat)) ∧ Below w.heap.size w w' := by
  refine (callsIn_wide (n := 3)).1 ?_
  refine callsIn_of_wp_marks Tryd.func26 rfl trivial ?_ rfl
  simp only [Tryd.ntmps26, List.size_toArray, List.length_cons, List.length_nil, Nat.reduceAdd, Nat.reduceSub, Array.replicate_succ, Array.replicate_zero, List.push_toArray, List.append_toArray, List.nil_append, List.cons_append]
  have HS := Lib.hid hs
  have HN := Lib.hid hn
  have HL := Lib.hid hl
  clear hs hn hl
  gi_wp2_with (refine ⟨trivial, ?_⟩; gi_at_call 57; refine (wordsS_in Fence.wide _ trivial rfl s _).mono ?_; rintro e w' ⟨rfl, rfl⟩)
  obtain ⟨B, hB⟩ : ∃ B, B = w.heap.size := ⟨_, rfl⟩
  obtain ⟨W0, hW0⟩ : ∃ W0, W0 = (w.alloc (.cells #[.int .u64 0] 43)).alloc (.cells #[.string s] 9) := ⟨_, rfl⟩
  have hz0 : W0.heap.size = B + 2 := by rw [hW0, hB]; simp
  have hbel0 : Below B w W0 := by rw [hW0, hB]; exact ((Below.refl _ w).alloc (Nat.le_refl _) _).alloc (by simp) _
  have hbx0 : Boxed W0 B 43 (.int .u64 0) := by rw [hW0, hB]; exact (Boxed.new w 43 _).alloc _
  have hbs : Boxed W0 (B + 1) 9 (.string s) := by rw [hW0, hB]; have := Boxed.new (w.alloc (.cells #[.int .u64 0] 43)) 9 (.string s); rw [World.size_alloc] at this; exact this
  rw [← hW0, ← hB]
  have HB := Lib.hid hB
  clear hW0 hB
  refine wpIn_rangeFunc_ownF (F := Fence.wide) rfl (by omega) (gf := 89) (lb := #[.pointer (some ⟨B + 1, 0, none⟩)]) rfl trivial (enters_of Tryd.func89 (by kernel_rfl) rfl)
    (wordsS_stops Fence.wide (3 - 1) trivial rfl (by omega) (B + 1) B s HS.out _ (by rw [hz0]; omega) hbs.cell) (fun h k => KpB.trans h k) (kpB_b (by rw [hz0]; omega) (by rw [hz0]; omega)) (Below.refl _ _) (fun _ => rfl)
    (fun pre W => Boxed W B 43 (.int .u64 (((pre.map (·.1)).foldl mixN 0 : Nat))) ∧ Below B w W)
    (fun _ _ _ => False)
    (OwnFrom.and (Own.from (boxed_own _ _ _) _) (ownFrom_below (by rw [HB.out]; exact Nat.le_refl _) (by rw [hz0]; omega)))
    (fun _ => (Own.from (fun _ _ _ _ hs _ _ => hs) _))
    ⟨hbx0, hbel0⟩
    (fun x => { tmps := #[.string s, .slice ad ns.length cp, undef, undef, .int .u64 0, .pointer (some ⟨B, 0, none⟩), .int .u64 (x.1 : Nat), undef, undef, .string s, .func (.func 89) #[] #[.pointer (some ⟨B + 1, 0, none⟩)], .int .u64 (x.1 : Nat), undef, undef, undef, undef, undef, undef, undef, undef, undef, undef, undef, undef, undef, undef, undef, undef, undef, undef, undef, undef, undef, undef, undef, undef, undef], defers := [] }) ?assign ?body ?done ?stop
  case assign =>
    intro l x W K hK
    gi_wp2
    exact hK
  case body =>
    /-DEV-/
    rintro l pre x W ⟨hbx, hbl⟩ _
    have hd : 1 ≤ 3 - 1 - 1 := by omega
    have hlt := foldl_mix_lt (pre.map (·.1)) 0 (by omega)
    obtain ⟨y, hy⟩ : ∃ y, y = (pre.map (·.1)).foldl mixN 0 := ⟨_, rfl⟩
    rw [← hy] at hbx hlt
    have hc := hbx.cell
    have hf := hbx.frozen
    have HY := Lib.hid hy
    have HLT := Lib.hid hlt
    clear hy hlt
    gi_wp2_with (refine ⟨trivial, ?_⟩; gi_at_call 58; refine (CallsIn.inRound l (mix_in _ _ trivial rfl _ _ _ HLT.out x.2)).mono ?_; rintro e w' ⟨rfl, rfl⟩)
    refine ⟨KeepsOthers.setCell _ _ _, ⟨(Below.refl B W).setCell (p := ⟨B, 0, none⟩) (Nat.le_refl _) _, World.cell?_setCell_other W _ _ _ (by simp)⟩, ?_, hbl.setCell (p := ⟨B, 0, none⟩) (Nat.le_refl _) _⟩
    rw [List.map_append, List.foldl_append, ← HY.out, List.map_cons, List.map_nil, List.foldl_cons, List.foldl_nil]
    exact hbx.set _
    /-VED-/
  case done =>
    rintro D xs W hD rfl ⟨hbx, hbl⟩ hK
    rw [wordsU_val] at hbx
    obtain ⟨y0, hy0⟩ : ∃ y0, y0 = (wordsN s.data.toList).foldl mixN 0 := ⟨_, rfl⟩
    have hy0l : y0 < 18446744073709551616 := by rw [hy0]; exact foldl_mix_lt _ 0 (by omega)
    rw [← hy0] at hbx
    have hsz : (s.size : Int) ≤ 4611686018427387904 := by have := HS.out; omega
    have hnl : (ns.length : Int) ≤ 4611686018427387904 := by have := HN.out; omega
    obtain ⟨n0, hn0⟩ : ∃ n0, n0 = ns.length := ⟨_, rfl⟩
    rw [← hn0] at hnl ⊢
    have hw1 : IntKind.u64.wrap (s.size : Int) = (s.size : Nat) := wraps_u64 _ (by omega) (by omega)
    have hw2 : IntKind.u64.wrap (n0 : Int) = (n0 : Nat) := wraps_u64 _ (by omega) (by omega)
    have hlt1 : s.size < 18446744073709551616 := by omega
    have hlt2 : n0 < 18446744073709551616 := by omega
    have hc := hbx.cell
    have hf := hbx.frozen
    have hB2 := hbl.setCell (p := ⟨B, 0, none⟩) (Nat.le_refl _) (.int .u64 (mixN (mixN y0 s.size) n0 : Nat))
    have hbx2 := hbx.set (.int .u64 (mixN (mixN y0 s.size) n0 : Nat))
    have hK2 : (W.setCell ⟨B, 0, none⟩ (.int .u64 (mixN (mixN y0 s.size) n0 : Nat))).heap[D]? = some (.deferred (some [])) := (KeepsOthers.setCell _ _ _).same D _ hK rfl
    have H0 := Lib.hid hy0
    have HN0 := Lib.hid hn0
    have HK2 := Lib.hid hK2
    have HL0 := Lib.hid hy0l
    have HL1 := Lib.hid hlt1
    have HL2 := Lib.hid hlt2
    clear hy0 hy0l hlt1 hlt2 hn0 hbx hK hK2
    gi_wp2_with (refine ⟨trivial, ?_⟩; ((with_reducible refine (callsIn_wide.2 (mix_spec _ _ _ (by first | exact HL0.out | exact mixN_lt _ _) (by first | exact HL1.out | exact HL2.out))).mono ?_); rintro e w' ⟨rfl, rfl⟩))
    generalize W.setCell ⟨B, 0, none⟩ (.int .u64 (mixN (mixN y0 s.size) n0 : Nat)) = W2 at *
    obtain ⟨y2, hy2⟩ : ∃ y2, y2 = mixN (mixN y0 s.size) n0 := ⟨_, rfl⟩
    have hy2l : y2 < 18446744073709551616 := by rw [hy2]; exact mixN_lt _ _
    rw [← hy2] at hbx2 ⊢
    have HY2 := Lib.hid hy2
    have HY2L := Lib.hid hy2l
    clear hy2 hy2l hw1 hw2 hc hf
    gi_loopw [26] (fun iv wr => ∃ k : Nat, k ≤ n0 ∧ iv = .int .i64 k ∧ Boxed wr B 43 (.int .u64 ((((ns.map u64N).take k).foldl mixN y2 : Nat))) ∧ Below B w wr ∧ wr.heap[D]? = some (.deferred (some []))) (fun iv _ => n0 - (intOf iv).toNat)
    case atStart => exact ⟨0, Nat.zero_le _, rfl, by simpa using hbx2, hB2, HK2.out⟩
    case round =>
      clear hbx2 hB2
      obtain ⟨k, hk, rfl, hbx, hbl2, hK⟩ := hrel
      obtain ⟨y, hy⟩ : ∃ y, y = ((ns.map u64N).take k).foldl mixN y2 := ⟨_, rfl⟩
      have hyl : y < 18446744073709551616 := by rw [hy]; exact foldl_mix_lt _ _ HY2L.out
      rw [← hy] at hbx
      have hc := hbx.cell
      have hf := hbx.frozen
      have HY := Lib.hid hy
      have HYL := Lib.hid hyl
      have HK := Lib.hid hK
      clear hy hyl hK
      by_cases hlt : k < n0
      · have hltn : k < ns.length := by rw [← HN0.out]; exact hlt
        obtain ⟨b, o, rfl, hbn, hcells⟩ := HL.out (fun e => by rw [e] at hltn; simp at hltn)
        have hck : wr.cell? ⟨b, o + k, none⟩ = some (.int .i64 ns[k]) := (hbl2.cell (p := ⟨b, o + k, none⟩) (by rw [HB.out]; exact hbn)).trans (hcells k hltn)
        obtain ⟨z, hz⟩ : ∃ z, z = ns[k] := ⟨_, rfl⟩
        rw [← hz] at hck
        have hwz := u64N_wrap z
        have hzl := u64N_lt z
        have HZ := Lib.hid hz
        have HZL := Lib.hid hzl
        have hltI : (k : Int) < n0 := by omega
        clear hz hcells hzl
        gi_wp2_with (refine ⟨trivial, ?_⟩; ((with_reducible refine (callsIn_wide.2 (mix_spec _ _ _ (by exact HYL.out) (by exact HZL.out))).mono ?_); rintro e w' ⟨rfl, rfl⟩))
        go_roundw
        case rel =>
          refine ⟨k + 1, by omega, by go_num, ?_, hbl2.setCell (p := ⟨B, 0, none⟩) (Nat.le_refl _) _, (KeepsOthers.setCell _ _ _).same D _ HK.out rfl⟩
          have e : (ns.map u64N).take (k + 1) = (ns.map u64N).take k ++ [u64N z] := by
            rw [List.take_succ_eq_append_getElem (by rw [List.length_map, ← HN0.out]; exact hlt), List.getElem_map, ← HZ.out]
          rw [e, List.foldl_append, ← HY.out, List.foldl_cons, List.foldl_nil]
          exact hbx.set _
        case measure => simp [intOf]; omega
      · obtain rfl : k = n0 := by omega
        gi_wp2_with (refine ⟨trivial, ?_⟩; ((with_reducible refine (callsIn_wide.2 (mix0_spec y _ (by exact HYL.out))).mono ?_); rintro e w' ⟨rfl, rfl⟩))
        refine ⟨by simp, .inl ⟨_, _, rfl, run_takeDeferred HK.out, ?_⟩⟩
        refine ⟨_, results_tmp rfl _ _ _, ?_, ?_⟩
        · refine ret_int ?_
          rw [sumN, sumU, List.length_map, ← H0.out, ← HN0.out, show s.data.toList.length = s.size by simp, ← HY2.out]
          rw [HY.out, List.take_of_length_le (by rw [List.length_map, ← HN0.out]; exact Nat.le_refl _)]
        · rw [← HB.out]
          exact hbl2.trans (belowK_b (w := w) (by rw [HB.out]; exact Nat.le_refl _) wr D _ _ (by have := HB.out; omega) HK.out rfl rfl)
  case stop =>
    rintro D c pre W _ _ h _
    exact h.elim
end Go.Proofs.YtcmjbjlliehdiaaDoor
/- Package hash: Bytes. -/
namespace Go.Proofs.YtcmjbjlliehdiaaDoor
open Go.RowKit PA
attribute [local go_sem] Oper.semAt_some
def wv (x : Nat) : Value := .int .i64 (wrap64 (x : Int))
theorem u64N_i64 (x : Nat) (h : x < 18446744073709551616) : u64N (wrap64 (x : Int)) = x := by
  unfold u64N wrap64
  omega
theorem intsAt_of_row {W : World} {base e : Nat} {ad : Option Addr} {n cap : Nat} {ns : List Int} (h : W.ownsRow base e 1 (.slice ad n cap) n (ns.map (Value.int .i64))) : IntsAt W.heap.size W ad ns := by
  intro hne
  obtain ⟨hl, h⟩ := h
  simp only [List.length_map, Nat.mul_one] at hl
  rcases h with ⟨_, h0⟩ | ⟨g, c, cur, he, hb, hg, h1, h2, h3, h4⟩
  · exact absurd (List.eq_nil_of_length_eq_zero (by omega)) hne
  · cases he
    refine ⟨g, 0, rfl, (Array.getElem?_eq_some_iff.1 hg).1, fun j hj => ?_⟩
    simp only [Nat.zero_add, Nat.mul_one] at *
    rw [cell_of_row W g j cur e (0, 0) hg]
    have : (cur.toList.take n)[j]? = (ns.map (Value.int .i64))[j]? := by rw [h4]
    rw [List.getElem?_take, if_pos (by omega), List.getElem?_map, List.getElem?_eq_getElem hj] at this
    simpa using this
theorem infoI : (Tryd.prog.info? 3).map (fun i => (i.zero, i.size, i.bytes)) = some (some (.int .i64 0), 1, 8) := by kernel_rfl
set_option maxRecDepth 100000 in
set_option maxHeartbeats 4000000 in
theorem hbytes_spec (s : ByteArray) (ad : Option Addr) (cp : Nat) (bs : List UInt8) (w : World) (hs : s.size ≤ 4611686018427387904) (hb : bs.length ≤ 140737488351240)
    (hcs : bs ≠ [] → ∃ b o, ad = some ⟨b, o, none⟩ ∧ b < w.heap.size ∧ ∀ j (h : j < bs.length), w.cell? ⟨b, o + j, none⟩ = some (.int .u8 (bs[j].toNat : Nat))) :
    Calls Tryd.prog 27 #[.string s, .slice ad bs.length cp] w fun e w' => e = .returned (.int .u64 (bytesN s.data.toList bs : Nat)) ∧ Below w.heap.size w w' := by
  obtain ⟨i0, hi, hz0, hz1, hz2⟩ := info_parts infoI
  refine (callsIn_wide (n := 3)).1 ?_
  refine callsIn_of_wp_marks Tryd.func27 rfl trivial ?_ rfl
  simp only [Tryd.ntmps27, List.size_toArray, List.length_cons, List.length_nil, Nat.reduceAdd, Nat.reduceSub, Array.replicate_succ, Array.replicate_zero, List.push_toArray, List.append_toArray, List.nil_append, List.cons_append]
  have HS := Lib.hid hs
  have HCS := Lib.hid hcs
  obtain ⟨n0, hn0⟩ : ∃ n0, n0 = bs.length := ⟨_, rfl⟩
  rw [← hn0] at hb ⊢
  have hbI : (n0 : Int) ≤ 140737488351240 := by omega
  have HN := Lib.hid hn0
  have HB0 := Lib.hid hb
  clear hs hcs hn0 hb
  gi_wp2_with (refine ⟨trivial, ?_⟩; gi_at_call 59; refine (words_in Fence.wide _ trivial rfl ad n0 cp _).mono ?_; rintro e w' ⟨rfl, rfl⟩)
  obtain ⟨B, hB⟩ : ∃ B, B = w.heap.size := ⟨_, rfl⟩
  obtain ⟨W0, hW0⟩ : ∃ W0, W0 = (w.alloc (.cells #[.slice none 0 0] 22)).alloc (.cells #[.slice ad n0 cp] 32) := ⟨_, rfl⟩
  have hz : W0.heap.size = B + 2 := by rw [hW0, hB]; simp
  have hbel0 : Below B w W0 := by rw [hW0, hB]; exact ((Below.refl _ w).alloc (Nat.le_refl _) _).alloc (by simp) _
  have hbx0 : Boxed W0 B 22 (.slice none 0 0) := by rw [hW0, hB]; exact (Boxed.new w 22 _).alloc _
  have hbs : Boxed W0 (B + 1) 32 (.slice ad n0 cp) := by rw [hW0, hB]; have := Boxed.new (w.alloc (.cells #[.slice none 0 0] 22)) 32 (.slice ad n0 cp); rw [World.size_alloc] at this; exact this
  rw [← hW0, ← hB]
  have HB := Lib.hid hB
  clear hW0 hB
  have hstops := words_stops Fence.wide (3 - 1) trivial rfl (by omega) (B + 1) B ad cp bs (by have := HN.out; have := HB0.out; omega) W0 (by rw [hz]; omega) (by rw [hz]; omega) (by rw [← HN.out]; exact hbs.cell) (fun hne => by
    obtain ⟨b, o, e, hbn, hcells⟩ := HCS.out hne
    exact ⟨b, o, e, by rw [HB.out]; exact hbn, fun j h => (hbel0.cell (p := ⟨b, o + j, none⟩) (by rw [HB.out]; exact hbn)).trans (hcells j h)⟩)
  rw [← HN.out] at hstops
  refine wpIn_rangeFunc_ownF (F := Fence.wide) rfl (by omega) (gf := 90) (lb := #[.pointer (some ⟨B + 1, 0, none⟩)]) rfl trivial (enters_of Tryd.func90 (by kernel_rfl) rfl)
    hstops (fun h k => KpB.trans h k) (kpB_b (by rw [hz]; omega) (by rw [hz]; omega)) (Below.refl _ _) (fun _ => rfl)
    (fun pre W => (∃ v, Boxed W B 22 v ∧ W.ownsRow B 3 1 v pre.length (pre.map fun x => wv x.1) ∧ (v = .slice none 0 0 ↔ pre = [])) ∧ Boxed W (B + 1) 32 (.slice ad n0 cp) ∧ Below B w W)
    (fun _ _ _ => False)
    (OwnFrom.and (Own.from (holdsRow_own B B 22 3 1 (fun pre : List U64 => pre.length) (fun pre => pre.map fun x => wv x.1) (fun pre v => v = .slice none 0 0 ↔ pre = [])) _) (OwnFrom.and (Own.from (boxed_own _ _ _) _) (ownFrom_below (by rw [HB.out]; exact Nat.le_refl _) (by rw [hz]; omega))))
    (fun _ => (Own.from (fun _ _ _ _ hs _ _ => hs) _))
    ⟨⟨_, hbx0, World.ownsRow_nil _ _ _ _, by simp⟩, hbs, hbel0⟩
    (fun x => { tmps := #[.string s, .slice ad n0 cp, undef, undef, .int .u64 0, .pointer (some ⟨B, 0, none⟩), .int .u64 (x.1 : Nat), .slice ad n0 cp, .func (.func 90) #[] #[.pointer (some ⟨B + 1, 0, none⟩)], .int .u64 (x.1 : Nat), undef, undef, undef, undef, undef, undef, undef, undef, undef, undef, undef, undef], defers := [] }) ?assign ?body ?done ?stop
  case assign =>
    intro l x W K hK
    gi_wp2
    exact hK
  case body =>
    rintro l pre x W ⟨⟨v, hv, hrow, hnil⟩, hbx1, hbl⟩ hlt
    have hc := hv.cell
    have hf := hv.frozen
    have hk : pre.length < 17592186043906 := by omega
    have HK := Lib.hid hk
    have HNIL := Lib.hid hnil
    clear hnil hlt hk hbs hbx0
    obtain ⟨z, hz⟩ : ∃ z : Int, wrap64 (x.1 : Int) = z := ⟨_, rfl⟩
    gi_wp2_with (gi_at_builtin; (refine wpListIn_append_own _ rfl _ _ 22 rfl B 3 i0 (.int .i64 0) 1 8 Tryd.underlying22 hi hz0 hz1 hz2 rfl (by decide) _ _ _ rfl (hrow.alloc _) ⟨W.heap.size, 0, none⟩ 1 1 [.int .i64 z] rfl rfl (cell_one_new _ _ _) (by simp [Value.oneCell']) (by have := HK.out; unfold maxLen; omega) (by have := HK.out; omega) (by have := hbl.size; simp; have := HB.out; omega) ?_); intro v' w1 hown' hgrow _; obtain ⟨g', cap', rfl⟩ := ownsRow_succ hown'; obtain ⟨hv1, hv2, hr2, hk2, hb2⟩ := hv.appended (by decide) hrow (by have := hbl.size; have := HB.out; omega) (Nat.le_refl _) hown' hgrow; have hc1 := hv1.cell; have hf1 := hv1.frozen)
    have e1 : (pre ++ [x]).map (fun x => wv x.1) = pre.map (fun x => wv x.1) ++ [.int .i64 z] := by
      rw [List.map_append, List.map_cons, List.map_nil, wv, hz]
    have hx2 := ((hbx1.alloc _).kept hgrow (hbx1.not_row (by decide) hrow)).other (B' := B) (by omega) (.slice (some ⟨g', 0, none⟩) (pre.length + 1) cap')
    exact ⟨hk2, ⟨hb2, hx2.cell.trans hbx1.cell.symm⟩, ⟨_, hv2, by rw [e1, List.length_append]; exact hr2, by simp⟩, hx2, hbl.trans hb2⟩
  case done =>
    rintro D xs W hD rfl ⟨⟨v, hv, hrow, hnil⟩, hbx1, hbl⟩ hK
    have hc := hv.cell
    obtain ⟨m, hm⟩ : ∃ m, m = (wordsU bs).length := ⟨_, rfl⟩
    have hmb : m ≤ 17592186043906 := by rw [hm, wordsU_length]; have := HN.out; have := HB0.out; omega
    rw [← hm] at hrow
    have HM := Lib.hid hm
    have HMB := Lib.hid hmb
    have HNIL := Lib.hid hnil
    have hBz : B < W.heap.size := hv.lt
    have HBZ := Lib.hid hBz
    clear hnil hbs hbx0 hm hmb hstops hBz
    gi_wp2_with (gi_at_builtin; (refine wpListIn_append_own _ rfl _ _ 22 rfl B 3 i0 (.int .i64 0) 1 8 Tryd.underlying22 hi hz0 hz1 hz2 rfl (by decide) _ _ _ rfl (hrow.alloc _) ⟨W.heap.size, 0, none⟩ 1 1 [.int .i64 (n0 : Int)] rfl rfl (cell_one_new _ _ _) (by simp [Value.oneCell']) (by have := HMB.out; unfold maxLen; omega) (by have := HMB.out; omega) (by have := HBZ.out; simp; omega) ?_); (intro v' w1 hown' hgrow _; obtain ⟨g', cap', rfl⟩ := ownsRow_succ hown'; obtain ⟨hv1, hv2, hr2, hk2, hb2⟩ := hv.appended (by decide) hrow (by have := HBZ.out; omega) (Nat.le_refl _) hown' hgrow; clear hv2 hr2 hk2 hb2))
    obtain ⟨ns, hns⟩ : ∃ ns : List Int, ns = (wordsN bs).map (fun x : Nat => wrap64 (x : Int)) ++ [(n0 : Int)] := ⟨_, rfl⟩
    have hnl : ns.length = m + 1 := by rw [hns, List.length_append, List.length_map, wordsN_length, HM.out, wordsU_length]; rfl
    have hrow2 : w1.ownsRow B 3 1 (.slice (some ⟨g', 0, none⟩) (m + 1) cap') (m + 1) (ns.map (Value.int .i64)) := by
      have e : ns.map (Value.int .i64) = (wordsU bs).map (fun x => wv x.1) ++ [.int .i64 (n0 : Int)] := by
        rw [hns, List.map_append, ← wordsU_val, List.map_map, List.map_map]; rfl
      rw [e]; exact hown'
    have hgrow2 : (W.alloc (.cells #[.int .i64 (n0 : Int)] 3)).grownBy w1 v.ownBlock := hgrow
    have hkp : KeepsOthers W w1 := (KeepsOthers.alloc W _).trans (KeepsOthers.of_grownBy hgrow2 fun j o ej hj => by
      rcases (hrow.alloc (.cells #[.int .i64 (n0 : Int)] 3)).2 with ⟨rfl, _⟩ | ⟨g, cap, cur, rfl, _, hgb, _⟩
      · simp [Value.ownBlock] at ej
      · obtain rfl : g = j := by simpa [Value.ownBlock] using ej
        rw [hgb] at hj; cases hj; rfl)
    have hK1 : w1.heap[D]? = some (.deferred (some [])) := hkp.same D _ hK rfl
    have hbl1 : Below B W w1 := by
      refine (((Below.refl B W).alloc (by have := HBZ.out; omega) _).grown hgrow2 (by have := HBZ.out; simp; omega) fun j ej => ?_)
      rcases hrow.2 with ⟨rfl, _⟩ | ⟨g, cap, cur, rfl, hb, _, _⟩
      · simp [Value.ownBlock] at ej
      · obtain rfl : g = j := by simpa [Value.ownBlock] using ej
        exact hb
    have hsum := sum_spec s (some ⟨g', 0, none⟩) cap' ns w1 HS.out (by have := HMB.out; omega) (intsAt_of_row hrow2)
    rw [hnl] at hsum
    refine ⟨trivial, (callsIn_wide.2 hsum).mono ?_⟩
    rintro e w2 ⟨rfl, hb2⟩
    have hD1 : D < w1.heap.size := (Array.getElem?_eq_some_iff.1 hK1).1
    have hK2 : w2.heap[D]? = some (.deferred (some [])) := (hb2.block D hD1).trans hK1
    have hblf : Below B w w2 := (hbl.trans hbl1).trans (hb2.mono (by have := hbl1.size; have := HBZ.out; omega))
    have hsv : sumN s.data.toList ns = bytesN s.data.toList bs := by rw [hns, HN.out]; exact sum_bytes _ _ (by have := HN.out; have := HB0.out; omega)
    rw [hsv]
    obtain ⟨r, hr⟩ : ∃ r, r = bytesN s.data.toList bs := ⟨_, rfl⟩
    rw [← hr]
    have HR := Lib.hid hr
    clear hsum hsv hrow2 hns hnl hown' hgrow hgrow2 hrow hv hc hv1 hb2 hkp hK1 hbl1 hK hbl hbx1 hD1 hbI hr
    gi_wp2
    refine ⟨by simp, .inl ⟨_, _, rfl, run_takeDeferred hK2, ?_⟩⟩
    refine ⟨_, results_tmp rfl _ _ _, by rw [← HR.out]; rfl, ?_⟩
    rw [← HB.out]
    exact hblf.trans (belowK_b (w := w) (by rw [HB.out]; exact Nat.le_refl _) w2 D _ _ (by have := HB.out; omega) hK2 rfl rfl)
  case stop =>
    rintro D c pre W _ _ h _
    exact h.elim
end Go.Proofs.YtcmjbjlliehdiaaDoor
