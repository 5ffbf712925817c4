/- Package hash: Bytes. -/
import Derived.Maps.AppendAt
import Derived.Test.YtcmjbjlliehdiaaDoorGAuthmapChecks6
import Derived.Test.YtcmjbjlliehdiaaDoorGAuthmapChecksSVal
import Derived.Lib.ConvBytes
namespace Go.Proofs.YtcmjbjlliehdiaaDoor
open Go.RowKit PA
attribute [local go_sem] Oper.semAt_some
def wv (x : Nat) : Value := .int .i64 (wrap64 (x : Int))
theorem u64N_i64 (x : Nat) (h : x < 18446744073709551616) : u64N (wrap64 (x : Int)) = x := by
  unfold u64N wrap64
  omega
theorem intsAt_of_row {W : World} {base e : Nat} {ad : Option Addr} {n cap : Nat} {ns : List Int} (h : W.ownsRow base e 1 (.slice ad n cap) n (ns.map (Value.int .i64))) : IntsAt W.heap.size W ad ns := by
  intro hne
  obtain ⟨hl, h⟩ := h
  simp only [List.length_map, Nat.mul_one] at hl
  rcases h with ⟨_, h0⟩ | ⟨g, c, cur, he, hb, hg, h1, h2, h3, h4⟩
  · exact absurd (List.eq_nil_of_length_eq_zero (by omega)) hne
  · cases he
    refine ⟨g, 0, rfl, (Array.getElem?_eq_some_iff.1 hg).1, fun j hj => ?_⟩
    simp only [Nat.zero_add, Nat.mul_one] at *
    rw [cell_of_row W g j cur e (0, 0) hg]
    have : (cur.toList.take n)[j]? = (ns.map (Value.int .i64))[j]? := by rw [h4]
    rw [List.getElem?_take, if_pos (by omega), List.getElem?_map, List.getElem?_eq_getElem hj] at this
    simpa using this
theorem infoI : (Tryd.prog.info? 3).map (fun i => (i.zero, i.size, i.bytes)) = some (some (.int .i64 0), 1, 8) := by kernel_rfl
set_option maxRecDepth 100000 in
set_option maxHeartbeats 4000000 in
theorem hbytes_spec (s : ByteArray) (ad : Option Addr) (cp : Nat) (bs : List UInt8) (w : World) (hs : s.size ≤ 4611686018427387904) (hb : bs.length ≤ 140737488351240)
    (hcs : bs ≠ [] → ∃ b o, ad = some ⟨b, o, none⟩ ∧ b < w.heap.size ∧ ∀ j (h : j < bs.length), w.cell? ⟨b, o + j, none⟩ = some (.int .u8 (bs[j].toNat : Nat))) :
    Calls Tryd.prog 27 #[.string s, .slice ad bs.length cp] w fun e w' => e = .returned (.int .u64 (bytesN s.data.toList bs : Nat)) ∧ Below w.heap.size w w' := by
  obtain ⟨i0, hi, hz0, hz1, hz2⟩ := info_parts infoI
  refine (callsIn_wide (n := 3)).1 ?_
  refine callsIn_of_wp_marks Tryd.func27 rfl trivial ?_ rfl
  simp only [Tryd.ntmps27, List.size_toArray, List.length_cons, List.length_nil, Nat.reduceAdd, Nat.reduceSub, Array.replicate_succ, Array.replicate_zero, List.push_toArray, List.append_toArray, List.nil_append, List.cons_append]
  have HS := Lib.hid hs
  have HCS := Lib.hid hcs
  obtain ⟨n0, hn0⟩ : ∃ n0, n0 = bs.length := ⟨_, rfl⟩
  rw [← hn0] at hb ⊢
  have hbI : (n0 : Int) ≤ 140737488351240 := by omega
  have HN := Lib.hid hn0
  have HB0 := Lib.hid hb
  clear hs hcs hn0 hb
  gi_wp2_with (refine ⟨trivial, ?_⟩; gi_at_call 59; refine (words_in Fence.wide _ trivial rfl ad n0 cp _).mono ?_; rintro e w' ⟨rfl, rfl⟩)
  obtain ⟨B, hB⟩ : ∃ B, B = w.heap.size := ⟨_, rfl⟩
  obtain ⟨W0, hW0⟩ : ∃ W0, W0 = (w.alloc (.cells #[.slice none 0 0] 22)).alloc (.cells #[.slice ad n0 cp] 32) := ⟨_, rfl⟩
  have hz : W0.heap.size = B + 2 := by rw [hW0, hB]; simp
  have hbel0 : Below B w W0 := by rw [hW0, hB]; exact ((Below.refl _ w).alloc (Nat.le_refl _) _).alloc (by simp) _
  have hbx0 : Boxed W0 B 22 (.slice none 0 0) := by rw [hW0, hB]; exact (Boxed.new w 22 _).alloc _
  have hbs : Boxed W0 (B + 1) 32 (.slice ad n0 cp) := by rw [hW0, hB]; have := Boxed.new (w.alloc (.cells #[.slice none 0 0] 22)) 32 (.slice ad n0 cp); rw [World.size_alloc] at this; exact this
  rw [← hW0, ← hB]
  have HB := Lib.hid hB
  clear hW0 hB
  have hstops := words_stops Fence.wide (3 - 1) trivial rfl (by omega) (B + 1) B ad cp bs (by have := HN.out; have := HB0.out; omega) W0 (by rw [hz]; omega) (by rw [hz]; omega) (by rw [← HN.out]; exact hbs.cell) (fun hne => by
    obtain ⟨b, o, e, hbn, hcells⟩ := HCS.out hne
    exact ⟨b, o, e, by rw [HB.out]; exact hbn, fun j h => (hbel0.cell (p := ⟨b, o + j, none⟩) (by rw [HB.out]; exact hbn)).trans (hcells j h)⟩)
  rw [← HN.out] at hstops
  refine wpIn_rangeFunc_ownF (F := Fence.wide) rfl (by omega) (gf := 90) (lb := #[.pointer (some ⟨B + 1, 0, none⟩)]) rfl trivial (enters_of Tryd.func90 (by kernel_rfl) rfl)
    hstops (fun h k => KpB.trans h k) (kpB_b (by rw [hz]; omega) (by rw [hz]; omega)) (Below.refl _ _) (fun _ => rfl)
    (fun pre W => (∃ v, Boxed W B 22 v ∧ W.ownsRow B 3 1 v pre.length (pre.map fun x => wv x.1) ∧ (v = .slice none 0 0 ↔ pre = [])) ∧ Boxed W (B + 1) 32 (.slice ad n0 cp) ∧ Below B w W)
    (fun _ _ _ => False)
    (OwnFrom.and (Own.from (holdsRow_own B B 22 3 1 (fun pre : List U64 => pre.length) (fun pre => pre.map fun x => wv x.1) (fun pre v => v = .slice none 0 0 ↔ pre = [])) _) (OwnFrom.and (Own.from (boxed_own _ _ _) _) (ownFrom_below (by rw [HB.out]; exact Nat.le_refl _) (by rw [hz]; omega))))
    (fun _ => (Own.from (fun _ _ _ _ hs _ _ => hs) _))
    ⟨⟨_, hbx0, World.ownsRow_nil _ _ _ _, by simp⟩, hbs, hbel0⟩
    (fun x => { tmps := #[.string s, .slice ad n0 cp, undef, undef, .int .u64 0, .pointer (some ⟨B, 0, none⟩), .int .u64 (x.1 : Nat), .slice ad n0 cp, .func (.func 90) #[] #[.pointer (some ⟨B + 1, 0, none⟩)], .int .u64 (x.1 : Nat), undef, undef, undef, undef, undef, undef, undef, undef, undef, undef, undef, undef], defers := [] }) ?assign ?body ?done ?stop
  case assign =>
    intro l x W K hK
    gi_wp2
    exact hK
  case body =>
    rintro l pre x W ⟨⟨v, hv, hrow, hnil⟩, hbx1, hbl⟩ hlt
    have hc := hv.cell
    have hf := hv.frozen
    have hk : pre.length < 17592186043906 := by omega
    have HK := Lib.hid hk
    have HNIL := Lib.hid hnil
    clear hnil hlt hk hbs hbx0
    obtain ⟨z, hz⟩ : ∃ z : Int, wrap64 (x.1 : Int) = z := ⟨_, rfl⟩
    gi_wp2_with (gi_at_builtin; (refine wpListIn_append_own _ rfl _ _ 22 rfl B 3 i0 (.int .i64 0) 1 8 Tryd.underlying22 hi hz0 hz1 hz2 rfl (by decide) _ _ _ rfl (hrow.alloc _) ⟨W.heap.size, 0, none⟩ 1 1 [.int .i64 z] rfl rfl (cell_one_new _ _ _) (by simp [Value.oneCell']) (by have := HK.out; unfold maxLen; omega) (by have := HK.out; omega) (by have := hbl.size; simp; have := HB.out; omega) ?_); intro v' w1 hown' hgrow _; obtain ⟨g', cap', rfl⟩ := ownsRow_succ hown'; obtain ⟨hv1, hv2, hr2, hk2, hb2⟩ := hv.appended (by decide) hrow (by have := hbl.size; have := HB.out; omega) (Nat.le_refl _) hown' hgrow; have hc1 := hv1.cell; have hf1 := hv1.frozen)
    have e1 : (pre ++ [x]).map (fun x => wv x.1) = pre.map (fun x => wv x.1) ++ [.int .i64 z] := by
      rw [List.map_append, List.map_cons, List.map_nil, wv, hz]
    have hx2 := ((hbx1.alloc _).kept hgrow (hbx1.not_row (by decide) hrow)).other (B' := B) (by omega) (.slice (some ⟨g', 0, none⟩) (pre.length + 1) cap')
    exact ⟨hk2, ⟨hb2, hx2.cell.trans hbx1.cell.symm⟩, ⟨_, hv2, by rw [e1, List.length_append]; exact hr2, by simp⟩, hx2, hbl.trans hb2⟩
  case done =>
    rintro D xs W hD rfl ⟨⟨v, hv, hrow, hnil⟩, hbx1, hbl⟩ hK
    have hc := hv.cell
    obtain ⟨m, hm⟩ : ∃ m, m = (wordsU bs).length := ⟨_, rfl⟩
    have hmb : m ≤ 17592186043906 := by rw [hm, wordsU_length]; have := HN.out; have := HB0.out; omega
    rw [← hm] at hrow
    have HM := Lib.hid hm
    have HMB := Lib.hid hmb
    have HNIL := Lib.hid hnil
    have hBz : B < W.heap.size := hv.lt
    have HBZ := Lib.hid hBz
    clear hnil hbs hbx0 hm hmb hstops hBz
    gi_wp2_with (gi_at_builtin; (refine wpListIn_append_own _ rfl _ _ 22 rfl B 3 i0 (.int .i64 0) 1 8 Tryd.underlying22 hi hz0 hz1 hz2 rfl (by decide) _ _ _ rfl (hrow.alloc _) ⟨W.heap.size, 0, none⟩ 1 1 [.int .i64 (n0 : Int)] rfl rfl (cell_one_new _ _ _) (by simp [Value.oneCell']) (by have := HMB.out; unfold maxLen; omega) (by have := HMB.out; omega) (by have := HBZ.out; simp; omega) ?_); (intro v' w1 hown' hgrow _; obtain ⟨g', cap', rfl⟩ := ownsRow_succ hown'; obtain ⟨hv1, hv2, hr2, hk2, hb2⟩ := hv.appended (by decide) hrow (by have := HBZ.out; omega) (Nat.le_refl _) hown' hgrow; clear hv2 hr2 hk2 hb2))
    obtain ⟨ns, hns⟩ : ∃ ns : List Int, ns = (wordsN bs).map (fun x : Nat => wrap64 (x : Int)) ++ [(n0 : Int)] := ⟨_, rfl⟩
    have hnl : ns.length = m + 1 := by rw [hns, List.length_append, List.length_map, wordsN_length, HM.out, wordsU_length]; rfl
    have hrow2 : w1.ownsRow B 3 1 (.slice (some ⟨g', 0, none⟩) (m + 1) cap') (m + 1) (ns.map (Value.int .i64)) := by
      have e : ns.map (Value.int .i64) = (wordsU bs).map (fun x => wv x.1) ++ [.int .i64 (n0 : Int)] := by
        rw [hns, List.map_append, ← wordsU_val, List.map_map, List.map_map]; rfl
      rw [e]; exact hown'
    have hgrow2 : (W.alloc (.cells #[.int .i64 (n0 : Int)] 3)).grownBy w1 v.ownBlock := hgrow
    have hkp : KeepsOthers W w1 := (KeepsOthers.alloc W _).trans (KeepsOthers.of_grownBy hgrow2 fun j o ej hj => by
      rcases (hrow.alloc (.cells #[.int .i64 (n0 : Int)] 3)).2 with ⟨rfl, _⟩ | ⟨g, cap, cur, rfl, _, hgb, _⟩
      · simp [Value.ownBlock] at ej
      · obtain rfl : g = j := by simpa [Value.ownBlock] using ej
        rw [hgb] at hj; cases hj; rfl)
    have hK1 : w1.heap[D]? = some (.deferred (some [])) := hkp.same D _ hK rfl
    have hbl1 : Below B W w1 := by
      refine (((Below.refl B W).alloc (by have := HBZ.out; omega) _).grown hgrow2 (by have := HBZ.out; simp; omega) fun j ej => ?_)
      rcases hrow.2 with ⟨rfl, _⟩ | ⟨g, cap, cur, rfl, hb, _, _⟩
      · simp [Value.ownBlock] at ej
      · obtain rfl : g = j := by simpa [Value.ownBlock] using ej
        exact hb
    have hsum := sum_spec s (some ⟨g', 0, none⟩) cap' ns w1 HS.out (by have := HMB.out; omega) (intsAt_of_row hrow2)
    rw [hnl] at hsum
    refine ⟨trivial, (callsIn_wide.2 hsum).mono ?_⟩
    rintro e w2 ⟨rfl, hb2⟩
    have hD1 : D < w1.heap.size := (Array.getElem?_eq_some_iff.1 hK1).1
    have hK2 : w2.heap[D]? = some (.deferred (some [])) := (hb2.block D hD1).trans hK1
    have hblf : Below B w w2 := (hbl.trans hbl1).trans (hb2.mono (by have := hbl1.size; have := HBZ.out; omega))
    have hsv : sumN s.data.toList ns = bytesN s.data.toList bs := by rw [hns, HN.out]; exact sum_bytes _ _ (by have := HN.out; have := HB0.out; omega)
    rw [hsv]
    obtain ⟨r, hr⟩ : ∃ r, r = bytesN s.data.toList bs := ⟨_, rfl⟩
    rw [← hr]
    have HR := Lib.hid hr
    clear hsum hsv hrow2 hns hnl hown' hgrow hgrow2 hrow hv hc hv1 hb2 hkp hK1 hbl1 hK hbl hbx1 hD1 hbI hr
    gi_wp2
    refine ⟨by simp, .inl ⟨_, _, rfl, run_takeDeferred hK2, ?_⟩⟩
    refine ⟨_, results_tmp rfl _ _ _, by rw [← HR.out]; rfl, ?_⟩
    rw [← HB.out]
    exact hblf.trans (belowK_b (w := w) (by rw [HB.out]; exact Nat.le_refl _) w2 D _ _ (by have := HB.out; omega) hK2 rfl rfl)
  case stop =>
    rintro D c pre W _ _ h _
    exact h.elim
end Go.Proofs.YtcmjbjlliehdiaaDoor
/- Facts on blocks that no longer change, kept beside the assertion. Plain Lean, no program in sight. -/
namespace PA
open Go Go.RowKit
/-- What no longer changes in I stands. -/
def kn (I : Mem) : Assn := pers (Mem.le I) fun _ _ hl h b o hb => hl _ _ (h b o hb)
def Ext (I : Mem) (w : World) : Prop := ∀ b o, I b = some o → w.heap[b]? = some o
section
variable {W w w' : World} {A : Assn} {I J : Mem}
theorem Sat.ext (h : Sat W w (sep (kn I) A)) : Ext I w := h.pers_heap
theorem Sat.know (h : Sat W w A) : ∃ I, Sat W w (sep (kn I) A) := by
  obtain ⟨h1, h2, h3, I, m, h4, h5, h6, h7⟩ := h
  exact ⟨I, h1, h2, h3, I, m, h4, h5, h6, Mem.no, m, fun _ => .inl rfl, (Mem.un_no _).symm, ⟨rfl, Mem.le_refl I⟩, h7⟩
theorem Sat.learn {p : Mem → Prop} {hp : ∀ I J, Mem.le I J → p I → p J} (h : Sat W w (sep (pers p hp) (sep (kn I) A))) : ∃ J, Mem.le I J ∧ p J ∧ Sat W w (sep (kn J) A) := by
  obtain ⟨h1, h2, h3, J, m, h4, h5, h6, x, y, h7, rfl, ⟨rfl, hp'⟩, x', y', h8, rfl, ⟨rfl, hle⟩, h9⟩ := h
  refine ⟨J, hle, hp', h1, h2, h3, J, _, h4, h5, h6, Mem.no, y', fun _ => .inl rfl, ?_, ⟨rfl, Mem.le_refl J⟩, h9⟩
  rw [Mem.un_no]
theorem Sat.tell {p : Mem → Prop} {hp : ∀ I J, Mem.le I J → p I → p J} (h : Sat W w (sep (kn I) A)) (hI : p I) : Sat W w (sep (pers p hp) (sep (kn I) A)) := by
  refine h.wk ?_
  rintro K m ⟨x, y, h7, rfl, ⟨rfl, hle⟩, h9⟩
  exact ⟨Mem.no, _, fun _ => .inl rfl, (Mem.un_no _).symm, ⟨rfl, hp _ _ hle hI⟩, Mem.no, y, fun _ => .inl rfl, rfl, ⟨rfl, hle⟩, h9⟩
theorem Sat.kn_mono (h : Sat W w (sep (kn J) A)) (hle : Mem.le I J) : Sat W w (sep (kn I) A) := by
  refine h.wk ?_
  rintro K m ⟨x, y, h7, rfl, ⟨rfl, hle'⟩, h9⟩
  exact ⟨Mem.no, y, fun _ => .inl rfl, rfl, ⟨rfl, fun b o hb => hle' _ _ (hle _ _ hb)⟩, h9⟩
theorem Mem.le_trans {I J K : Mem} (h : Mem.le I J) (k : Mem.le J K) : Mem.le I K := fun b o hb => k _ _ (h _ _ hb)
theorem Sat.of_below (h : Sat W w A) (hb : Below w.heap.size w w') : Sat W w' A := by
  obtain ⟨h1, h2, h3, I, m, h4, h5, h6, h7⟩ := h
  obtain ⟨b1, b2, b3, b4, b5⟩ := hb
  have keep : ∀ b o, w.heap[b]? = some o → w'.heap[b]? = some o := fun b o ho => (b5 b (Array.getElem?_eq_some_iff.1 ho).1).trans ho
  exact ⟨b1.trans h1, b2.trans h2, b3.trans h3, I, m, h4, fun b o ho => keep _ _ (h5 b o ho), fun b o ho => ⟨keep _ _ (h6 b o ho).1, (h6 b o ho).2⟩, h7⟩
theorem cells_ext {a : Option Addr} {xs : List Value} (h : cellsAt a xs I) (hne : xs ≠ []) : ∃ b o, a = some ⟨b, o, none⟩ ∧ ∀ w', Ext I w' → ∀ i u, xs[i]? = some u → w'.cell? ⟨b, o + i, none⟩ = some u := by
  rcases h with h | ⟨b, o, cs, t, f, h1, h2, h3⟩
  · exact absurd h hne
  · exact ⟨b, o, h1, fun w' he i u hu => by rw [cell_of_row w' b (o + i) cs t f (he _ _ h2)]; exact h3 i u hu⟩
theorem cells_lt {a : Option Addr} {xs : List Value} (h : cellsAt a xs I) (he : Ext I w) (hne : xs ≠ []) : ∃ b o, a = some ⟨b, o, none⟩ ∧ b < w.heap.size := by
  rcases h with h | ⟨b, o, cs, t, f, h1, h2, h3⟩
  · exact absurd h hne
  · exact ⟨b, o, h1, (Array.getElem?_eq_some_iff.1 (he _ _ h2)).1⟩
theorem cellsAt_mono {a : Option Addr} {xs : List Value} (hl : Mem.le I J) (h : cellsAt a xs I) : cellsAt a xs J := by
  rcases h with h | ⟨b, o, cs, t, f, h1, h2, h3⟩
  · exact .inl h
  · exact .inr ⟨b, o, cs, t, f, h1, hl _ _ h2, h3⟩
theorem bytes_rel {v : Value} {bs : List UInt8} : rBytes.rel I [v] bs ↔ ∃ a c, v = .slice a bs.length c ∧ Swf a bs.length c ∧ cellsAt a (bs.map bv) I := by
  constructor
  · rintro ⟨a, c, cells, h1, h2, h3, h4⟩
    cases h1
    rw [(rows_rByte _ _ _).1 h4] at h3
    exact ⟨a, c, rfl, h2, h3⟩
  · rintro ⟨a, c, rfl, h2, h3⟩
    exact ⟨a, c, _, rfl, h2, h3, (rows_rByte _ _ _).2 rfl⟩
/-- Bytes that are known, as a byte slice's cells. -/
theorem bytes_cells {a : Option Addr} {bs : List UInt8} (h : cellsAt a (bs.map bv) I) (hne : bs ≠ []) : ∃ b o, a = some ⟨b, o, none⟩ ∧ ∀ w', Ext I w' → ∀ i (hi : i < bs.length), w'.cell? ⟨b, o + i, none⟩ = some (.int .u8 (bs[i].toNat : Nat)) := by
  obtain ⟨b, o, e, hc⟩ := cells_ext h (by simpa using hne)
  exact ⟨b, o, e, fun w' he i hi => hc w' he i _ (by rw [List.getElem?_map, List.getElem?_eq_getElem hi]; rfl)⟩
end
theorem new_src (w : World) (cs : List Value) (t : TypeId) : ∀ j u, cs[j]? = some u → (w.alloc (.cells cs.toArray t)).cell? ((⟨w.heap.size, 0, none⟩ : Addr).add j) = some u := by
  intro j u h
  have : (⟨w.heap.size, 0, none⟩ : Addr).add j = ⟨w.heap.size, j, none⟩ := by unfold Addr.add; split <;> simp_all
  rw [this, World.cell?_alloc_new]
  simpa using h
theorem new_src2 (w : World) (o : Obj) (cs : List Value) (t : TypeId) : ∀ j u, cs[j]? = some u → ((w.alloc o).alloc (.cells cs.toArray t)).cell? ((⟨w.heap.size + 1, 0, none⟩ : Addr).add j) = some u := by
  have := new_src (w.alloc o) cs t
  rw [World.size_alloc] at this
  exact this
theorem old_src {w : World} {b : Addr} {xs : List Value} (h : ∀ j u, xs[j]? = some u → w.cell? (b.add j) = some u) (o : Obj) : ∀ j u, xs[j]? = some u → (w.alloc o).cell? (b.add j) = some u := by
  intro j u hu
  have := h j u hu
  rw [World.cell?_alloc_lt w o _ (World.block_lt_of_cell? w _ this)]
  exact this
theorem bv_one (bs : List UInt8) : ∀ u ∈ bs.map bv, u.oneCell' = true := by
  intro u hu
  obtain ⟨b, _, rfl⟩ := List.mem_map.1 hu
  rfl
/-- '[]byte(s)'. -/
theorem Sat.conv_bytes {W w : World} {A : Assn} {I : Mem} (h : Sat W w (sep (kn I) A)) (e : TypeId) (s : ByteArray) (hs : s.size ≤ maxLen) :
    ∃ J, Mem.le I J ∧ rBytes.rel J [.slice (some ⟨w.heap.size, 0, none⟩) s.size (grownCap w s.size 0 e)] s.data.toList ∧ Sat W (Lib.bytesWorld w e s) (sep (kn J) A) := by
  have hlen : s.data.toList.length = s.size := by simp
  have h1 : Sat W (Lib.bytesWorld w e s) (sep (blk w.heap.size _) (sep (kn I) A)) :=
    h.grow rfl rfl rfl (Lib.bytesWorld_at_new w e s) (Nat.le_refl _) fun k hk => Lib.bytesWorld_at_old w e s k hk
  obtain ⟨J, hle, hp, hS⟩ := h1.settle.learn
  have hcap := grownCap_ok w s.size 0 e hs
  refine ⟨J, hle, ?_, hS⟩
  refine bytes_rel.2 ⟨some ⟨w.heap.size, 0, none⟩, grownCap w s.size 0 e, by rw [hlen], ⟨by rw [hlen]; exact hcap.1, hcap.2, fun h => (by cases h)⟩, .inr ⟨w.heap.size, 0, _, _, _, rfl, hp, fun i u hu => ?_⟩⟩
  have hi : i < s.data.size := by
    have := (List.getElem?_eq_some_iff.1 hu).1
    simpa using this
  simp only [Nat.zero_add, Lib.bytesCells]
  rw [Array.getElem?_append_left (by simpa using hi), Array.getElem?_map]
  rw [List.getElem?_map, Array.getElem?_toList] at hu
  exact hu
/-- Cells that are known, as an append's source. -/
theorem src_ext {I : Mem} {w : World} {a : Option Addr} {xs : List Value} (h : cellsAt a xs I) (he : Ext I w) : ∀ b, a = some b → ∀ j u, xs[j]? = some u → w.cell? (b.add j) = some u := by
  intro b hb j u hu
  obtain ⟨b', o, e, hc⟩ := cells_ext h (fun e => by rw [e] at hu; simp at hu)
  rw [hb] at e; cases e
  have := hc w he j u hu
  unfold Addr.add
  split
  · rename_i e; subst e; simpa using this
  · exact this
end PA
