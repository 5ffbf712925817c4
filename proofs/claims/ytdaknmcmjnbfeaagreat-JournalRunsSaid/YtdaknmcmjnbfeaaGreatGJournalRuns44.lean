/- 'append' onto an owned row whose old slice is read again. Plain Lean, no program in sight. -/
import Derived.Test.YtdaknmcmjnbfeaaGreatKn
import Derived.Test.YtdaknmcmjnbfeaaGreatGJournalRunsSJ8
namespace PA
open Go Go.RowKit
section
variable {P : Program} {W w : World} {A : Assn}
theorem run_append_keep (t ty E k by_ : Nat) (i : TypeInfo) (z : Value) (ht : P.underlying t = some (.slice E)) (hi : P.info? E = some i) (hz : i.zero = some z)
    (hk : i.size = k) (hb : i.bytes = by_) (hzs : z.cells.size = k) {a : Option Addr} {n c : Nat} {xs : List Value} (h : Sat W w (sep (osl E k a n c xs) A))
    (x : Option Addr) (m cc : Nat) (news : List Value) (hl : news.length = m * k) (hx0 : x = none → m = 0) (hx : ∀ b, x = some b → ∀ j u, news[j]? = some u → w.cell? (b.add j) = some u)
    (h1 : ∀ u ∈ news, u.oneCell' = true) (h63 : n + m ≤ maxLen) (hby : (n + m) * by_ ≤ 140737488355328) :
    ∃ a' c' w', (Builtin.append_ #[t, t] ty #[.slice a n c, .slice x m cc]).run P w = .ok (.slice a' (n + m) c') w' ∧
      ((a' = a ∧ c' = c ∧ Sat W w' (sep (osl E k a (n + m) c (xs ++ news)) A)) ∨ Sat W w' (sep (osl E k a' (n + m) c' (xs ++ news)) (sep (osl E k a n c xs) A))) := by
  subst hk
  subst hb
  have hsmall : n + m ≤ 9223372036854775807 := by simp only [maxLen] at h63; omega
  by_cases hm : m = 0
  · subst hm
    have hnews : news = [] := List.eq_nil_of_length_eq_zero (by simpa using hl)
    subst hnews
    have hnc := h.osl_len.2.1
    refine ⟨a, c, w, ?_, .inl ⟨rfl, rfl, by simpa using h⟩⟩
    cases x <;> cases a <;> simp [Builtin.append_, run_underlying ht, Go.sizeOf, typeInfo, hi, Builtin.lenOf, hnc, Builtin.firstCells, loadCells, loadCellsFrom, storeCells]
  · obtain ⟨b, rfl⟩ : ∃ b, x = some b := by
      cases x with
      | none => exact absurd (hx0 rfl) hm
      | some b => exact ⟨b, rfl⟩
    have hsrc := hx b rfl
    have fits : ∀ old, old < n + m → Builtin.nextslicecap (n + m) old * i.bytes ≤ 281474976710656 := fun old ho => growslice_fits ho hby
    rcases h.osl_cases with ⟨rfl, rfl, rfl, rfl, h0⟩ | ⟨g, cur, rfl, hlen, hnc, hcm, hcs, htake, hS⟩
    · have hrun := run_append_nil (P := P) w t ty E i z ht hi hz b m cc news hl hsrc (by omega) (by omega) (by have := fits 0 (by omega); rw [Nat.zero_add, nextslicecap_zero (by omega)] at this; exact this)
      have hcap := grownCap_ok w m 0 E (by omega)
      refine ⟨_, _, _, by rw [Nat.zero_add]; exact hrun, .inr ?_⟩
      refine (((h0.osl_nil E i.size).drew.alloc _).osl_mk (0 + m) _ i.size ([] ++ news) (by simpa using hl) (by omega) hcap.2 ?_ ?_)
      · simp only [Array.size_append, List.size_toArray, size_zeroCells', hzs, hl]
        rw [← Nat.add_mul]; congr 1; omega
      · simp [← hl]
    · by_cases hroom : n + m ≤ c
      · have hfit : n * i.size + news.length ≤ cur.size := by rw [hl, hcs, ← Nat.add_mul]; exact Nat.mul_le_mul_right _ hroom
        have hrun := run_append_room (P := P) w t ty E i ht hi g n c cur hS.blk_heap b m cc news hl hsrc h1 hroom hfit
        refine ⟨_, _, _, hrun, .inl ⟨rfl, rfl, (hS.setRow _).osl_mk (n + m) c i.size (xs ++ news) (by rw [List.length_append, hlen, hl, Nat.add_mul]) hroom hcm ?_ ?_⟩⟩
        · have : n * i.size ≤ cur.size := by omega
          simp only [List.size_toArray, List.length_append, List.length_take, List.length_drop, Array.length_toList]
          rw [← hcs]; omega
        · rw [htake, List.take_append_of_le_length (by rw [List.length_append, hlen, hl, Nat.add_mul]; omega), List.take_of_length_le (by rw [List.length_append, hlen, hl, Nat.add_mul]; omega)]
      · have hrun := run_append_grow (P := P) w t ty E i z ht hi hz ⟨g, 0, none⟩ n c xs hlen (fun j u hu => by
            obtain ⟨g', e, hc⟩ := h.osl_at (fun e => by rw [e] at hu; simp at hu)
            cases e
            have := hc j u hu
            unfold Addr.add
            split
            · rename_i e; subst e; exact this
            · simpa using this) b m cc news hl hsrc (by omega) (by omega) (fits c (by omega))
        have hcap := grownCap_ok w (n + m) c E h63
        refine ⟨_, _, _, hrun, .inr (((h.drew).alloc _).osl_mk (n + m) _ i.size (xs ++ news) (by rw [List.length_append, hlen, hl, Nat.add_mul]) hcap.1 hcap.2 ?_ ?_)⟩
        · simp only [Array.size_append, List.size_toArray, size_zeroCells', hzs, hl, hlen]
          rw [← Nat.add_mul, ← Nat.add_mul]; congr 1; omega
        · have : xs.length + news.length = (n + m) * i.size := by rw [hlen, hl, Nat.add_mul]
          rw [← this, ← List.length_append]; simp only [Array.toList_append, List.append_toArray, List.take_left]
/-- The same for bytes: the new slice and the old one are both known afterwards. -/
theorem wpl_append_keep {ops : Array Oper} {rest : List Oper} {o : Oper} {ac : Act} {Q : Exit → Act → World → Prop} (hgd : o.guard = none) (s y : Operand) (t : TypeId)
    (ho : o.op = .call { callee := .builtin .append, args := #[s, y], argTypes := #[t, t] })
    (E : Nat) (ht : P.underlying t = some (.slice E)) (hi : (P.info? E).map (fun i => (i.zero, i.size, i.bytes)) = some (some (.int .u8 0), 1, 1))
    {a : Option Addr} {n c : Nat} {bs : List UInt8} (hs : ac.eval s = .slice a n c) (h : Sat W w (sep (osl E 1 a n c (bs.map bv)) A))
    {x : Option Addr} {m cc : Nat} (hy : ac.eval y = .slice x m cc) (news : List UInt8) (hl : news.length = m) (hx0 : x = none → m = 0) (hx : ∀ b, x = some b → ∀ j u, (news.map bv)[j]? = some u → w.cell? (b.add j) = some u)
    (h63 : n + m ≤ 140737488355328)
    (hK : ∀ a' c' w', Sat W w' (sep (rBytes.is [.slice a' (n + m) c'] (bs ++ news)) (sep (rBytes.is [.slice a n c] bs) A)) → wpList P ops Q rest (ac.put o.dst (.slice a' (n + m) c')) w') : wpList P ops Q (o :: rest) ac w := by
  obtain ⟨i, hi1, hi2, hi3, hi4⟩ := info_parts hi
  have hone : ∀ u ∈ news.map bv, u.oneCell' = true := bv_one news
  obtain ⟨a', c', w', hr, hS⟩ := run_append_keep t o.type E 1 1 i (.int .u8 0) ht hi1 hi2 hi3 hi4 rfl h x m cc (news.map bv) (by simp [hl]) hx0 hx hone (by unfold maxLen; omega) (by omega)
  refine wpList_plain hgd fun _ hk => wp_of_run (exec_append s y t t ho (by rw [hs, hy]; exact hr)) (hk _ _ (hK _ _ _ ?_))
  have hlen := h.bytes_of_osl.1
  have e : bs.map bv ++ news.map bv = (bs ++ news).map bv := by simp
  rw [e] at hS
  rcases hS with ⟨rfl, rfl, hS⟩ | hS
  · obtain ⟨h1, h2⟩ := hS.bytes_of_osl
    have hd := h2.dup
    have hsw := h.swf_of_osl
    refine Sat.p1 (hd.wk ?_)
    rintro I mm ⟨x1, y1, d1, e1, ⟨rfl, r1⟩, hA⟩
    refine ⟨Mem.no, y1, d1, e1, ⟨rfl, ?_⟩, hA⟩
    obtain ⟨a2, c2, cells, q1, q2, q3, q4⟩ := r1
    simp only [List.cons.injEq, Value.slice.injEq, and_true] at q1
    obtain ⟨rfl, -, rfl⟩ := q1
    rw [(rows_rByte _ _ _).1 q4] at q3
    refine ⟨a', c', bs.map bv, by rw [hlen], by rw [← hlen]; exact hsw, ?_, (rows_rByte _ _ _).2 rfl⟩
    rcases q3 with q3 | ⟨b', o', cs, t', f, e1, e2, e3⟩
    · left
      have : bs ++ news = [] := by simpa using q3
      simp at this; rw [this.1]; rfl
    · right
      refine ⟨b', o', cs, t', f, e1, e2, fun j u hu => e3 j u ?_⟩
      rw [List.map_append]
      have hj := (List.getElem?_eq_some_iff.1 hu).1
      rw [List.getElem?_append_left hj]
      exact hu
  · exact (hS.bytes_of_osl.2.p1.bytes_of_osl.2).p1
end
end PA
/- lives of the journal's section. -/
namespace Go.Proofs.YtdaknmcmjnbfeaaGreat
open Go.RowKit PA
theorem frameJ_ge4 (n : Int) (b : List UInt8) : 4 ≤ (frameJ n b).length := by
  have h1 : 1 ≤ (encI n).length := Lib.uvarint_pos _
  have h2 : 1 ≤ (Lib.uvarint b.length).length := Lib.uvarint_pos _
  have h3 : 1 ≤ (Lib.uvarint (coreJ n b).length).length := Lib.uvarint_pos _
  have h4 : 1 ≤ (Lib.uvarint (bytesN frameL (coreJ n b))).length := Lib.uvarint_pos _
  have h5 : (coreJ n b).length = (encI n).length + ((Lib.uvarint b.length).length + b.length) := by rw [coreJ, encR]; simp only [List.length_append]
  rw [frameJ, encR]
  simp only [List.length_append]
  omega
theorem scanJ_short (i : Nat) (l : List UInt8) (h : l.length < 4) : scanJ i l = ([], 0) := by
  refine scanJ_no ?_
  rintro ⟨-, e⟩
  have := congrArg List.length e
  have h4 := frameJ_ge4 i (recJ l)
  rw [List.length_take] at this
  omega
theorem core7 : coreJ 0 [7] = [0, 1, 7] := by
  have e : Lib.zigzag 0 = 0 := by decide
  rw [coreJ, encI, encR, e, Lib.uvarint_small (by omega), List.length_singleton, Lib.uvarint_small (by omega)]
  rfl
theorem frame7 : frameJ 0 [7] = encR [0, 1, 7] ++ Lib.uvarint (bytesN frameL [0, 1, 7]) := by rw [frameJ, core7]
theorem frame7_len : 4 < (frameJ 0 [7]).length := by
  have h4 : 1 ≤ (Lib.uvarint (bytesN frameL [0, 1, 7])).length := Lib.uvarint_pos _
  rw [frame7, encR, List.length_append, List.length_append, Lib.uvarint_small (by simp)]
  simp only [List.length_cons, List.length_nil]
  omega
theorem scan7 : scanJ 0 (frameJ 0 [7] ++ [3, 0, 1]) = ([[7]], (frameJ 0 [7]).length) := by
  have hl := frameJ_le 0 [7] (by omega) (by omega) (by simp)
  have h := scanJ_yes (i := 0) (x := [7]) (t := [3, 0, 1]) (by omega) (by have : (frameJ 0 [7]).length ≤ [7].length + 40 := hl; show (frameJ 0 [7]).length < _; simp at this; omega)
  have e : frameJ ((0 : Nat) : Int) [7] = frameJ 0 [7] := rfl
  rw [e] at h
  rw [h, scanJ_short _ _ (by simp)]
  rfl
theorem rel_src {I : Mem} {w : World} {a : Option Addr} {n c : Nat} {l : List UInt8} (h : rBytes.rel I [.slice a n c] l) (he : Ext I w) :
    l.length = n ∧ (a = none → n = 0) ∧ ∀ b, a = some b → ∀ j u, (l.map bv)[j]? = some u → w.cell? (b.add j) = some u := by
  obtain ⟨a', c', e, hw, hc⟩ := bytes_rel.1 h
  simp only [Value.slice.injEq] at e
  obtain ⟨rfl, rfl, rfl⟩ := e
  exact ⟨rfl, fun ha => by have := hw.2.2 ha; have := hw.1; omega, src_ext hc he⟩
theorem one_row {W w : World} {A : Assn} (v : Value) (x : List UInt8) (t : TypeId) :
    Sat W w (sep (rBytes.is [v] x) A) → Sat W (w.alloc (.cells #[v] t)) (sep ((rBytes.slice 1).is [.slice (some ⟨w.heap.size, 0, none⟩) 1 1] [x]) A) := fun hx => by
  have h1 := (hx.alloc (.cells #[v] t)).settle
  refine h1.wk ?_
  rintro I m ⟨x1, y1, d1, e1, ⟨rfl, r1⟩, x2, y2, d2, e2, ⟨rfl, r2⟩, hA⟩
  refine ⟨Mem.no, y2, fun _ => .inl rfl, by rw [e1, e2, Mem.un_no, Mem.un_no], ⟨rfl, ?_⟩, hA⟩
  exact ⟨some ⟨w.heap.size, 0, none⟩, 1, [v], rfl, ⟨Nat.le_refl _, by decide, fun h => (by cases h)⟩, .inr ⟨w.heap.size, 0, _, t, (0, 0), rfl, r1, fun i u hu => by simpa using hu⟩, ⟨[[v]], rfl, ⟨r2, rfl⟩, trivial⟩⟩
theorem lits_bytes {W w : World} {A : Assn} {I : Mem} (h : Sat W w (sep (kn I) A)) (bs : List UInt8) (t : TypeId) (hb : bs.length ≤ maxLen) :
    ∃ J, Mem.le I J ∧ rBytes.rel J [.slice (some ⟨w.heap.size, 0, none⟩) bs.length bs.length] bs ∧ Sat W (w.alloc (.cells (bs.map bv).toArray t)) (sep (kn J) A) := by
  obtain ⟨J, h1, h2, h3⟩ := (h.bytes_of_alloc bs t (0, 0) hb).learn
  exact ⟨J, h1, h2, h3⟩
set_option maxRecDepth 100000 in
set_option maxHeartbeats 4000000 in
theorem lives30_spec {W w : World} {A : Assn} {I : Mem} (h : Sat W w (sep (kn I) A)) :
    Calls Tryz.prog 21 #[] w fun e w' => e = .returned (.bool true) ∧ Sat W w' (sep (kn I) A) := by
  obtain ⟨I1, hI1, hb1, h1⟩ := lits_bytes h [7] 5 (by decide)
  obtain ⟨q0, hq0⟩ : ∃ q0, q0 = w.heap.size := ⟨_, rfl⟩
  obtain ⟨w1, hw1⟩ : ∃ w1, w1 = w.alloc (.cells ([(7 : UInt8)].map bv).toArray 5) := ⟨_, rfl⟩
  rw [← hq0] at hb1
  rw [← hw1] at h1
  have HQ0 := Lib.hid hq0
  have HW1 := Lib.hid hw1
  have HI1 := Lib.hid hI1
  have HB1 := Lib.hid hb1
  clear h hq0 hw1 hI1 hb1
  go_enter Tryz.func21, Tryz.ntmps21
  go_wp2_with fail
  rw [← HQ0.out]
  have e7 : w.alloc (.cells #[.int .u8 7] 5) = w1 := HW1.out.symm
  rw [e7]
  clear e7
  refine (jframe_spec 0 _ [7] h1 HB1.out ⟨by omega, by omega⟩ (by simp)).mono ?_
  rintro e w2 ⟨fa, fc, rfl, h2⟩
  obtain ⟨fr, hfr⟩ : ∃ fr, fr = frameJ 0 [7] := ⟨_, rfl⟩
  rw [← hfr] at h2 ⊢
  have hf4 : 4 < fr.length := by rw [hfr]; exact frame7_len
  have hf100 : fr.length ≤ 100 := by rw [hfr]; have := frameJ_le 0 [7] (by omega) (by omega) (by simp); simp at this; omega
  obtain ⟨fl, hfl⟩ : ∃ fl, fl = fr.length := ⟨_, rfl⟩
  rw [← hfl] at h2 hf4 hf100 ⊢
  have HFR := Lib.hid hfr
  have HFL := Lib.hid hfl
  have hwr := newWr h2
  obtain ⟨p1, hp1⟩ : ∃ p1, p1 = w2.heap.size := ⟨_, rfl⟩
  obtain ⟨w3, hw3⟩ : ∃ w3, w3 = w2.alloc (.cells #[.slice none 0 0] 75) := ⟨_, rfl⟩
  rw [← hp1, ← hw3] at hwr
  have HP1 := Lib.hid hp1
  have HW3 := Lib.hid hw3
  clear h1 h2 hfr hfl hp1 hw3 HB1
  go_upto_region 3 with (fail)
  rw [← HW3.out, ← HP1.out]
  have hwr2 : Sat W w3 (sep (kn I1) (sep (isWr p1 []) (sep (osl 5 1 fa fl fc (fr.map bv)) A))) := by simpa only [sep_comm, sep_lcomm, sep_assoc] using hwr
  obtain ⟨I2, hI2, hb2, h3⟩ := lits_bytes hwr2 [0, 1, 7] 5 (by decide)
  have HB2 := Lib.hid hb2
  have HI2 := Lib.hid hI2
  clear hwr hwr2 hb2 hI2
  go_wp2_with fail
  refine (wraw_spec p1 [] _ [0, 1, 7] h3.p1 HB2.out (by simp) (by simp)).mono ?_
  rintro e w4 ⟨rfl, h4⟩
  rw [List.nil_append] at h4
  obtain ⟨I3, hI3, hb3, h5⟩ := lits_bytes h4.p1 [0, 1, 7] 5 (by decide)
  have HB3 := Lib.hid hb3
  have HI3 := Lib.hid hI3
  clear h3 HB2 h4 hb3 hI3
  go_wp2_with fail
  refine (hbytes_any ⟨#[102, 114, 97, 109, 101]⟩ _ [0, 1, 7] h5 HB3.out (by decide) (by simp)).mono ?_
  rintro e w5 ⟨rfl, h6⟩
  obtain ⟨hs, hhs⟩ : ∃ hs, hs = bytesN frameL [0, 1, 7] := ⟨_, rfl⟩
  have hhs2 : bytesN (ByteArray.mk #[102, 114, 97, 109, 101]).data.toList [0, 1, 7] = hs := by rw [hhs]; rfl
  rw [hhs2]
  have hhl : hs < 18446744073709551616 := by rw [hhs]; exact bytesN_lt _ _
  have HHL := Lib.hid hhl
  have HHS := Lib.hid hhs
  have hel := encR_length [0, 1, 7] (by simp)
  simp only [List.length_cons, List.length_nil] at hel
  clear h5 HB3 hhs hhs2 hhl
  go_wp2_with fail
  refine (wuint_spec p1 (encR [0, 1, 7]) hs HHL.out h6.p1 (by omega)).mono ?_
  rintro e w6 ⟨rfl, h7⟩
  have hrb : encR [0, 1, 7] ++ Lib.uvarint hs = fr := by rw [HFR.out, frame7, HHS.out]
  rw [hrb] at h7
  clear h6 hrb
  have h8 : Sat W w6 (sep (kn I3) (sep (isWr p1 fr) (sep (osl 5 1 fa fl fc (fr.map bv)) A))) := by simpa only [sep_comm, sep_lcomm, sep_assoc] using h7
  obtain ⟨I4, hI4, hb4, h9⟩ := lits_bytes h8 [3, 0, 1] 5 (by decide)
  have hsrc := rel_src hb4 h9.ext
  have HS := Lib.hid hsrc.2.2
  have HI4 := Lib.hid hI4
  clear h7 h8 hb4 hI4 hsrc
  go_wp2_with (at_builtin; refine wpl_append_keep rfl (.tmp 16) (.tmp 17) 39 rfl 5 Tryz.underlying39 infoU8w rfl h9.p2 rfl [3, 0, 1] rfl (by simp) HS.out (by omega) ?_)
  intro a9 c9 w9 h10
  obtain ⟨I5, hI5, hb5, h11⟩ := (show Sat W w9 (sep (rBytes.is [.slice a9 (fl + 3) c9] (fr ++ [3, 0, 1])) (sep (kn I4) (sep (rBytes.is [.slice fa fl fc] fr) (sep (isWr p1 fr) A)))) by simpa only [sep_comm, sep_lcomm, sep_assoc] using h10).learn
  have HB5 := Lib.hid hb5
  have HI5 := Lib.hid hI5
  have h12 : Sat W w9 (sep (kn I5) (sep (rBytes.is [.slice fa fl fc] fr) (sep (isWr p1 fr) A))) := h11
  clear h9 HS h10 h11 hb5 hI5
  go_wp2_with fail
  refine (scan_spec _ (fr ++ [3, 0, 1]) h12 HB5.out (by rw [List.length_append, ← HFL.out]; simp; omega)).mono ?_
  rintro e w10 ⟨u, rfl, h13⟩
  rw [HFR.out, scan7, ← HFR.out] at h13
  have e2 : (scanJ 0 (fr ++ [3, 0, 1])).2 = fl := by rw [HFR.out, scan7, ← HFR.out, HFL.out]
  rw [e2]
  dsimp only at h13
  clear h12 HB5 e2
  go_wp2_with fail
  refine (wdone_spec p1 fr (by have := h13.p3; exact this) (by rw [← HFL.out]; omega)).mono ?_
  rintro e w11 ⟨da, dc, rfl, h14⟩
  rw [← HFL.out] at h14 ⊢
  have h15 : Sat W w11 (sep (rBytes.is [.slice fa fl fc] fr) (sep (rBytes.is [.slice da fl dc] fr) (sep ((rBytes.slice 1).is [u] [[7]]) (sep (kn I5) (sep (isWr p1 fr) A))))) := by
    have := h14.bytes_of_osl.2
    simpa only [sep_comm, sep_lcomm, sep_assoc] using this
  clear h13 h14
  go_wp2_with fail
  refine (sameBytes_spec _ _ _ _ h15).mono ?_
  rintro e w12 ⟨rfl, h16⟩
  rw [decide_eq_true (rfl : fr = fr)]
  have h17 := h16.drop.drop
  have g4 : (4 : Int) < (fl : Int) := by omega
  have h18 := one_row _ [7] 39 (h17.bytes_of_alloc [7] 5 (0, 0) (by decide))
  rw [World.size_alloc] at h18
  clear h15 h16
  go_wp2_with fail
  refine (sameLists_spec u _ [[7]] h18.p1).mono ?_
  rintro e w13 ⟨rfl, h19⟩
  clear h17 h18
  go_wp2_with fail
  go_ret
  refine ⟨rfl, ?_⟩
  exact (h19.kn_mono (Mem.le_trans HI1.out (Mem.le_trans HI2.out (Mem.le_trans HI3.out (Mem.le_trans HI4.out HI5.out))))).p1.drop
end Go.Proofs.YtdaknmcmjnbfeaaGreat
