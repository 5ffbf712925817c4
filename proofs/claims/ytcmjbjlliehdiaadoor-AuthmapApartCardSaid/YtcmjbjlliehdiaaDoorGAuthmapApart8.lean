/- The reference's hash of bytes. -/
import Derived.Test.YtcmjbjlliehdiaaDoorGAuthmapApart7
import Derived.Test.YtcmjbjlliehdiaaDoorGAuthmapApart5
import Derived.Deep.DeepCutAuto
import Derived.Deep.CutBlock
import Derived.Laws.StructEq
import Derived.WideKeyRuns
namespace Go.Proofs.YtcmjbjlliehdiaaDoor
open Go.RowKit PA
set_option maxRecDepth 100000 in
set_option maxHeartbeats 2000000 in
theorem rhbytes_spec {W w : World} {A : Assn} {I : Mem} (s : ByteArray) (v : Value) (bs : List UInt8) (h : Sat W w (sep (kn I) A)) (hv : rBytes.rel I [v] bs) (hs : s.size ≤ 1073741824) (hb : bs.length ≤ 140737488351240) :
    Calls Tryd.prog 97 #[.string s, v] w fun e w' => e = .returned (.int .u64 (bytesN s.data.toList bs : Nat)) ∧ Sat W w' (sep (kn I) A) := by
  obtain ⟨ad, cp, rfl, _, _⟩ := bytes_rel.1 hv
  have HV := Lib.hid hv
  have HS := Lib.hid hs
  have HB := Lib.hid hb
  obtain ⟨n0, hn0⟩ : ∃ n0, n0 = bs.length := ⟨_, rfl⟩
  rw [← hn0] at HV ⊢
  have HN := Lib.hid hn0
  clear hv hs hb hn0
  go_enter Tryd.func97, Tryd.ntmps97
  go_wp2_with fail
  refine (rwords_spec _ bs h HV.out HB.out).mono ?_
  rintro e w2 ⟨a, c, rfl, hS2⟩
  obtain ⟨m, hm⟩ : ∃ m, m = (wordsN bs).length := ⟨_, rfl⟩
  have hmI : (m : Int) ≤ 17592186043906 := by rw [hm, wordsN_length]; have := HB.out; omega
  rw [← hm] at hS2 ⊢
  obtain ⟨K, hle, hK, hS3⟩ := hS2.osl_settle.learn
  have HK := Lib.hid hK
  have HM := Lib.hid hm
  have HLE := Lib.hid hle
  clear h hS2 hK hm hle
  go_wp2_with fail
  go_loopw [6, 7] (fun lv kv wr => ∃ k : Nat, k ≤ m ∧ kv = .int .i64 k ∧ ∃ a2 c2, lv = .slice a2 k c2 ∧ Sat W wr (sep (osl 3 1 a2 k c2 (((wordsN bs).map fun x : Nat => iv (wrap64 (x : Int))).take k)) (sep (kn K) A))) (fun _ kv _ => m - (intOf kv).toNat)
  case atStart => exact ⟨0, Nat.zero_le _, rfl, none, 0, rfl, hS3.osl_nil _ _⟩
  case round =>
    clear hS3
    obtain ⟨k, hk, rfl, a2, c2, rfl, hS⟩ := hrel
    by_cases hkm : k < m
    · have hkw : k < (wordsN bs).length := by rw [← HM.out]; exact hkm
      obtain ⟨b, o, rfl, hcc⟩ := cells_ext HK.out (fun e => by have := congrArg List.length e; simp at this; rw [this] at hkw; simp at hkw)
      obtain ⟨x, hx⟩ : ∃ x, x = (wordsN bs)[k] := ⟨_, rfl⟩
      have hc := hcc _ hS.p1.ext k (uv x) (by rw [List.getElem?_map, List.getElem?_eq_getElem hkw, hx]; rfl)
      unfold uv at hc
      obtain ⟨z, hz⟩ : ∃ z, wrap64 (x : Int) = z := ⟨_, rfl⟩
      have HX := Lib.hid hx
      have hkI : (k : Int) < m := by omega
      have hkb : k ≤ 17592186043906 := by omega
      have HKB := Lib.hid hkb
      have hB := hS.alloc0 (.cells #[.int .i64 z] 3)
      clear hx hcc hkb hS
      go_wp2_with (at_builtin; (refine wpl_append_osl rfl (.tmp 16) (.tmp 22) 22 rfl 3 1 8 (.int .i64 0) Tryd.underlying22 infoI rfl rfl hB rfl [.int .i64 z] rfl (by simp) (by intro b hb; cases hb; exact new_src _ [_] _) (by simp [Value.oneCell']) (by have := HKB.out; omega) (by have := HKB.out; unfold maxLen; omega) ?_))
      intro a3 c3 w3 hS4
      go_wp2_with fail
      go_roundw
      case rel =>
        refine ⟨k + 1, by omega, by go_num, a3, c3, rfl, ?_⟩
        have e1 : ((wordsN bs).map (fun x : Nat => iv (wrap64 (x : Int)))).take (k + 1) = ((wordsN bs).map (fun x : Nat => iv (wrap64 (x : Int)))).take k ++ [.int .i64 z] := by
          rw [List.take_succ_eq_append_getElem (by rw [List.length_map]; exact hkw), List.getElem_map, ← HX.out, hz]; rfl
        rw [e1]; exact hS4
      case measure => simp [intOf]; omega
    · obtain rfl : k = m := by omega
      have hkI : ¬ (k : Int) < k := by omega
      have hkb : k ≤ 17592186043906 := by omega
      have HKB := Lib.hid hkb
      have hB := hS.alloc0 (.cells #[.int .i64 (n0 : Int)] 3)
      clear hkb hS
      go_wp2_with (at_builtin; (refine wpl_append_osl rfl (.tmp 25) (.tmp 28) 22 rfl 3 1 8 (.int .i64 0) Tryd.underlying22 infoI rfl rfl hB rfl [.int .i64 (n0 : Int)] rfl (by simp) (by intro b hb; cases hb; exact new_src _ [_] _) (by simp [Value.oneCell']) (by have := HKB.out; omega) (by have := HKB.out; unfold maxLen; omega) ?_))
      intro a3 c3 w3 hS4
      obtain ⟨ns, hns⟩ : ∃ ns : List Int, ns = (wordsN bs).map (fun x : Nat => wrap64 (x : Int)) ++ [(n0 : Int)] := ⟨_, rfl⟩
      have hnl : ns.length = k + 1 := by rw [hns, List.length_append, List.length_map, HM.out]; rfl
      have e1 : ((wordsN bs).map (fun x : Nat => iv (wrap64 (x : Int)))).take k ++ [.int .i64 (n0 : Int)] = ns.map iv := by
        rw [hns, HM.out, List.take_of_length_le (by rw [List.length_map]; exact Nat.le_refl _), List.map_append, List.map_map]; rfl
      rw [e1] at hS4
      obtain ⟨L, hle2, hL, hS5⟩ := hS4.osl_settle.learn
      have hsv : sumN s.data.toList ns = bytesN s.data.toList bs := by rw [hns, HN.out]; exact sum_bytes _ _ HB.out
      have hsum := rsum_spec s a3 c3 ns hS5 HS.out (by have := HKB.out; omega) hL
      rw [hnl, hsv] at hsum
      obtain ⟨r, hr⟩ : ∃ r, r = bytesN s.data.toList bs := ⟨_, rfl⟩
      rw [← hr] at hsum
      have HR := Lib.hid hr
      clear hr
      have HSUM := Lib.hid hsum
      have hle3 := Lib.hid (Mem.le_trans HLE.out hle2)
      clear hsum hsv hns hnl e1 hS4 hS5 hL hB hle2
      go_wp2_with fail
      refine HSUM.out.mono ?_
      rintro e w4 ⟨rfl, hS6⟩
      go_wp2_with fail
      go_ret
      exact ⟨by rw [← HR.out]; rfl, hS6.kn_mono hle3.out⟩
end Go.Proofs.YtcmjbjlliehdiaaDoor
/- 'append' onto an owned row whose old slice is read again. Plain Lean, no program in sight. -/
namespace PA
open Go Go.RowKit
section
variable {P : Program} {W w : World} {A : Assn}
theorem run_append_keep (t ty E k by_ : Nat) (i : TypeInfo) (z : Value) (ht : P.underlying t = some (.slice E)) (hi : P.info? E = some i) (hz : i.zero = some z)
    (hk : i.size = k) (hb : i.bytes = by_) (hzs : z.cells.size = k) {a : Option Addr} {n c : Nat} {xs : List Value} (h : Sat W w (sep (osl E k a n c xs) A))
    (x : Option Addr) (m cc : Nat) (news : List Value) (hl : news.length = m * k) (hx0 : x = none → m = 0) (hx : ∀ b, x = some b → ∀ j u, news[j]? = some u → w.cell? (b.add j) = some u)
    (h1 : ∀ u ∈ news, u.oneCell' = true) (h63 : n + m ≤ maxLen) (hby : (n + m) * by_ ≤ 140737488355328) :
    ∃ a' c' w', (Builtin.append_ #[t, t] ty #[.slice a n c, .slice x m cc]).run P w = .ok (.slice a' (n + m) c') w' ∧
      ((a' = a ∧ c' = c ∧ Sat W w' (sep (osl E k a (n + m) c (xs ++ news)) A)) ∨ Sat W w' (sep (osl E k a' (n + m) c' (xs ++ news)) (sep (osl E k a n c xs) A))) := by
  subst hk
  subst hb
  have hsmall : n + m ≤ 9223372036854775807 := by simp only [maxLen] at h63; omega
  by_cases hm : m = 0
  · subst hm
    have hnews : news = [] := List.eq_nil_of_length_eq_zero (by simpa using hl)
    subst hnews
    have hnc := h.osl_len.2.1
    refine ⟨a, c, w, ?_, .inl ⟨rfl, rfl, by simpa using h⟩⟩
    cases x <;> cases a <;> simp [Builtin.append_, run_underlying ht, Go.sizeOf, typeInfo, hi, Builtin.lenOf, hnc, Builtin.firstCells, loadCells, loadCellsFrom, storeCells]
  · obtain ⟨b, rfl⟩ : ∃ b, x = some b := by
      cases x with
      | none => exact absurd (hx0 rfl) hm
      | some b => exact ⟨b, rfl⟩
    have hsrc := hx b rfl
    have fits : ∀ old, old < n + m → Builtin.nextslicecap (n + m) old * i.bytes ≤ 281474976710656 := fun old ho => growslice_fits ho hby
    rcases h.osl_cases with ⟨rfl, rfl, rfl, rfl, h0⟩ | ⟨g, cur, rfl, hlen, hnc, hcm, hcs, htake, hS⟩
    · have hrun := run_append_nil (P := P) w t ty E i z ht hi hz b m cc news hl hsrc (by omega) (by omega) (by have := fits 0 (by omega); rw [Nat.zero_add, nextslicecap_zero (by omega)] at this; exact this)
      have hcap := grownCap_ok w m 0 E (by omega)
      refine ⟨_, _, _, by rw [Nat.zero_add]; exact hrun, .inr ?_⟩
      refine (((h0.osl_nil E i.size).drew.alloc _).osl_mk (0 + m) _ i.size ([] ++ news) (by simpa using hl) (by omega) hcap.2 ?_ ?_)
      · simp only [Array.size_append, List.size_toArray, size_zeroCells', hzs, hl]
        rw [← Nat.add_mul]; congr 1; omega
      · simp [← hl]
    · by_cases hroom : n + m ≤ c
      · have hfit : n * i.size + news.length ≤ cur.size := by rw [hl, hcs, ← Nat.add_mul]; exact Nat.mul_le_mul_right _ hroom
        have hrun := run_append_room (P := P) w t ty E i ht hi g n c cur hS.blk_heap b m cc news hl hsrc h1 hroom hfit
        refine ⟨_, _, _, hrun, .inl ⟨rfl, rfl, (hS.setRow _).osl_mk (n + m) c i.size (xs ++ news) (by rw [List.length_append, hlen, hl, Nat.add_mul]) hroom hcm ?_ ?_⟩⟩
        · have : n * i.size ≤ cur.size := by omega
          simp only [List.size_toArray, List.length_append, List.length_take, List.length_drop, Array.length_toList]
          rw [← hcs]; omega
        · rw [htake, List.take_append_of_le_length (by rw [List.length_append, hlen, hl, Nat.add_mul]; omega), List.take_of_length_le (by rw [List.length_append, hlen, hl, Nat.add_mul]; omega)]
      · have hrun := run_append_grow (P := P) w t ty E i z ht hi hz ⟨g, 0, none⟩ n c xs hlen (fun j u hu => by
            obtain ⟨g', e, hc⟩ := h.osl_at (fun e => by rw [e] at hu; simp at hu)
            cases e
            have := hc j u hu
            unfold Addr.add
            split
            · rename_i e; subst e; exact this
            · simpa using this) b m cc news hl hsrc (by omega) (by omega) (fits c (by omega))
        have hcap := grownCap_ok w (n + m) c E h63
        refine ⟨_, _, _, hrun, .inr (((h.drew).alloc _).osl_mk (n + m) _ i.size (xs ++ news) (by rw [List.length_append, hlen, hl, Nat.add_mul]) hcap.1 hcap.2 ?_ ?_)⟩
        · simp only [Array.size_append, List.size_toArray, size_zeroCells', hzs, hl, hlen]
          rw [← Nat.add_mul, ← Nat.add_mul]; congr 1; omega
        · have : xs.length + news.length = (n + m) * i.size := by rw [hlen, hl, Nat.add_mul]
          rw [← this, ← List.length_append]; simp only [Array.toList_append, List.append_toArray, List.take_left]
/-- The same for bytes: the new slice and the old one are both known afterwards. -/
theorem wpl_append_keep {ops : Array Oper} {rest : List Oper} {o : Oper} {ac : Act} {Q : Exit → Act → World → Prop} (hgd : o.guard = none) (s y : Operand) (t : TypeId)
    (ho : o.op = .call { callee := .builtin .append, args := #[s, y], argTypes := #[t, t] })
    (E : Nat) (ht : P.underlying t = some (.slice E)) (hi : (P.info? E).map (fun i => (i.zero, i.size, i.bytes)) = some (some (.int .u8 0), 1, 1))
    {a : Option Addr} {n c : Nat} {bs : List UInt8} (hs : ac.eval s = .slice a n c) (h : Sat W w (sep (osl E 1 a n c (bs.map bv)) A))
    {x : Option Addr} {m cc : Nat} (hy : ac.eval y = .slice x m cc) (news : List UInt8) (hl : news.length = m) (hx0 : x = none → m = 0) (hx : ∀ b, x = some b → ∀ j u, (news.map bv)[j]? = some u → w.cell? (b.add j) = some u)
    (h63 : n + m ≤ 140737488355328)
    (hK : ∀ a' c' w', Sat W w' (sep (rBytes.is [.slice a' (n + m) c'] (bs ++ news)) (sep (rBytes.is [.slice a n c] bs) A)) → wpList P ops Q rest (ac.put o.dst (.slice a' (n + m) c')) w') : wpList P ops Q (o :: rest) ac w := by
  obtain ⟨i, hi1, hi2, hi3, hi4⟩ := info_parts hi
  have hone : ∀ u ∈ news.map bv, u.oneCell' = true := bv_one news
  obtain ⟨a', c', w', hr, hS⟩ := run_append_keep t o.type E 1 1 i (.int .u8 0) ht hi1 hi2 hi3 hi4 rfl h x m cc (news.map bv) (by simp [hl]) hx0 hx hone (by unfold maxLen; omega) (by omega)
  refine wpList_plain hgd fun _ hk => wp_of_run (exec_append s y t t ho (by rw [hs, hy]; exact hr)) (hk _ _ (hK _ _ _ ?_))
  have hlen := h.bytes_of_osl.1
  have e : bs.map bv ++ news.map bv = (bs ++ news).map bv := by simp
  rw [e] at hS
  rcases hS with ⟨rfl, rfl, hS⟩ | hS
  · obtain ⟨h1, h2⟩ := hS.bytes_of_osl
    have hd := h2.dup
    have hsw := h.swf_of_osl
    refine Sat.p1 (hd.wk ?_)
    rintro I mm ⟨x1, y1, d1, e1, ⟨rfl, r1⟩, hA⟩
    refine ⟨Mem.no, y1, d1, e1, ⟨rfl, ?_⟩, hA⟩
    obtain ⟨a2, c2, cells, q1, q2, q3, q4⟩ := r1
    simp only [List.cons.injEq, Value.slice.injEq, and_true] at q1
    obtain ⟨rfl, -, rfl⟩ := q1
    rw [(rows_rByte _ _ _).1 q4] at q3
    refine ⟨a', c', bs.map bv, by rw [hlen], by rw [← hlen]; exact hsw, ?_, (rows_rByte _ _ _).2 rfl⟩
    rcases q3 with q3 | ⟨b', o', cs, t', f, e1, e2, e3⟩
    · left
      have : bs ++ news = [] := by simpa using q3
      simp at this; rw [this.1]; rfl
    · right
      refine ⟨b', o', cs, t', f, e1, e2, fun j u hu => e3 j u ?_⟩
      rw [List.map_append]
      have hj := (List.getElem?_eq_some_iff.1 hu).1
      rw [List.getElem?_append_left hj]
      exact hu
  · exact (hS.bytes_of_osl.2.p1.bytes_of_osl.2).p1
end
end PA
/- Package authmap: blocks (first, last, halves), isKey, isRange, join, leaf. -/
namespace Go.Proofs.YtcmjbjlliehdiaaDoor
open Go.RowKit PA
theorem wrap64_eq {x y : Int} (h : x = y) (h1 : -9223372036854775808 ≤ y) (h2 : y ≤ 9223372036854775807) : wrap64 x = y := by
  subst h
  unfold wrap64
  rw [Int.emod_eq_of_lt (by omega) (by omega)]; omega
theorem int_ret {a b : Int} (h : a = b) : Ending.returned (.int .i64 a) = Ending.returned (.int .i64 b) := by rw [h]
set_option maxHeartbeats 1000000 in
theorem afirst_spec {W w : World} {A : Assn} (l : Nat) (n : Int) (ht : inT l n) (h : Sat W w A) :
    Calls Tryd.prog 88 #[.agg #[.int .i64 (l : Nat), .int .i64 n]] w fun e w' => e = .returned (.int .i64 (bFirst (l, n))) ∧ Sat W w' A := by
  have hb := inT_bounds ht
  have hl : l ≤ 12 := hb.1
  have h1 := h.alloc0 (.cells #[.int .i64 (l : Nat), .int .i64 n] 106)
  have H1 := Lib.hid (And.intro h1 hb)
  clear h1 h ht hb
  go_enter Tryd.func88, Tryd.ntmps88
  go_wp2
  go_ret
  refine ⟨int_ret ?_, H1.out.1⟩
  have hb := H1.out.2
  exact wrap64_eq rfl (by omega) (by omega)
set_option maxHeartbeats 1000000 in
theorem alast_spec {W w : World} {A : Assn} (l : Nat) (n : Int) (ht : inT l n) (h : Sat W w A) :
    Calls Tryd.prog 55 #[.agg #[.int .i64 (l : Nat), .int .i64 n]] w fun e w' => e = .returned (.int .i64 (bLast (l, n))) ∧ Sat W w' A := by
  have hb := inT_bounds ht
  have hl : l ≤ 12 := hb.1
  have hn : 0 ≤ n ∧ n ≤ 4095 := ⟨hb.2.1, hb.2.2.1⟩
  have h1 := h.alloc0 (.cells #[.int .i64 (l : Nat), .int .i64 n] 106)
  have H1 := Lib.hid (And.intro h1 hb)
  clear h1 h ht hb
  go_enter Tryd.func55, Tryd.ntmps55
  go_wp2
  go_ret
  refine ⟨int_ret ?_, H1.out.1⟩
  have hb := H1.out.2
  have e : bLast (l, n) = (n + 1) * 2 ^ l - 1 := rfl
  rw [wrap64_eq (x := (n + 1) * 2 ^ l) rfl (by omega) (by omega)]
  exact wrap64_eq rfl (by omega) (by omega)
set_option maxHeartbeats 2000000 in
theorem ahalves_spec {W w : World} {A : Assn} (l : Nat) (n : Int) (ht : inT (l + 1) n) (h : Sat W w A) :
    Calls Tryd.prog 77 #[.agg #[.int .i64 ((l : Nat) + 1 : Int), .int .i64 n]] w fun e w' => e = .returned (.tuple #[bkv (l, 2 * n), bkv (l, 2 * n + 1)]) ∧ Sat W w' A := by
  have hb := inT_bounds ht
  have hl : l ≤ 11 := by omega
  have hn : 0 ≤ n ∧ n ≤ 4095 := ⟨hb.2.1, hb.2.2.1⟩
  obtain ⟨x, hx⟩ : ∃ x, x = w.heap.size := ⟨_, rfl⟩
  obtain ⟨w3, hw3⟩ : ∃ w3, w3 = ((w.alloc (.cells #[.int .i64 ((l : Nat) + 1 : Int), .int .i64 n] 106)).alloc (.cells #[.int .i64 0, .int .i64 0] 106)).alloc (.cells #[.int .i64 0, .int .i64 0] 106) := ⟨_, rfl⟩
  have h3 : Sat W w3 (sep (blk x (.cells #[.int .i64 ((l : Nat) + 1 : Int), .int .i64 n] 106 (0, 0))) (sep (blk (x + 1) (.cells #[.int .i64 0, .int .i64 0] 106 (0, 0))) (sep (blk (x + 1 + 1) (.cells #[.int .i64 0, .int .i64 0] 106 (0, 0))) A))) := by
    have h1 := ((h.alloc (.cells #[.int .i64 ((l : Nat) + 1 : Int), .int .i64 n] 106)).alloc (.cells #[.int .i64 0, .int .i64 0] 106)).alloc (.cells #[.int .i64 0, .int .i64 0] 106)
    simp only [World.size_alloc] at h1
    rw [← hw3, ← hx] at h1
    simpa only [sep_comm, sep_lcomm, sep_assoc] using h1
  have HW := Lib.hid (And.intro hx hw3)
  clear h ht hb hx hw3
  go_enter Tryd.func77, Tryd.ntmps77
  go_upto_region 1 with (fail)
  rw [← HW.out.1, ← HW.out.2]
  have c0 : w3.cell? ⟨x, 0, none⟩ = some (.int .i64 ((l : Nat) + 1 : Int)) := h3.cell 0
  have c1 : w3.cell? ⟨x, 1, none⟩ = some (.int .i64 n) := h3.cell 1
  have hd := h3.drew
  have hwl : IntKind.i64.wrap ((l : Nat) : Int) = (l : Nat) := IntWalk.i64_in _ (by omega)
  have hwn : IntKind.i64.wrap (2 * n) = 2 * n := IntWalk.i64_in _ (by omega)
  have hwn1 : IntKind.i64.wrap (2 * n + 1) = 2 * n + 1 := IntWalk.i64_in _ (by omega)
  have hS0 : w3.drew.cell? ⟨x, 0, none⟩ = some (.int .i64 ((l : Nat) + 1 : Int)) ∧ w3.drew.cell? ⟨x, 1, none⟩ = some (.int .i64 n) := ⟨hd.cell 0, hd.cell 1⟩
  clear h3
  refine wp_region_canon rfl (fun w' => w'.cell? ⟨x, 0, none⟩ = some (.int .i64 ((l : Nat) + 1 : Int)) ∧ w'.cell? ⟨x, 1, none⟩ = some (.int .i64 n)) [(0, .p), (1, .t), (2, .p), (3, .p), (4, .t), (5, .p), (6, .p), (7, .p), (8, .s), (9, .p), (10, .p), (11, .s), (12, .p), (13, .p), (14, .p), (15, .e true), (16, .e false)] (by kernel_rfl) ?_
  obtain ⟨wd, hwd⟩ : ∃ wd, wd = w3.drew := ⟨_, rfl⟩
  rw [← hwd] at hS0 hd ⊢
  clear hwd c0 c1
  obtain ⟨d0, d1⟩ := hS0
  have hS0 : wd.cell? ⟨x, 0, none⟩ = some (.int .i64 ((l : Nat) + 1 : Int)) ∧ wd.cell? ⟨x, 1, none⟩ = some (.int .i64 n) := ⟨d0, d1⟩
  (repeat (first | (refine C_p (v := ?_) rfl rfl (fun w' => ?_) ?_; rotate_left; (go_simp; with_reducible rfl); simp only [Act.put, List.setIfInBounds_toArray, List.set_cons_zero, List.set_cons_succ]) | (refine C_s (v := ?_) rfl rfl hS0 (fun w' hS => ?_) ?_; rotate_left; ((try dsimp only at hS); go_simp; with_reducible rfl); simp only [Act.put, List.setIfInBounds_toArray, List.set_cons_zero, List.set_cons_succ]) | (refine C_t (v := ?_) rfl rfl ?_ ?_; rotate_left; (go_simp; with_reducible rfl); simp only [Act.put, List.setIfInBounds_toArray, List.set_cons_zero, List.set_cons_succ]) | (refine C_po rfl rfl ?_; simp only [Act.put, List.setIfInBounds_toArray, List.set_cons_zero, List.set_cons_succ]) | (refine C_so rfl rfl hS0 ?_; simp only [Act.put, List.setIfInBounds_toArray, List.set_cons_zero, List.set_cons_succ]) | (refine C_to rfl rfl ?_; simp only [Act.put, List.setIfInBounds_toArray, List.set_cons_zero, List.set_cons_succ])))
  have h5 : Sat W ((wd.setCell ⟨x + 1, 0, none⟩ (.int .i64 (l : Nat))).setCell ⟨x + 1, 1, none⟩ (.int .i64 (2 * n))) (sep (blk (x + 1) (.cells #[.int .i64 (l : Nat), .int .i64 (2 * n)] 106 (0, 0))) (sep (blk x (.cells #[.int .i64 ((l : Nat) + 1 : Int), .int .i64 n] 106 (0, 0))) (sep (blk (x + 1 + 1) (.cells #[.int .i64 0, .int .i64 0] 106 (0, 0))) A))) := (hd.p1.setCell 0 _).setCell 1 _
  have s0 : wd.cell? ⟨x + 1, 0, none⟩ = some (.int .i64 0) := hd.p1.cell 0
  have s1 : wd.cell? ⟨x + 1, 1, none⟩ = some (.int .i64 0) := hd.p1.cell 1
  have v0 : wd.frozen? ⟨x + 1, 0, none⟩ = false := hd.p1.unfrozen 0
  have v1 : wd.frozen? ⟨x + 1, 1, none⟩ = false := hd.p1.unfrozen 1
  (refine C_e rfl rfl (fun K hK => ?_); go_simp)
  obtain ⟨w5, hw5⟩ : ∃ w5, w5 = (wd.setCell ⟨x + 1, 0, none⟩ (.int .i64 (l : Nat))).setCell ⟨x + 1, 1, none⟩ (.int .i64 (2 * n)) := ⟨_, rfl⟩
  rw [← hw5] at h5 ⊢
  have d0' : w5.cell? ⟨x, 0, none⟩ = some (.int .i64 ((l : Nat) + 1 : Int)) := h5.p1.cell 0
  have d1' : w5.cell? ⟨x, 1, none⟩ = some (.int .i64 n) := h5.p1.cell 1
  clear hd d0 d1 s0 s1 v0 v1 hS0 hw5
  (refine hK _ _ (fun _ => ⟨d0', d1'⟩) ?_; clear hK K; (try simp only [Act.put, List.setIfInBounds_toArray, List.set_cons_zero, List.set_cons_succ]))
  have hS0 : w5.cell? ⟨x, 0, none⟩ = some (.int .i64 ((l : Nat) + 1 : Int)) ∧ w5.cell? ⟨x, 1, none⟩ = some (.int .i64 n) := ⟨d0', d1'⟩
  have h6 : Sat W ((w5.setCell ⟨x + 1 + 1, 0, none⟩ (.int .i64 (l : Nat))).setCell ⟨x + 1 + 1, 1, none⟩ (.int .i64 (2 * n + 1))) (sep (blk (x + 1 + 1) (.cells #[.int .i64 (l : Nat), .int .i64 (2 * n + 1)] 106 (0, 0))) (sep (blk (x + 1) (.cells #[.int .i64 (l : Nat), .int .i64 (2 * n)] 106 (0, 0))) (sep (blk x (.cells #[.int .i64 ((l : Nat) + 1 : Int), .int .i64 n] 106 (0, 0))) A))) := (h5.p2.setCell 0 _).setCell 1 _
  have s0 : w5.cell? ⟨x + 1 + 1, 0, none⟩ = some (.int .i64 0) := h5.p2.cell 0
  have s1 : w5.cell? ⟨x + 1 + 1, 1, none⟩ = some (.int .i64 0) := h5.p2.cell 1
  have v0 : w5.frozen? ⟨x + 1 + 1, 0, none⟩ = false := h5.p2.unfrozen 0
  have v1 : w5.frozen? ⟨x + 1 + 1, 1, none⟩ = false := h5.p2.unfrozen 1
  (refine C_e rfl rfl (fun K hK => ?_); go_simp)
  obtain ⟨w6, hw6⟩ : ∃ w6, w6 = (w5.setCell ⟨x + 1 + 1, 0, none⟩ (.int .i64 (l : Nat))).setCell ⟨x + 1 + 1, 1, none⟩ (.int .i64 (2 * n + 1)) := ⟨_, rfl⟩
  rw [← hw6] at h6 ⊢
  clear hS0 d0' d1' s0 s1 v0 v1 h5 hw6
  (refine hK _ _ (fun h => by cases h) ?_; clear hK K; (try simp only [Act.put, List.setIfInBounds_toArray, List.set_cons_zero, List.set_cons_succ]))
  refine C_nil ?_
  have r0 : w6.cell? ⟨x + 1, 0, none⟩ = some (.int .i64 (l : Nat)) := h6.p1.cell 0
  have r1 : w6.cell? ⟨x + 1, 1, none⟩ = some (.int .i64 (2 * n)) := h6.p1.cell 1
  have r2 : w6.cell? ⟨x + 1 + 1, 0, none⟩ = some (.int .i64 (l : Nat)) := h6.cell 0
  have r3 : w6.cell? ⟨x + 1 + 1, 1, none⟩ = some (.int .i64 (2 * n + 1)) := h6.cell 1
  go_wp2
  trace_state
  refine bodyPost_ret (by simp [results, Tryd.results77, go_sem, r0, r1, r2, r3]; try rfl) rfl ?_
  exact ⟨rfl, h6.drop.drop.drop⟩
theorem aiskey_spec (k : Int) (w : World) : Calls Tryd.prog 47 #[.int .i64 k] w fun e w' => e = .returned (.bool (decide (0 ≤ k ∧ k ≤ 4095))) ∧ w' = w := by
  by_cases h1 : 0 ≤ k
  · have h1' : k ≥ 0 := h1
    go_enter Tryd.func47, Tryd.ntmps47
    go_wp2
    go_ret
    exact ⟨by simp [h1], rfl⟩
  · have h1' : ¬ k ≥ 0 := h1
    go_enter Tryd.func47, Tryd.ntmps47
    go_wp2
    go_ret
    exact ⟨by simp; omega, rfl⟩
end Go.Proofs.YtcmjbjlliehdiaaDoor
/- Package authmap: the keys of the map of hashes; leaf, join; what a map holds; New, of. -/
namespace Go.Proofs.YtcmjbjlliehdiaaDoor
open Go.RowKit PA
theorem blk_check (w : World) (em : Bool) (a : Nat × Int) : (Instr.checkKey em 10000 106 (bkv a)).run Tryd.prog w = .ok () w := by
  obtain ⟨l, n⟩ := a
  kernel_rfl
theorem blk_equal (w : World) (a b : Nat × Int) : (Op.equal 106 (bkv a) (bkv b)).run Tryd.prog w = .ok (decide (a = b)) w := by
  obtain ⟨l, n⟩ := a
  obtain ⟨l', n'⟩ := b
  have h1 : Tryd.prog.underlying 106 = some (.struct (Tryd.prog.fieldsOf 106)) := by kernel_rfl
  have h2 : Tryd.prog.stoodInHeld 106 = false := by kernel_rfl
  have e := run_equalIn_struct (P := Tryd.prog) w 9999 106 #[.int .i64 (l : Nat), .int .i64 n] #[.int .i64 (l' : Nat), .int .i64 n'] h1 h2
  unfold Op.equal Op.maxDepth bkv
  rw [e]
  clear e
  have q0 : ∀ a b : Int, (part 3 #[.int .i64 a, .int .i64 b] 0).run Tryd.prog w = .ok (.int .i64 a) w := fun a b => by kernel_rfl
  have q1 : ∀ a b : Int, (part 3 #[.int .i64 a, .int .i64 b] 1).run Tryd.prog w = .ok (.int .i64 b) w := fun a b => by kernel_rfl
  have r0 : ∀ a b : Int, (Op.equalIn 9999 3 (.int .i64 a) (.int .i64 b)).run Tryd.prog w = .ok (a == b) w := fun a b => run_equalIn_int (P := Tryd.prog) w 9998 3 .i64 .i64 a b Tryd.underlying3
  by_cases e1 : l = l'
  · by_cases e2 : n = n'
    · simp [Program.fieldsOf, Tryd.underlying106, Op.eqFields, q0, q1, r0, e1, e2]
    · simp [Program.fieldsOf, Tryd.underlying106, Op.eqFields, q0, q1, r0, e1, e2]
  · have e3 : ¬ (l : Int) = (l' : Int) := by omega
    simp [Program.fieldsOf, Tryd.underlying106, Op.eqFields, q0, r0, e1, e3]
theorem blk_find (w : World) (a : Nat × Int) : ∀ (es : List MapEntry) (i : Nat), (∀ e ∈ es, ∃ k, e.key = bkv k) →
    ((Instr.findAsking 106 (bkv a) es i).run Tryd.prog w = .ok none w ∧ ∀ e ∈ es, e.key ≠ bkv a) ∨ ∃ j e, (Instr.findAsking 106 (bkv a) es i).run Tryd.prog w = .ok (some (i + j, e.val)) w ∧ es[j]? = some e ∧ e.key = bkv a
  | [], i, _ => .inl ⟨by simp [Instr.findAsking], by simp⟩
  | e :: es, i, h => by
    obtain ⟨k, hk⟩ := h e (by simp)
    have heq := blk_equal w a k
    by_cases hak : a = k
    · subst hak
      exact .inr ⟨0, e, by simp [Instr.findAsking, hk, heq], rfl, hk⟩
    · rcases blk_find w a es (i + 1) (fun y hy => h y (by simp [hy])) with ⟨h1, h2⟩ | ⟨j, e', h1, h2, h3⟩
      · refine .inl ⟨by simp [Instr.findAsking, hk, heq, hak, h1], fun y hy => ?_⟩
        rcases List.mem_cons.1 hy with rfl | hy
        · rw [hk]; exact fun e => hak (bkv_inj _ _ e).symm
        · exact h2 y hy
      · exact .inr ⟨j + 1, e', by simp [Instr.findAsking, hk, heq, hak, h1, Nat.add_assoc, Nat.add_comm 1 j], by simpa using h2, h3⟩
theorem blk_key : GKey Tryd.prog 106 bkv := by
  refine ⟨bkv_inj, blk_check, fun w a es he => ?_, fun w a => ?_⟩
  · rw [run_findKey_eq w (by kernel_rfl)]
    rcases blk_find w a es 0 he with ⟨h1, h2⟩ | ⟨j, e, h1, h2, h3⟩
    · exact .inl ⟨h1, h2⟩
    · exact .inr ⟨j, e, by simpa using h1, h2, h3⟩
  · have : Instr.sameBits 10000 (bkv a) (bkv a) = true := by
      obtain ⟨l, n⟩ := a
      show Instr.sameBits (9998 + 1 + 1) (.agg _) (.agg _) = true
      simp [Instr.sameBits]
    simp [Instr.keyThatStays, this]
set_option maxHeartbeats 1000000 in
theorem aleaf_spec {W w : World} {A : Assn} {I : Mem} (k : Int) (v : Value) (bs : List UInt8) (h : Sat W w (sep (kn I) A)) (hv : rBytes.rel I [v] bs) (hb : bs.length ≤ 140737488351240) :
    Calls Tryd.prog 50 #[.int .i64 k, v] w fun e w' => e = .returned (.int .u64 (leafN k bs : Nat)) ∧ Sat W w' (sep (kn I) A) := by
  obtain ⟨va, vc, rfl, -⟩ := bytes_rel.1 hv
  have e5 : (⟨#[118, 97, 108, 117, 101]⟩ : ByteArray).data.toList = valueL := rfl
  have e4 : (⟨#[112, 97, 105, 114]⟩ : ByteArray).data.toList = pairL := rfl
  have H1 := hbytes_any ⟨#[118, 97, 108, 117, 101]⟩ (.slice va bs.length vc) bs h hv (by decide) hb
  rw [e5] at H1
  have HW : leafN k bs = sumN pairL [k, (bs.length : Int), wrap64 ((bytesN valueL bs : Nat) : Int)] := rfl
  obtain ⟨hh, hhe⟩ : ∃ hh, hh = bytesN valueL bs := ⟨_, rfl⟩
  obtain ⟨bl, hbl⟩ : ∃ bl, bl = bs.length := ⟨_, rfl⟩
  rw [← hhe, ← hbl] at H1
  rw [← hhe, ← hbl] at HW
  obtain ⟨z2, hz2⟩ : ∃ z, wrap64 (hh : Int) = z := ⟨_, rfl⟩
  rw [hz2] at HW
  have HWW := Lib.hid HW
  obtain ⟨cm, hcm⟩ : ∃ cm, cm = leafN k bs := ⟨_, rfl⟩
  rw [← hcm] at HWW ⊢
  rw [← hbl]
  have H1' := Lib.hid H1
  clear hv h hb HW hhe hcm H1 e5 hbl
  go_enter Tryd.func50, Tryd.ntmps50
  go_wp2_with fail
  refine H1'.out.mono ?_
  rintro e w1 ⟨rfl, hS⟩
  clear H1'
  have H2a := (sum_spec ⟨#[112, 97, 105, 114]⟩ (some ⟨w1.heap.size, 0, none⟩) 3 [k, (bl : Int), z2] (w1.alloc (.cells #[.int .i64 k, .int .i64 (bl : Int), .int .i64 z2] 3)) (by decide) (by simp) (fun _ => ⟨w1.heap.size, 0, rfl, by simp, fun j hj => by
    have hj2 : j < 3 := hj
    have := new_src w1 [.int .i64 k, .int .i64 (bl : Int), .int .i64 z2] 3 j
    match j, hj2 with
    | 0, _ => exact this _ rfl
    | 1, _ => exact this _ rfl
    | 2, _ => exact this _ rfl⟩))
  rw [e4, ← HWW.out] at H2a
  have H2 := Lib.hid H2a
  clear H2a e4
  have hS2 := hS.alloc0 (.cells #[.int .i64 k, .int .i64 (bl : Int), .int .i64 z2] 3)
  go_wp2_with fail
  refine H2.out.mono ?_
  rintro e w2 ⟨rfl, hb⟩
  have hS3 := hS2.of_below hb
  go_wp2_with fail
  go_ret
  exact ⟨rfl, hS3⟩
/-- A sum: a hash, and whether there is one. -/
def sumV (o : Option Nat) : Value := .agg #[.int .u64 ((o.getD 0 : Nat) : Int), .bool o.isSome]
theorem jn_none {a b : Option Nat} (ha : a = none) (hb : b = none) : joinN a b = none := by subst ha; subst hb; rfl
theorem jn_some {a b : Option Nat} (h : a.isSome = true ∨ b.isSome = true) : joinN a b = some (nodeN (a.getD 0) (b.getD 0)) := by
  cases a <;> cases b <;> simp [joinN] at *
set_option maxHeartbeats 4000000 in
theorem ajoin_spec {W w : World} {A : Assn} (a b : Option Nat) (h : Sat W w A) :
    Calls Tryd.prog 78 #[sumV a, sumV b] w fun e w' => e = .returned (sumV (joinN a b)) ∧ Sat W w' A := by
  obtain ⟨x, hx⟩ : ∃ x, x = w.heap.size := ⟨_, rfl⟩
  obtain ⟨ha, hha⟩ : ∃ ha, ha = a.getD 0 := ⟨_, rfl⟩
  obtain ⟨hb, hhb⟩ : ∃ hb, hb = b.getD 0 := ⟨_, rfl⟩
  obtain ⟨sa, hsa⟩ : ∃ sa, sa = a.isSome := ⟨_, rfl⟩
  obtain ⟨sb, hsb⟩ : ∃ sb, sb = b.isSome := ⟨_, rfl⟩
  have ea : sumV a = .agg #[.int .u64 (ha : Int), .bool sa] := by rw [hha, hsa]; rfl
  have eb : sumV b = .agg #[.int .u64 (hb : Int), .bool sb] := by rw [hhb, hsb]; rfl
  obtain ⟨w3, hw3⟩ : ∃ w3, w3 = ((w.alloc (.cells #[.int .u64 (ha : Int), .bool sa] 96)).alloc (.cells #[.int .u64 (hb : Int), .bool sb] 96)).alloc (.cells #[.int .u64 0, .bool false] 96) := ⟨_, rfl⟩
  have h3 : Sat W w3 (sep (blk x (.cells #[.int .u64 (ha : Int), .bool sa] 96 (0, 0))) (sep (blk (x + 1) (.cells #[.int .u64 (hb : Int), .bool sb] 96 (0, 0))) (sep (blk (x + 1 + 1) (.cells #[.int .u64 0, .bool false] 96 (0, 0))) A))) := by
    have h1 := ((h.alloc (.cells #[.int .u64 (ha : Int), .bool sa] 96)).alloc (.cells #[.int .u64 (hb : Int), .bool sb] 96)).alloc (.cells #[.int .u64 0, .bool false] 96)
    simp only [World.size_alloc] at h1
    rw [← hw3, ← hx] at h1
    simpa only [sep_comm, sep_lcomm, sep_assoc] using h1
  have HW := Lib.hid (And.intro hx hw3)
  have HA := Lib.hid (And.intro (And.intro hha hhb) (And.intro hsa hsb))
  rw [ea, eb]
  clear h hx hw3 hha hhb hsa hsb ea eb
  go_enter Tryd.func78, Tryd.ntmps78
  go_upto_region 1 with (fail)
  rw [← HW.out.1, ← HW.out.2]
  have c0 : w3.cell? ⟨x, 0, none⟩ = some (.int .u64 (ha : Int)) := h3.cell 0
  have c1 : w3.cell? ⟨x, 1, none⟩ = some (.bool sa) := h3.cell 1
  have c2 : w3.cell? ⟨x + 1, 0, none⟩ = some (.int .u64 (hb : Int)) := h3.p1.cell 0
  have c3 : w3.cell? ⟨x + 1, 1, none⟩ = some (.bool sb) := h3.p1.cell 1
  have s0 : w3.cell? ⟨x + 1 + 1, 0, none⟩ = some (.int .u64 0) := h3.p2.cell 0
  have s1 : w3.cell? ⟨x + 1 + 1, 1, none⟩ = some (.bool false) := h3.p2.cell 1
  have v0 : w3.frozen? ⟨x + 1 + 1, 0, none⟩ = false := h3.p2.unfrozen 0
  have v1 : w3.frozen? ⟨x + 1 + 1, 1, none⟩ = false := h3.p2.unfrozen 1
  by_cases hn : sa = false ∧ sb = false
  · obtain ⟨rfl, rfl⟩ := hn
    have h4 : Sat W ((w3.setCell ⟨x + 1 + 1, 0, none⟩ (.int .u64 0)).setCell ⟨x + 1 + 1, 1, none⟩ (.bool false)) (sep (blk (x + 1 + 1) (.cells #[.int .u64 0, .bool false] 96 (0, 0))) (sep (blk x (.cells #[.int .u64 (ha : Int), .bool false] 96 (0, 0))) (sep (blk (x + 1) (.cells #[.int .u64 (hb : Int), .bool false] 96 (0, 0))) A))) := (h3.p2.setCell 0 _).setCell 1 _
    have r0 := h4.cell 0
    have r1 := h4.cell 1
    have H4 := Lib.hid (And.intro h4 (And.intro r0 r1))
    clear h3 h4 r0 r1
    go_wp2_with fail
    refine bodyPost_ret (by simp [results, Tryd.results78, go_sem, H4.out.2.1, H4.out.2.2]; try rfl) rfl ?_
    have en : joinN a b = none := jn_none (by have := HA.out.2.1; cases a <;> simp at this ⊢) (by have := HA.out.2.2; cases b <;> simp at this ⊢)
    rw [en]
    exact ⟨rfl, H4.out.1.drop.drop.drop⟩
  · have en : joinN a b = some (nodeN ha hb) := by
      rw [HA.out.1.1, HA.out.1.2]
      refine jn_some ?_
      rw [← HA.out.2.1, ← HA.out.2.2]
      cases sa
      · cases sb
        · exact absurd ⟨rfl, rfl⟩ hn
        · exact .inr rfl
      · exact .inl rfl
    have e5 : (⟨#[98, 108, 111, 99, 107]⟩ : ByteArray).data.toList = blockL := rfl
    have HWj : nodeN ha hb = sumN blockL [wrap64 (ha : Int), wrap64 (hb : Int)] := rfl
    obtain ⟨cm, hcm⟩ : ∃ cm, cm = nodeN ha hb := ⟨_, rfl⟩
    obtain ⟨z1, hz1⟩ : ∃ z, wrap64 (ha : Int) = z := ⟨_, rfl⟩
    obtain ⟨z2, hz2⟩ : ∃ z, wrap64 (hb : Int) = z := ⟨_, rfl⟩
    rw [hz1, hz2, ← hcm] at HWj
    rw [← hcm] at en
    have H2a := (sum_spec ⟨#[98, 108, 111, 99, 107]⟩ (some ⟨w3.heap.size, 0, none⟩) 2 [z1, z2] (w3.alloc (.cells #[.int .i64 z1, .int .i64 z2] 3)) (by decide) (by simp) (fun _ => ⟨w3.heap.size, 0, rfl, by simp, fun j hj => by
      have hj2 : j < 2 := hj
      have := new_src w3 [.int .i64 z1, .int .i64 z2] 3 j
      match j, hj2 with
      | 0, _ => exact this _ rfl
      | 1, _ => exact this _ rfl⟩))
    rw [e5, ← HWj] at H2a
    have H2 := Lib.hid H2a
    have HEN := Lib.hid en
    clear H2a e5 HWj hcm en
    have hS2 := h3.alloc0 (.cells #[.int .i64 z1, .int .i64 z2] 3)
    have HS2 := Lib.hid hS2
    clear hS2 h3
    have hor : sa = true ∨ (sa = false ∧ sb = true) := by
      cases sa
      · cases sb
        · exact absurd ⟨rfl, rfl⟩ hn
        · exact .inr ⟨rfl, rfl⟩
      · exact .inl rfl
    clear hn
    rcases hor with rfl | ⟨rfl, rfl⟩
    all_goals
      go_wp2_with fail
      refine H2.out.mono ?_
      rintro e w4 ⟨rfl, hb4⟩
      have h5 := HS2.out.of_below hb4
      have t0 : w4.cell? ⟨x + 1 + 1, 0, none⟩ = some (.int .u64 0) := h5.p2.cell 0
      have t1 : w4.cell? ⟨x + 1 + 1, 1, none⟩ = some (.bool false) := h5.p2.cell 1
      have u0 : w4.frozen? ⟨x + 1 + 1, 0, none⟩ = false := h5.p2.unfrozen 0
      have u1 : w4.frozen? ⟨x + 1 + 1, 1, none⟩ = false := h5.p2.unfrozen 1
      have h6 := (h5.p2.setCell 0 (.int .u64 (cm : Nat))).setCell 1 (.bool true)
      have r0 := h6.cell 0
      have r1 := h6.cell 1
      have H6 := Lib.hid (And.intro h6.drop.drop.drop (And.intro r0 r1))
      clear h5 h6 r0 r1 hb4 c0 c1 c2 c3 s0 s1 v0 v1
      go_wp2_with fail
      refine bodyPost_ret (by simp [results, Tryd.results78, go_sem, H6.out.2.1, H6.out.2.2]; try rfl) rfl ?_
      rw [HEN.out]
      exact ⟨rfl, H6.out.1⟩
end Go.Proofs.YtcmjbjlliehdiaaDoor
