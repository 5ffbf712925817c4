/- The map in plain: pairs laid over a map, and deleted again; what Range returns, as known values. -/
import Derived.Test.YtcmjbjlliehdiaaDoorGAuthmapBytesSQx
import Derived.Test.YtcmjbjlliehdiaaDoorGAuthmapBytes28
import Derived.Test.YtcmjbjlliehdiaaDoorGAuthmapBytes29
import Derived.Test.YtcmjbjlliehdiaaDoorGAuthmapBytes11
import Derived.Lib.Varint
import Derived.Lib.Zigzag
import Derived.Lib.EndianBits
import Derived.Laws.Bits64
import Derived.WalkKit
namespace PA
open Go
def ovr (L : PrL) (M : KVs) : KVs := fun k => match lkP L k with | some v => some v | none => M k
theorem ovr_nil (M : KVs) : ovr [] M = M := rfl
theorem ovr_some {L : PrL} {k : Int} {v : List UInt8} (M : KVs) (h : lkP L k = some v) : ovr L M k = some v := by unfold ovr; rw [h]
theorem ovr_none {L : PrL} {k : Int} (M : KVs) (h : lkP L k = none) : ovr L M k = M k := by unfold ovr; rw [h]
theorem ovr_cons (x : Int × List UInt8) (L : PrL) (M : KVs) : ovr (x :: L) M = fset (ovr L M) x.1 (some x.2) := by
  funext k
  unfold ovr fset
  rw [lkP]
  by_cases h : k = x.1
  · rw [if_pos h, if_pos h]
  · rw [if_neg h, if_neg h]
theorem fset_fset (M : KVs) (k : Int) (a b : Option (List UInt8)) : fset (fset M k a) k b = fset M k b := by
  funext j; unfold fset; split <;> rfl
theorem AscP.drop {L : PrL} (h : AscP L) (i : Nat) : AscP (L.drop i) := by
  unfold AscP at h ⊢
  rw [List.map_drop]
  exact h.drop
theorem lkP_head {E : PrL} (hE : AscP E) {i : Nat} (hi : i < E.length) : lkP (E.drop (i + 1)) E[i].1 = none := by
  have h := hE.drop i
  rw [List.drop_eq_getElem_cons hi] at h
  exact lkP_none fun y hy => by have := h.cons.1 y hy; omega
theorem ovr_del {L E : PrL} (hE : AscP E) {i : Nat} (hi : i < E.length) (hL : lkP L E[i].1 = none) :
    fset (ovr L (lkP (E.drop i))) E[i].1 none = ovr L (lkP (E.drop (i + 1))) ∧ (ovr L (lkP (E.drop i)) E[i].1).isSome = true := by
  have e := List.drop_eq_getElem_cons hi
  refine ⟨?_, ?_⟩
  · funext k
    unfold fset
    by_cases hk : k = E[i].1
    · rw [if_pos hk, hk, ovr_none _ hL, lkP_head hE hi]
    · rw [if_neg hk]
      unfold ovr
      rw [e, lkP, if_neg hk]
  · rw [ovr_none _ hL, e, lkP, if_pos rfl]; rfl
theorem ovr_skip {L E : PrL} {i : Nat} (hi : i < E.length) (hL : lkP L E[i].1 ≠ none) : ovr L (lkP (E.drop i)) = ovr L (lkP (E.drop (i + 1))) := by
  have e := List.drop_eq_getElem_cons hi
  funext k
  by_cases hk : k = E[i].1
  · obtain ⟨v, hv⟩ := Option.ne_none_iff_exists'.1 hL
    rw [hk, ovr_some _ hv, ovr_some _ hv]
  · unfold ovr
    rw [e, lkP, if_neg hk]
theorem ovr_end (L : PrL) : ovr L (lkP []) = lkP L := by
  funext k
  unfold ovr
  cases h : lkP L k with
  | some v => rfl
  | none => rfl
theorem akeys_unique {M : KVs} {l m : List Int} (h1 : AKeys M l) (h2 : AKeys M m) : l = m :=
  asc_unique h1.1 h2.1 fun k => (h1.2 k).trans (h2.2 k).symm
end PA
namespace Go.Proofs.YtcmjbjlliehdiaaDoor
open Go.RowKit PA
theorem fillM_ovr : ∀ (L : PrL) (M : KVs), AscP L → fillM M L = ovr L M
  | [], _, _ => rfl
  | x :: l, M, h => by
    have e : fillM M (x :: l) = fillM (fset M x.1 (some x.2)) l := rfl
    rw [e, fillM_ovr l _ h.cons.2, ovr_cons]
    have hn : lkP l x.1 = none := lkP_none fun y hy => by have := h.cons.1 y hy; omega
    funext k
    by_cases hk : k = x.1
    · rw [hk, ovr_none _ hn]
      simp [fset]
    · unfold ovr fset
      rw [if_neg hk, if_neg hk]
theorem fillM_lk {L : PrL} (h : AscP L) : fillM (fun _ => none) L = lkP L := by
  rw [fillM_ovr L _ h]
  funext k
  unfold ovr
  cases lkP L k <;> rfl
/-- The proof of a range. -/
def rngP (M : KVs) (a b : Int) : Prf := ⟨leftL M a (outL a b 12 0), rightL M a (outL a b 12 0), shapeL M (outL a b 12 0)⟩
theorem arange_kn {W w : World} {A : Assn} {I : Mem} (hw : WholeOK W) (p : Nat) (M : KVs) (a b : Int) (h : Sat W w (sep (isAM p M) (sep (kn I) A))) (hn : 0 ≤ a ∧ a ≤ b ∧ b ≤ 4095) :
    Calls Tryd.prog 17 #[.pointer (some ⟨p, 0, none⟩), .int .i64 a, .int .i64 b] w fun e w' => ∃ pa n pc ks la nl lc ra nr rc sa ns sc J, AKeys M ks ∧ Mem.le I J ∧
      e = .returned (.tuple #[.slice pa n pc, .agg #[.slice la nl lc, .slice ra nr rc, .slice sa ns sc], .int .i64 0]) ∧ n = (pairsL M a b ks).length ∧
      (rPairQ.slice 2).rel J [.slice pa n pc] (pairsL M a b ks) ∧ prfR J (.agg #[.slice la nl lc, .slice ra nr rc, .slice sa ns sc]) (rngP M a b) ∧ Sat W w' (sep (kn J) (sep (isAM p M) A)) := by
  refine (arange_ok hw p M a b h hn).mono ?_
  rintro e w' ⟨pa, pc, cells, ks, la, lc, ra, rc, sa, sc, J, hk, hJ, rfl, h1⟩
  have h2 := Sat.slice_of_osl (R := rPair) (xs := pairsL M a b ks) h1 rfl
  obtain ⟨J1, hJ1, hr1, h3⟩ := (show Sat W w' (sep ((rPair.slice 2).is [.slice pa (pairsL M a b ks).length pc] (pairsL M a b ks)) (sep (kn J) _)) from h2.p4.p1).learn
  obtain ⟨J2, hJ2, hr2, h4⟩ := hs_learn (show Sat W w' (sep (osl 43 1 la (leftL M a (outL a b 12 0)).length lc ((leftL M a (outL a b 12 0)).map uv)) (sep (kn J1) (sep (osl 43 1 ra (rightL M a (outL a b 12 0)).length rc ((rightL M a (outL a b 12 0)).map uv)) (sep (osl 5 1 sa (shapeL M (outL a b 12 0)).length sc ((shapeL M (outL a b 12 0)).map bv)) (sep (isAM p M) A))))) by simpa only [sep_comm, sep_lcomm, sep_assoc] using h3) rfl
  obtain ⟨J3, hJ3, hr3, h5⟩ := hs_learn (show Sat W w' (sep (osl 43 1 ra (rightL M a (outL a b 12 0)).length rc ((rightL M a (outL a b 12 0)).map uv)) (sep (kn J2) (sep (osl 5 1 sa (shapeL M (outL a b 12 0)).length sc ((shapeL M (outL a b 12 0)).map bv)) (sep (isAM p M) A)))) by simpa only [sep_comm, sep_lcomm, sep_assoc] using h4) rfl
  obtain ⟨J4, hJ4, hr4, h6⟩ := osl_learnQ (show Sat W w' (sep (osl 5 1 sa (shapeL M (outL a b 12 0)).length sc ((shapeL M (outL a b 12 0)).map bv)) (sep (kn J3) (sep (isAM p M) A))) by simpa only [sep_comm, sep_lcomm, sep_assoc] using h5) rfl
  exact ⟨pa, _, pc, ks, la, _, lc, ra, _, rc, sa, _, sc, J4, hk, Mem.le_trans hJ (Mem.le_trans hJ1 (Mem.le_trans hJ2 (Mem.le_trans hJ3 hJ4))), rfl, rfl, (rPairQ.slice 2).mono (Mem.le_trans hJ2 (Mem.le_trans hJ3 hJ4)) hr1,
    ⟨_, _, _, rfl, rHs.mono (Mem.le_trans hJ3 hJ4) hr2, rHs.mono hJ4 hr3, hr4⟩, h6⟩
theorem slice_formQ {α : Type} {R : Rep α} {k : Nat} {I : Mem} {v : Value} {xs : List α} (h : (R.slice k).rel I [v] xs) : ∃ a c, v = .slice a xs.length c ∧ Swf a xs.length c := by
  obtain ⟨a, c, cells, e, hw, -, -⟩ := h
  cases e
  exact ⟨a, c, rfl, hw⟩
theorem pair_ext {I : Mem} {a : Option Addr} {n c : Nat} {l : List (Int × List UInt8)} (h : (rPairQ.slice 2).rel I [.slice a n c] l) (i : Nat) (hi : i < l.length) :
    ∃ b o va vc, a = some ⟨b, o, none⟩ ∧ (∀ w, Ext I w → w.cell? ⟨b, o + i * 2, none⟩ = some (.int .i64 l[i].1) ∧ w.cell? ⟨b, o + i * 2 + 1, none⟩ = some (.slice va l[i].2.length vc)) ∧ rBytes.rel I [.slice va l[i].2.length vc] l[i].2 := by
  obtain ⟨a', c', cells, e, hw, hc, css, rfl, hall⟩ := h
  simp only [List.cons.injEq, Value.slice.injEq, and_true] at e
  obtain ⟨rfl, rfl, rfl⟩ := e
  have hl := hall.length
  have hi' : i < css.length := by omega
  obtain ⟨hr, hk⟩ := hall.get i hi' hi
  obtain ⟨va, vc, hcs, hrv⟩ := hr
  have f0 := flatten_get (k := 2) css (fun c hc => (hall.mem c hc).choose_spec.2) i hi' 0 (by omega)
  have f1 := flatten_get (k := 2) css (fun c hc => (hall.mem c hc).choose_spec.2) i hi' 1 (by omega)
  rw [hcs] at f0 f1
  obtain ⟨b, o, e, h2⟩ := cells_ext hc (fun e => by rw [e] at f0; simp at f0)
  exact ⟨b, o, va, vc, e, fun w he => ⟨h2 w he _ _ f0, h2 w he _ _ f1⟩, hrv⟩
/-- Made, its map given up. -/
theorem made_kn {W w : World} {A : Assn} {I : Mem} (a : Option Addr) (n c : Nat) (N : List Int) (m : Nat) (hm : m ≤ 100) (hn : n = N.length) (h64 : ∀ x ∈ N, -9223372036854775808 ≤ x ∧ x ≤ 9223372036854775807)
    (hv : (rInt.slice 1).rel I [.slice a n c] N) (h : Sat W w (sep (kn I) A)) :
    Calls Tryd.prog 11 #[.slice a n c, .int .i64 (m : Nat)] w fun e w' => ∃ q J pa pc L, e = .returned (.pointer (some ⟨q, 0, none⟩)) ∧ L = madeP N (min (n / 2) m) ∧ AscP L ∧ L.length ≤ m ∧ (∀ x ∈ L, (0 ≤ x.1 ∧ x.1 ≤ 4095) ∧ x.2.length ≤ 5) ∧ Mem.le I J ∧ qmR J q L ∧ (rPairQ.slice 2).rel J [.slice pa L.length pc] L ∧
      (∀ w, Ext J w → w.cell? ⟨q, 0, none⟩ = some (.slice pa L.length pc)) ∧ Sat W w' (sep (kn J) A) := by
  refine (qmade_spec a n c N m hm hn h64 hv h).mono ?_
  rintro e w' ⟨q, rfl, h1⟩
  obtain ⟨g1, g2, g3⟩ := madeP_ok N (min (n / 2) m)
  obtain ⟨J, hJ, hq, h2⟩ := qm_settle h1
  obtain ⟨pa, pc, e1, e2⟩ := id hq
  exact ⟨q, J, pa, pc, _, rfl, rfl, g1, by omega, g3, hJ, hq, e2, fun w he => cell_of_row w q 0 _ _ _ (he _ _ e1), h2⟩
theorem filled_lk {W w : World} {A : Assn} {I : Mem} (hw : WholeOK W) (a : Option Addr) (n c : Nat) (L : PrL) (h : Sat W w (sep (kn I) A)) (hv : (rPairQ.slice 2).rel I [.slice a n c] L) (hn : n = L.length) (hn9 : n ≤ 1000) (ha : AscP L)
    (hl : ∀ x ∈ L, (0 ≤ x.1 ∧ x.1 ≤ 4095) ∧ x.2.length ≤ 5) :
    Calls Tryd.prog 12 #[.slice a n c] w fun e w' => ∃ p, e = .returned (.pointer (some ⟨p, 0, none⟩)) ∧ Sat W w' (sep (isAM p (lkP L)) (sep (kn I) A)) := by
  have := filled_spec hw a n c L h hv hn (by omega) (fun x hx => ⟨(hl x hx).1, by have := (hl x hx).2; omega⟩)
  rw [fillM_lk ha] at this
  exact this
theorem nodup_sub_len : ∀ (l m : List Int), l.Nodup → (∀ k ∈ l, k ∈ m) → l.length ≤ m.length
  | [], _, _, _ => Nat.zero_le _
  | x :: l, m, hn, h => by
    have hx := (List.nodup_cons.1 hn)
    have hm : x ∈ m := h x (by simp)
    have ih := nodup_sub_len l (m.erase x) hx.2 fun k hk => by
      have hne : k ≠ x := fun e => hx.1 (by rw [← e]; exact hk)
      exact (List.mem_erase_of_ne hne).2 (h k (by simp [hk]))
    rw [List.length_erase_of_mem hm] at ih
    have : 0 < m.length := List.length_pos_of_mem hm
    simp only [List.length_cons]
    omega
theorem akeys_len {L : PrL} (_hL : AscP L) {ks : List Int} (h : AKeys (lkP L) ks) : ks.length ≤ L.length := by
  have hm : ∀ (L : PrL) (k : Int), (lkP L k).isSome = true → k ∈ L.map (·.1) := by
    intro L
    induction L with
    | nil => intro k h; cases h
    | cons x l ih =>
      intro k h
      rw [lkP] at h
      by_cases e : k = x.1
      · rw [e]; simp
      · rw [if_neg e] at h
        simp [ih k h]
  have hnd : ks.Nodup := h.1.imp fun h => by omega
  have hsub : ∀ k ∈ ks, k ∈ L.map (·.1) := fun k hk => hm L k ((h.2 k).1 hk)
  have := nodup_sub_len ks (L.map (·.1)) hnd hsub
  simpa using this
end Go.Proofs.YtcmjbjlliehdiaaDoor
/- Package wire: the writer. -/
namespace Go.Proofs.YtcmjbjlliehdiaaDoor
open Go.RowKit PA
theorem infoU8w : (Tryd.prog.info? 5).map (fun i => (i.zero, i.size, i.bytes)) = some (some (.int .u8 0), 1, 1) := by kernel_rfl
def isWr (p : Nat) (bs : List UInt8) : Assn := ex fun a : Option Addr => ex fun n : Nat => ex fun c : Nat => sep (blk p (.cells #[.slice a n c] 120 (0, 0))) (osl 5 1 a n c (bs.map bv))
theorem isWr_open {W w : World} {A : Assn} {p : Nat} {bs : List UInt8} (h : Sat W w (sep (isWr p bs) A)) : ∃ a n c, n = bs.length ∧ Sat W w (sep (blk p (.cells #[.slice a n c] 120 (0, 0))) (sep (osl 5 1 a n c (bs.map bv)) A)) := by
  simp only [isWr, ex_sep, Sat.ex, sep_assoc] at h
  obtain ⟨a, n, c, h⟩ := h
  have := h.p1.osl_len.1
  exact ⟨a, n, c, by simpa using this.symm, h⟩
theorem isWr_mk {W w : World} {A : Assn} {p : Nat} {bs : List UInt8} {a : Option Addr} {n c : Nat} (h : Sat W w (sep (blk p (.cells #[.slice a n c] 120 (0, 0))) (sep (osl 5 1 a n c (bs.map bv)) A))) : Sat W w (sep (isWr p bs) A) := by
  simp only [isWr, ex_sep, Sat.ex, sep_assoc]
  exact ⟨a, n, c, h⟩
set_option maxHeartbeats 1000000 in
theorem wuint_spec {W w : World} {A : Assn} (p : Nat) (bs : List UInt8) (x : Nat) (hx : x < 18446744073709551616) (h : Sat W w (sep (isWr p bs) A)) (hb : bs.length ≤ 1073741824) :
    Calls Tryd.prog 64 #[.pointer (some ⟨p, 0, none⟩), .int .u64 (x : Nat)] w fun e w' => e = .returned (.tuple #[]) ∧ Sat W w' (sep (isWr p (bs ++ Lib.uvarint x)) A) := by
  have HX := Lib.hid hx
  have HB := Lib.hid hb
  clear hx hb
  go_enter Tryd.func64, Tryd.ntmps64
  go_wp2_with fail
  go_loopw [1] (fun nv wr => ∃ (y : Nat) (pre : List UInt8), nv = .int .u64 (y : Nat) ∧ Hid (y < 18446744073709551616 ∧ pre ++ Lib.uvarint y = Lib.uvarint x) ∧ Sat W wr (sep (isWr p (bs ++ pre)) A)) (fun nv _ => (intOf nv).toNat)
  case atStart => exact ⟨x, [], rfl, Lib.hid ⟨HX.out, rfl⟩, by simpa using h⟩
  case round =>
    clear h
    obtain ⟨y, pre, rfl, HY, hS⟩ := hrel
    have hpl : pre.length ≤ 10 := by
      have := congrArg List.length HY.out.2
      have := Lib.uvarint_length64 HX.out
      simp at *; omega
    obtain ⟨a, n, c, hn, h1⟩ := isWr_open hS
    have hnb : n ≤ 1073741834 := by rw [hn, List.length_append]; have := HB.out; omega
    have HN := Lib.hid hnb
    have c1 : wr.cell? ⟨p, 0, none⟩ = some (.slice a n c) := h1.cell 0
    obtain ⟨vs, hvs⟩ : ∃ vs, vs = (bs ++ pre).map bv := ⟨_, rfl⟩
    rw [← hvs] at h1
    have HVS := Lib.hid hvs
    have hS' := h1.p1
    clear hn hpl hnb hS hvs
    by_cases hy : 128 ≤ y
    · have hyI : (128 : Int) ≤ (y : Int) := by omega
      obtain ⟨z, hz⟩ : ∃ z : UInt8, z = (y % 128 + 128).toUInt8 := ⟨_, rfl⟩
      have hor : bits BinOp.or IntKind.u8 ((y : Int) % 256) 128 = (z.toNat : Int) := by
        rw [Lib.u8_or128_any _ (by omega) (by omega), hz]
        simp; omega
      have hB := (hS'.alloc0 (.cells #[.int .u8 (z.toNat : Int)] 5))
      have HZ := Lib.hid hz
      clear hz h1 hS'
      go_wp2_with (at_builtin; (refine wpl_append_osl rfl (.tmp 12) (.tmp 16) 32 rfl 5 1 1 (.int .u8 0) Tryd.underlying32 infoU8w rfl rfl hB rfl [.int .u8 (z.toNat : Int)] rfl (by simp) (by intro b hb; cases hb; exact new_src _ [_] _) (by simp [Value.oneCell']) (by have := HN.out; omega) (by have := HN.out; unfold maxLen; omega) ?_))
      intro a2 c2 w2 h2
      have h3 := h2.p1
      have c2' : w2.cell? ⟨p, 0, none⟩ = some (.slice a n c) := h3.cell 0
      have f2' : w2.frozen? ⟨p, 0, none⟩ = false := h3.unfrozen 0
      have h4 : Sat W (w2.setCell ⟨p, 0, none⟩ (.slice a2 (n + 1) c2)) (sep (blk p (.cells #[.slice a2 (n + 1) c2] 120 (0, 0))) (sep (osl 5 1 a2 (n + 1) c2 (vs ++ [.int .u8 (z.toNat : Int)])) A)) := h3.setCell 0 _
      clear hB h2 h3 c1
      go_wp2_with fail
      go_roundw
      case rel =>
        refine ⟨y / 128, pre ++ [z], by go_num, Lib.hid ⟨by have := HY.out.1; omega, ?_⟩, isWr_mk (a := a2) (n := n + 1) (c := c2) ?_⟩
        · rw [List.append_assoc, ← HY.out.2, Lib.uvarint_big hy, ← HZ.out]; rfl
        · rw [← List.append_assoc, List.map_append, ← HVS.out]; exact h4
      case measure => simp [intOf]; omega
    · have hyB : decide ((128 : Int) ≤ (y : Int)) = false := by simp; omega
      have HY128 := Lib.hid hy
      obtain ⟨z, hz⟩ : ∃ z : UInt8, z = y.toUInt8 := ⟨_, rfl⟩
      have hzy : z.toNat = y := by
        rw [hz]; simp; omega
      have hor : ((y : Int) % 256) = (z.toNat : Int) := by omega
      have hB := (hS'.alloc0 (.cells #[.int .u8 (z.toNat : Int)] 5))
      have HZ := Lib.hid hz
      clear hz h1 hS' hzy hy
      go_wp2_with (at_builtin; (refine wpl_append_osl rfl (.tmp 24) (.tmp 27) 32 rfl 5 1 1 (.int .u8 0) Tryd.underlying32 infoU8w rfl rfl hB rfl [.int .u8 (z.toNat : Int)] rfl (by simp) (by intro b hb; cases hb; exact new_src _ [_] _) (by simp [Value.oneCell']) (by have := HN.out; omega) (by have := HN.out; unfold maxLen; omega) ?_))
      intro a2 c2 w2 h2
      have h3 := h2.p1
      have c2' : w2.cell? ⟨p, 0, none⟩ = some (.slice a n c) := h3.cell 0
      have f2' : w2.frozen? ⟨p, 0, none⟩ = false := h3.unfrozen 0
      have h4 : Sat W (w2.setCell ⟨p, 0, none⟩ (.slice a2 (n + 1) c2)) (sep (blk p (.cells #[.slice a2 (n + 1) c2] 120 (0, 0))) (sep (osl 5 1 a2 (n + 1) c2 (vs ++ [.int .u8 (z.toNat : Int)])) A)) := h3.setCell 0 _
      clear hB h2 h3 c1
      go_wp2_with fail
      go_end0
      refine ⟨rfl, isWr_mk (a := a2) (n := n + 1) (c := c2) ?_⟩
      rw [← HY.out.2, Lib.uvarint_small (by have := HY128.out; omega), ← HZ.out, ← List.append_assoc, List.map_append, ← HVS.out, List.map_cons, List.map_nil, bv]; exact h4
end Go.Proofs.YtcmjbjlliehdiaaDoor
/- The wire's numbers in plain. No program in sight. -/
namespace PA
open Go RowKit
theorem bits_xor_comm (k : IntKind) (x y : Int) : bits .xor k x y = bits .xor k y x := by
  show IntKind.wrap k ((BitVec.ofInt k.bits x ^^^ BitVec.ofInt k.bits y).toNat : Int) = IntKind.wrap k ((BitVec.ofInt k.bits y ^^^ BitVec.ofInt k.bits x).toNat : Int)
  rw [BitVec.xor_comm]
theorem zz_val (n : Int) (h1 : -9223372036854775808 ≤ n) (h2 : n ≤ 9223372036854775807) :
    bits .xor .u64 (IntKind.u64.wrap (IntKind.u64.wrap n * 2)) (IntKind.u64.wrap (n / 9223372036854775808)) = (Lib.zigzag n : Nat) := by
  by_cases h : 0 ≤ n
  · have e1 : IntKind.u64.wrap (n / 9223372036854775808) = ((0 : Nat) : Int) := by rw [IntKind.wrap_u64]; omega
    have e2 : IntKind.u64.wrap (IntKind.u64.wrap n * 2) = ((2 * n).toNat : Nat) := by rw [IntKind.wrap_u64, IntKind.wrap_u64]; omega
    rw [e1, e2, bits_xor_u64_nat _ _ (by omega) (by decide), Nat.xor_zero]
    unfold Lib.zigzag; rw [if_pos h]
  · have e1 : IntKind.u64.wrap (n / 9223372036854775808) = IntKind.u64.max := by
      rw [IntKind.wrap_u64, show IntKind.u64.max = 18446744073709551615 by decide]; omega
    rw [e1, bits_xor_comm]
    exact Lib.zigzag_neg h1 (by omega)
/-- The number with a zigzag form. -/
def unz (z : Nat) : Int := if z % 2 = 0 then (z / 2 : Nat) else -((z / 2 : Nat) : Int) - 1
theorem unz_val (z : Nat) (h : z < 18446744073709551616) : bits BinOp.xor .i64 ((z : Int) / 2) (wrap64 (-wrap64 (bits BinOp.and .u64 (z : Int) 1))) = unz z := by
  rw [Lib.u64_and1 _ (by omega) (by omega)]
  have e0 : (z : Int) / 2 = ((z / 2 : Nat) : Int) := by omega
  unfold unz
  by_cases h0 : z % 2 = 0
  · have e1 : (z : Int) % 2 = 0 := by omega
    rw [e1, if_pos h0, e0]
    have e2 : wrap64 (-wrap64 0) = 0 := by simp [wrap64]
    rw [e2]
    show IntKind.i64.wrap ((BitVec.ofInt 64 ((z / 2 : Nat) : Int) ^^^ BitVec.ofInt 64 0).toNat : Int) = _
    have e3 : BitVec.ofInt 64 ((z / 2 : Nat) : Int) ^^^ BitVec.ofInt 64 0 = BitVec.ofInt 64 ((z / 2 : Nat) : Int) := by simp
    rw [e3, BitVec.ofInt_natCast, BitVec.toNat_ofNat, IntKind.wrap_i64]
    omega
  · have e1 : (z : Int) % 2 = 1 := by omega
    rw [e1, if_neg h0, e0, bits_xor_comm]
    have e2 : wrap64 (-wrap64 1) = -1 := by simp [wrap64]
    rw [e2]
    exact Lib.i64_not _ (by omega)
def encI (n : Int) : List UInt8 := Lib.uvarint (Lib.zigzag n)
def encR (b : List UInt8) : List UInt8 := Lib.uvarint b.length ++ b
/-- Reading a number: the first byte has index i. -/
def uintGo (i n : Nat) : List UInt8 → Except Int (Nat × List UInt8)
  | [] => .error 3
  | c :: l => if (i = 9 ∧ 1 < c.toNat) ∨ (0 < i ∧ c.toNat = 0) then .error 2 else if c.toNat < 128 then .ok (n + c.toNat * 128 ^ i, l) else uintGo (i + 1) (n + (c.toNat - 128) * 128 ^ i) l
def uintP (l : List UInt8) : Except Int (Nat × List UInt8) := uintGo 0 0 l
def intP (l : List UInt8) : Except Int (Int × List UInt8) := match uintP l with
  | .error e => .error e
  | .ok (z, l) => .ok (unz z, l)
def rawP (l : List UInt8) : Except Int (List UInt8 × List UInt8) := match uintP l with
  | .error e => .error e
  | .ok (n, l) => if l.length < n then .error 3 else .ok (l.take n, l.drop n)
theorem encI_length (n : Int) (h1 : -9223372036854775808 ≤ n) (h2 : n ≤ 9223372036854775807) : (encI n).length ≤ 10 := Lib.uvarint_length64 (Lib.zigzag_lt h1 h2)
/-- A reader: the bytes that are left, or the error. -/
abbrev RSt := Except Int (List UInt8)
def stU : RSt → Nat × RSt
  | .error e => (0, .error e)
  | .ok l => match uintP l with | .error e => (0, .error e) | .ok (n, l') => (n, .ok l')
def stI (st : RSt) : Int × RSt := (unz (stU st).1, (stU st).2)
def stR : RSt → List UInt8 × RSt
  | .error e => ([], .error e)
  | .ok l => match rawP l with | .error e => ([], .error e) | .ok (b, l') => (b, .ok l')
def stE : RSt → Int
  | .error e => e
  | .ok l => if l = [] then 0 else 2
theorem pow128 (i : Nat) : (128 : Nat) ^ i = 2 ^ (7 * i) := by rw [Nat.pow_mul]
theorem andNot128 (c : UInt8) : bits .andNot .u8 (c.toNat : Int) 128 = ((c.toNat % 128 : Nat) : Int) := by
  have h : ∀ n : Fin 256, bits .andNot .u8 (n.val : Int) 128 = ((n.val % 128 : Nat) : Int) := by decide +kernel
  exact h ⟨c.toNat, c.toNat_lt⟩
theorem or_var (n m i : Nat) (hn : n < 128 ^ i) (hm : m < 128) (hi : i ≤ 9) (h9 : i = 9 → m ≤ 1) :
    bits .or .u64 (n : Int) (IntKind.u64.wrap (IntKind.u64.wrap (m : Int) * 2 ^ (7 * i))) = ((n + m * 128 ^ i : Nat) : Int) ∧ n + m * 128 ^ i < 18446744073709551616 := by
  have e' : ((2 : Int) ^ (7 * i)) = ((128 ^ i : Nat) : Int) := by rw [pow128]; push_cast; rfl
  have q9 : (128 : Nat) ^ 9 = 9223372036854775808 := by decide
  have q8 : (128 : Nat) ^ 8 = 72057594037927936 := by decide
  have hp0 : (128 : Nat) ^ i ≤ 9223372036854775808 := q9 ▸ Nat.pow_le_pow_right (by decide) hi
  have hb : m * 128 ^ i + 128 ^ i ≤ 18446744073709551616 := by
    by_cases h : i = 9
    · subst h
      have := h9 rfl
      rw [q9]; omega
    · have hp : (128 : Nat) ^ i ≤ 72057594037927936 := q8 ▸ Nat.pow_le_pow_right (by decide) (by omega)
      have : m * 128 ^ i ≤ 127 * 72057594037927936 := Nat.mul_le_mul (by omega) hp
      omega
  rw [e']
  generalize hp : (128 : Nat) ^ i = p at *
  have e2 : IntKind.u64.wrap (m : Int) = (m : Int) := wraps_u64 _ (by omega) (by omega)
  have e3 : IntKind.u64.wrap (((m : Nat) : Int) * (p : Int)) = ((m * p : Nat) : Int) := by
    rw [← Int.natCast_mul]; exact wraps_u64 _ (by omega) (by have : m * p < 2 ^ 64 := by omega
                                                             exact_mod_cast this)
  rw [e2, e3]
  have hp2 : (2 : Int) ^ (7 * i) = (p : Int) := e'
  have g1 : (n : Int) < (2 : Int) ^ (7 * i) := by rw [hp2]; exact_mod_cast hn
  have g2 : n < 2 ^ 64 := by omega
  have g3 : ((m * p : Nat) : Int) % (2 : Int) ^ (7 * i) = 0 := by rw [hp2]; push_cast; exact Int.mul_emod_left _ _
  have g4 : m * p < 2 ^ 64 := by omega
  refine ⟨?_, by omega⟩
  rw [bits_join_low .u64 64 (by decide) wraps_u64 (7 * i) _ _ (by omega) g1 (by exact_mod_cast g2) (by omega) g3 (by exact_mod_cast g4)]
  exact (Int.natCast_add _ _).symm
theorem uint_step (n c i : Nat) (hn : n < 128 ^ i) (hc : 128 ≤ c) (hc2 : c < 256) : n + (c - 128) * 128 ^ i < 128 ^ (i + 1) := by
  rw [Nat.pow_succ]
  have : (c - 128) * 128 ^ i ≤ 127 * 128 ^ i := Nat.mul_le_mul_right _ (by omega)
  omega
theorem uintGo_lt : ∀ (l : List UInt8) (i n : Nat), i ≤ 9 → n < 128 ^ i → ∀ m l', uintGo i n l = .ok (m, l') → m < 18446744073709551616 ∧ ∃ k, l' = l.drop k
  | [], i, n, _, _, m, l', h => by simp [uintGo] at h
  | c :: l, i, n, hi, hn, m, l', h => by
    have hc := c.toNat_lt
    unfold uintGo at h
    split at h
    · cases h
    · rename_i hbad
      split at h
      · rename_i hs
        cases h
        exact ⟨(or_var n c.toNat i hn hs hi (fun e => by rw [e] at hbad; omega)).2, 1, rfl⟩
      · rename_i hs
        by_cases h9 : i = 9
        · exfalso; rw [h9] at hbad; omega
        · obtain ⟨h1, k, h2⟩ := uintGo_lt l (i + 1) _ (by omega) (uint_step n c.toNat i hn (by omega) (by omega)) m l' h
          exact ⟨h1, k + 1, by rw [h2]; rfl⟩
theorem stU_lt (st : RSt) : (stU st).1 < 18446744073709551616 := by
  cases st with
  | error e => exact (by decide : 0 < 18446744073709551616)
  | ok l =>
    unfold stU
    dsimp only
    cases h : uintP l with
    | error e => exact (by decide : 0 < 18446744073709551616)
    | ok x => obtain ⟨m, l'⟩ := x; exact (uintGo_lt l 0 0 (by omega) (by decide) m l' h).1
end PA
