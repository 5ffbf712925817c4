/- 'append' of a string onto an owned row of bytes. Plain Lean, no program in sight. -/
import Derived.Test.YtcmjbjlliehdiaaDoorGAuthmapBytes10
import Derived.Lib.AppendStr
import Derived.Test.YtcmjbjlliehdiaaDoorRows
import Derived.Test.YtcmjbjlliehdiaaDoorVal
import Derived.BigQuiet
import Derived.Deep.QuietTactic
import Derived.LoopTactic
import Derived.OpenShut
import Derived.Laws.BytesString
import Derived.Lib.SliceRun
namespace PA
open Go Go.RowKit
section
variable {P : Program} {W w : World} {A : Assn}
theorem strCells_bv (s : ByteArray) : Lib.strCells s = s.data.toList.map bv := rfl
theorem run_append_osl_str (t u ty E : Nat) (i : TypeInfo) (ht : P.underlying t = some (.slice E)) (hu : P.underlying u = some .string) (hi : P.info? E = some i) (hz : i.zero = some (.int .u8 0))
    (hk : i.size = 1) (hb : i.bytes = 1) {a : Option Addr} {n c : Nat} {xs : List Value} (h : Sat W w (sep (osl E 1 a n c xs) A)) (s : ByteArray) (h63 : n + s.size ≤ 140737488355328) :
    ∃ a' c' w', (Builtin.append_ #[t, u] ty #[.slice a n c, .string s]).run P w = .ok (.slice a' (n + s.size) c') w' ∧ Sat W w' (sep (osl E 1 a' (n + s.size) c' (xs ++ s.data.toList.map bv)) A) := by
  have hsl : (s.data.toList.map bv).length = s.size := by simp
  have hmx : n + s.size ≤ maxLen := by unfold maxLen; omega
  rcases h.osl_cases with ⟨rfl, rfl, rfl, rfl, h0⟩ | ⟨g, cur, rfl, hlen, hnc, hcm, hcs, htake, hS⟩
  · by_cases hm : s.size = 0
    · have hn : s.data.toList.map bv = [] := List.eq_nil_of_length_eq_zero (by rw [hsl]; exact hm)
      refine ⟨none, 0, w, ?_, by rw [hm, hn]; exact h⟩
      have hf := Lib.run_firstCells_string (P := P) w 1 s
      rw [hm] at hf
      simp [Builtin.append_, run_underlying ht, run_underlying hu, Go.sizeOf, typeInfo, hi, hk, Builtin.lenOf, hm, hf]
    · have hr := run_append_nil_string (P := P) w t u ty E i (.int .u8 0) ht hu hi hz s (by omega) (by omega) (by rw [hb]; omega)
      have e1 : (s.data.map fun b => Value.int .u8 b.toNat) = (s.data.toList.map bv).toArray := by
        apply Array.ext'
        simp [bv, Function.comp_def]
      rw [e1] at hr
      have hcap := grownCap_ok w s.size 0 E (by omega)
      refine ⟨_, _, _, by rw [Nat.zero_add]; exact hr, ?_⟩
      refine ((h0.drew.alloc _).osl_mk (0 + s.size) _ 1 ([] ++ s.data.toList.map bv) (by simp) (by omega) hcap.2 ?_ ?_)
      · have hz1 : (Value.int IntKind.u8 0).cells.size = 1 := rfl
        simp only [Array.size_append, List.size_toArray, size_zeroCells', hz1, hsl]
        omega
      · simp
  · simp only [Nat.mul_one] at hlen hcs htake
    by_cases hroom : n + s.size ≤ c
    · have hr := Lib.run_append_room_string (P := P) w t u ty E i ht hu hi hk g n c cur hS.blk_heap s hroom (by omega)
      refine ⟨_, _, _, hr, (hS.setRow _).osl_mk (n + s.size) c 1 _ (by rw [List.length_append, hlen, hsl]; omega) hroom hcm ?_ ?_⟩
      · simp only [strCells_bv, List.size_toArray, List.length_append, List.length_take, List.length_drop, Array.length_toList, hsl]
        omega
      · rw [strCells_bv, htake]
        have hl2 : (xs ++ s.data.toList.map bv).length = (n + s.size) * 1 := by rw [List.length_append, hlen, hsl]; omega
        rw [← hl2]
        exact List.take_left
    · have hr := Lib.run_append_grow_string (P := P) w t u ty E i (.int .u8 0) ht hu hi hz ⟨g, 0, none⟩ n c xs (by rw [hk]; omega) (fun j u hu => by
          obtain ⟨g', e, hc⟩ := h.osl_at (fun e => by rw [e] at hu; simp at hu)
          cases e
          have := hc j u hu
          unfold Addr.add
          split
          · rename_i e; subst e; exact this
          · simpa using this) s (by omega) (by omega) (by rw [hb]; exact growslice_fits (by omega) (by omega))
      have hcap := grownCap_ok w (n + s.size) c E hmx
      refine ⟨_, _, _, hr, ((hS.forget.drew).alloc _).osl_mk (n + s.size) _ 1 _ (by rw [List.length_append, hlen, hsl]; omega) hcap.1 hcap.2 ?_ ?_⟩
      · have hz1 : (Value.int IntKind.u8 0).cells.size = 1 := rfl
        simp only [strCells_bv, Array.size_append, List.size_toArray, size_zeroCells', hz1, hsl, hlen]
        omega
      · have hl2 : (xs ++ s.data.toList.map bv).length = (n + s.size) * 1 := by rw [List.length_append, hlen, hsl]; omega
        rw [← hl2, strCells_bv]
        simp only [Array.toList_append, List.append_assoc]
        rw [← List.append_assoc]
        exact List.take_left
theorem wpl_append_osl_str {ops : Array Oper} {rest : List Oper} {o : Oper} {ac : Act} {Q : Exit → Act → World → Prop} (hgd : o.guard = none) (sl y : Operand) (t u : TypeId)
    (ho : o.op = .call { callee := .builtin .append, args := #[sl, y], argTypes := #[t, u] })
    (E : Nat) (ht : P.underlying t = some (.slice E)) (hu : P.underlying u = some .string) (hi : (P.info? E).map (fun i => (i.zero, i.size, i.bytes)) = some (some (.int .u8 0), 1, 1))
    {a : Option Addr} {n c : Nat} {xs : List Value} (hs : ac.eval sl = .slice a n c) (h : Sat W w (sep (osl E 1 a n c xs) A))
    (s : ByteArray) (hy : ac.eval y = .string s) (h63 : n + s.size ≤ 140737488355328)
    (hK : ∀ a' c' w', Sat W w' (sep (osl E 1 a' (n + s.size) c' (xs ++ s.data.toList.map bv)) A) → wpList P ops Q rest (ac.put o.dst (.slice a' (n + s.size) c')) w') : wpList P ops Q (o :: rest) ac w := by
  obtain ⟨i, hi1, hi2, hi3, hi4⟩ := info_parts hi
  obtain ⟨a', c', w', hr, hS⟩ := run_append_osl_str t u o.type E i ht hu hi1 hi2 hi3 hi4 h s h63
  refine wpList_plain hgd fun _ hk => wp_of_run ?_ (hk _ _ (hK _ _ _ hS))
  simp only [execOp, ho, resolve, invoke, builtin]
  simp [hs, hy, hr]
end
end PA
/- Slices of elements of several cells; bytes from a literal; Around, SameBytes. -/
namespace PA
open Go Go.RowKit
section
variable {W w : World} {A : Assn}
theorem Sat.slice_open {α : Type} {R : Rep α} {k : Nat} {v : Value} {xs : List α} (h : Sat W w (sep ((R.slice k).is [v] xs) A)) :
    ∃ a c cells, v = .slice a xs.length c ∧ Swf a xs.length c ∧ cells.length = xs.length * k ∧ Sat W w (sep (rsl a cells) (sep ((R.rows k).is cells xs) (sep ((R.slice k).is [v] xs) A))) := by
  have h0 := h
  obtain ⟨h1, h2, h3, I, m, h4, h5, h6, x, y, d, rfl, ⟨rfl, a, c, cells, e1, e2, e3, e4⟩, hA⟩ := h
  cases e1
  refine ⟨a, c, cells, rfl, e2, ?_, h1, h2, h3, I, _, h4, h5, h6, Mem.no, _, fun _ => .inl rfl, (Mem.un_no _).symm, ⟨rfl, e3⟩, Mem.no, _, fun _ => .inl rfl, (Mem.un_no _).symm, ⟨rfl, e4⟩, Mem.no, y, d, rfl, ⟨rfl, a, c, cells, rfl, e2, e3, e4⟩, hA⟩
  obtain ⟨css, rfl, hall⟩ := e4
  clear h0 e3
  have : ∀ (css : List (List Value)) (xs : List α), All2 (fun c x => R.rel I c x ∧ c.length = k) css xs → css.flatten.length = xs.length * k := by
    intro css
    induction css with
    | nil => intro xs h; cases xs with
      | nil => simp
      | cons _ _ => exact h.elim
    | cons c css ih => intro xs h; cases xs with
      | nil => exact h.elim
      | cons x xs => simp [ih xs h.2, h.1.2, Nat.add_mul, Nat.add_comm]
  exact this _ _ hall
theorem Sat.slice_mk {α : Type} {R : Rep α} {k : Nat} {a : Option Addr} {c : Nat} {cells : List Value} {xs : List α} (h : Sat W w (sep (rsl a cells) (sep ((R.rows k).is cells xs) A))) (hw : Swf a xs.length c) : Sat W w (sep ((R.slice k).is [.slice a xs.length c] xs) A) := by
  obtain ⟨h1, h2, h3, I, m, h4, h5, h6, x, y, d, rfl, ⟨rfl, e1⟩, x2, y2, d2, rfl, ⟨rfl, e2⟩, hA⟩ := h
  exact ⟨h1, h2, h3, I, _, h4, h5, by simpa only [Mem.un_no] using h6, Mem.no, y2, fun _ => .inl rfl, (Mem.un_no _).symm, ⟨rfl, a, c, cells, rfl, hw, e1, e2⟩, hA⟩
/-- An owned row is given up. -/
theorem Sat.slice_of_osl {α : Type} {R : Rep α} {E k : Nat} {a : Option Addr} {n c : Nat} {cells : List Value} {xs : List α} (h : Sat W w (sep (osl E k a n c cells) (sep ((R.rows k).is cells xs) A))) (hn : n = xs.length) : Sat W w (sep ((R.slice k).is [.slice a n c] xs) A) := by
  subst hn
  exact h.osl_settle.slice_mk h.swf_of_osl
/-- One element of such a slice: where its cells lie. -/
theorem Sat.slice_get {α : Type} {R : Rep α} {k : Nat} {a : Option Addr} {n c : Nat} {xs : List α} (h : Sat W w (sep ((R.slice k).is [.slice a n c] xs) A)) (i : Nat) (hi : i < xs.length) (hk : 0 < k) :
    ∃ b o cv, a = some ⟨b, o, none⟩ ∧ cv.length = k ∧ (∀ j u, cv[j]? = some u → w.cell? ⟨b, o + (i * k + j), none⟩ = some u) ∧ Sat W w (sep (R.is cv xs[i]) (sep ((R.slice k).is [.slice a n c] xs) A)) := by
  obtain ⟨a', c', cells, e, hw, hl, h2⟩ := h.slice_open
  cases e
  have hne : cells ≠ [] := by intro e; rw [e] at hl; have : 0 < xs.length * k := Nat.mul_pos (by omega) hk; simp at hl; omega
  obtain ⟨b, o, rfl, hc⟩ := h2.rsl_at hne
  obtain ⟨cv, hcv, hget, h3⟩ := h2.p1.rows_get i hi
  refine ⟨b, o, cv, rfl, hcv, fun j u hu => hc _ _ ?_, h3.p1.tail.p1.tail⟩
  have hj : j < k := by rw [← hcv]; exact (List.getElem?_eq_some_iff.1 hu).1
  rw [hget j hj, hu]
theorem Sat.bytes_of_alloc (h : Sat W w A) (bs : List UInt8) (t : TypeId) (f : Nat × Nat) (hb : bs.length ≤ maxLen) :
    Sat W (w.alloc (.cells (bs.map bv).toArray t f)) (sep (rBytes.is [.slice (some ⟨w.heap.size, 0, none⟩) bs.length bs.length] bs) A) := by
  have h1 := (h.alloc (.cells (bs.map bv).toArray t f)).settle
  refine Sat.bytes_mk (h1.wk ?_) ⟨Nat.le_refl _, hb, fun h => (by cases h)⟩
  rintro I m ⟨x, y, d, e, ⟨rfl, hI⟩, hA⟩
  exact ⟨Mem.no, y, d, e, ⟨rfl, .inr ⟨w.heap.size, 0, _, t, f, rfl, hI, fun i u hu => by simpa using hu⟩⟩, hA⟩
theorem madeCells_one (z : Value) (n : Nat) : (madeCells #[z] n).toList = List.replicate n z := by
  apply List.ext_getElem
  · simp [madeCells]
  · intro i h1 h2
    simp [madeCells, Nat.mod_one]
/-- 'make([]byte, n)'. -/
theorem make_bytes {P : Program} {t e : TypeId} (ht : P.underlying t = some (.slice e)) (hi : (P.info? e).map (fun i => (i.zero, i.size, i.bytes)) = some (some (.int .u8 0), 1, 1)) (h : Sat W w A) (n : Nat) (hn : (n : Int) ≤ 281474976710656) :
    ∃ w', (Instr.makeSlice t (.int .i64 n) (.int .i64 n)).run P w = .ok (.slice (some ⟨w.heap.size, 0, none⟩) n n) w' ∧ Sat W w' (sep (osl e 1 (some ⟨w.heap.size, 0, none⟩) n n ((List.replicate n (0 : UInt8)).map bv)) A) := by
  obtain ⟨i, h1, h2, h3, h4⟩ := info_parts hi
  have hr := run_make (P := P) w t e i (.int .u8 0) ht h1 h2 .i64 .i64 n n (by omega) (Int.le_refl _) (by rw [h4]; omega) (by omega)
  refine ⟨_, by simpa using hr, ?_⟩
  have hz : (Value.int .u8 0).cells = #[Value.int .u8 0] := rfl
  rw [h3, hz]
  refine (h.alloc _).osl_mk n n 1 _ (by simp) (Nat.le_refl _) (by unfold maxLen; omega) (by rw [← Array.length_toList, madeCells_one]; simp) ?_
  rw [madeCells_one]
  simp [bv]
theorem foldl_push_bytes : ∀ (bs : List UInt8) (s : ByteArray), (bs.map fun b => (b.toNat : Int)).foldl (fun r n => r.push (UInt8.ofNat n.toNat)) s = ⟨s.data ++ bs.toArray⟩
  | [], s => by simp
  | b :: bs, s => by
    rw [List.map_cons, List.foldl_cons, foldl_push_bytes bs]
    congr 1
    simp [ByteArray.push]
/-- 'string(b)'. -/
theorem run_string_bytes {P : Program} {src dst e : TypeId} (hs : P.underlying src = some (.slice e)) (he : P.underlying e = some (.int .u8)) (hd : P.underlying dst = some .string)
    {v : Value} {bs : List UInt8} (h : Sat W w (sep (rBytes.is [v] bs) A)) : (convert src dst v).run P w = .ok (.string ⟨bs.toArray⟩) w := by
  obtain ⟨a, c, rfl, hw, hx⟩ := h.bytes_open
  rw [run_convert_bytes_string w src dst e a _ c hs he hd]
  cases a with
  | none =>
    have : bs = [] := by have := hw.2.2 rfl; have := hw.1; exact List.eq_nil_of_length_eq_zero (by omega)
    subst this
    simp [Conv.bytesToString]; rfl
  | some a =>
    have hl : (loadCells a bs.length).run P w = .ok ((bs.map fun b => (b.toNat : Int)).map (Value.int .u8)).toArray w := by
      have := run_loadCells_list (P := P) w a (bs.map bv) hx.rsl_src
      rw [List.length_map] at this
      rw [this]; simp [bv, Function.comp_def]
    rw [run_bytesToString w a bs.length c _ hl, foldl_push_bytes]
    simp
end
end PA
namespace Go.Proofs.YtcmjbjlliehdiaaDoor
open Go.RowKit PA
theorem i64_of_wf {a : Int} (h : (Lit.int .i64 a).wf = true) : -9223372036854775808 ≤ a ∧ a ≤ 9223372036854775807 := bounds_i64 h
def aroundI (n m : Int) : Int := (if n < 0 then -(n + 1) else n) % m
theorem aroundI_lt (n m : Int) (h : 0 < m) : 0 ≤ aroundI n m ∧ aroundI n m < m := by
  unfold aroundI; exact ⟨Int.emod_nonneg _ (by omega), Int.emod_lt_of_pos _ h⟩
theorem ret_i {a b : Int} (h : a = b) : Ending.returned (.int .i64 a) = .returned (.int .i64 b) := by rw [h]
theorem ret_b {a b : Bool} (h : a = b) : Ending.returned (.bool a) = .returned (.bool b) := by rw [h]
set_option maxHeartbeats 400000 in
theorem around_spec (n m : Int) (w : World) (hn : -9223372036854775808 ≤ n) (hn2 : n ≤ 9223372036854775807) (hm : 1 ≤ m) (hm2 : m ≤ 9223372036854775807) :
    Calls Tryd.prog 37 #[.int .i64 n, .int .i64 m] w fun e w' => e = .returned (.int .i64 (aroundI n m)) ∧ w = w' := by
  by_cases h : n < 0
  · go_enter Tryd.func37, Tryd.ntmps37
    go_wp2
    go_ret
    exact ⟨ret_i (by unfold aroundI; rw [if_pos h, ← Int.neg_tmod, Int.tmod_eq_emod_of_nonneg (by omega)]), rfl⟩
  · go_enter Tryd.func37, Tryd.ntmps37
    go_wp2
    go_ret
    exact ⟨ret_i (by unfold aroundI; rw [if_neg (by omega)]), rfl⟩
theorem bv_cell {bs : List UInt8} {i : Nat} (h : i < bs.length) : (bs.map bv)[i]? = some (.int .u8 (bs[i].toNat : Int)) := by
  rw [List.getElem?_map, List.getElem?_eq_getElem h]; rfl
set_option maxHeartbeats 1000000 in
theorem sameBytes_spec {W w : World} {A : Assn} (v u : Value) (x y : List UInt8) (h : Sat W w (sep (rBytes.is [v] x) (sep (rBytes.is [u] y) A))) :
    Calls Tryd.prog 34 #[v, u] w fun e w' => e = .returned (.bool (decide (x = y))) ∧ Sat W w' (sep (rBytes.is [v] x) (sep (rBytes.is [u] y) A)) := by
  obtain ⟨a, c, rfl, hw1, hx⟩ := h.bytes_open
  obtain ⟨b', d, rfl, hw2, hy⟩ := h.p1.bytes_open
  have hl1 : (x.length : Int) ≤ 9223372036854775807 := by have := hw1.1; have := hw1.2.1; unfold maxLen at this; omega
  have hl2 : (y.length : Int) ≤ 9223372036854775807 := by have := hw2.1; have := hw2.2.1; unfold maxLen at this; omega
  obtain ⟨nx, hnx⟩ : ∃ nx, nx = x.length := ⟨_, rfl⟩
  obtain ⟨ny, hny⟩ : ∃ ny, ny = y.length := ⟨_, rfl⟩
  rw [← hnx] at hl1 hw1
  rw [← hny] at hl2 hw2
  have HX := Lib.hid hx
  have HY := Lib.hid hy
  have HNX := Lib.hid hnx
  have HNY := Lib.hid hny
  rw [← hnx, ← hny] at h
  have H := Lib.hid h
  rw [← hnx, ← hny]
  clear h hx hy hw1 hw2
  by_cases hne : nx = ny
  · subst hne
    clear hnx hny
    go_enter Tryd.func34, Tryd.ntmps34
    go_wp2
    go_loopw [5] (fun i wr => ∃ k : Nat, k ≤ nx ∧ i = .int .i64 k ∧ x.take k = y.take k ∧ ∃ n, wr = w.drewN n) (fun i _ => nx - (intOf i).toNat)
    case atStart => exact ⟨0, Nat.zero_le _, rfl, rfl, 0, rfl⟩
    case round =>
      obtain ⟨k, hk, rfl, htk, nd, rfl⟩ := hrel
      have HT := Lib.hid htk
      clear htk
      by_cases hlt : k < nx
      · have k1 : k < x.length := by have := HNX.out; omega
        have k2 : k < y.length := by have := HNY.out; omega
        obtain ⟨b1, o1, rfl, hc1⟩ := HX.out.rsl_at (by intro e; have := congrArg List.length e; rw [List.length_map, List.length_nil] at this; omega)
        obtain ⟨b2, o2, rfl, hc2⟩ := HY.out.rsl_at (by intro e; have := congrArg List.length e; rw [List.length_map, List.length_nil] at this; omega)
        have g1 := hc1 k _ (bv_cell k1)
        have g2 := hc2 k _ (bv_cell k2)
        clear hc1 hc2
        by_cases hxy : x[k] = y[k]
        · have b1 : ((x[k].toNat : Int) != (y[k].toNat : Int)) = false := by rw [hxy]; simp
          have HXY := Lib.hid hxy
          clear hxy
          go_wp2_with fail
          refine wp_region_canon rfl (fun _ => True) [(0, .p), (1, .p), (2, .p), (3, .t), (4, .p), (5, .p), (6, .p), (7, .t), (8, .p)] (by kernel_rfl) ?_
          have hS0 : True := trivial
          (repeat (first | (refine C_p (v := ?_) rfl rfl (fun w' => ?_) ?_; rotate_left; (go_simp; with_reducible rfl); simp only [Act.put, List.setIfInBounds_toArray, List.set_cons_zero, List.set_cons_succ]) | (refine C_s (v := ?_) rfl rfl hS0 (fun w' hS => ?_) ?_; rotate_left; ((try dsimp only at hS); go_simp; with_reducible rfl); simp only [Act.put, List.setIfInBounds_toArray, List.set_cons_zero, List.set_cons_succ]) | (refine C_t (v := ?_) rfl rfl ?_ ?_; rotate_left; (go_simp; with_reducible rfl); simp only [Act.put, List.setIfInBounds_toArray, List.set_cons_zero, List.set_cons_succ]) | (refine C_po rfl rfl ?_; simp only [Act.put, List.setIfInBounds_toArray, List.set_cons_zero, List.set_cons_succ]) | (refine C_so rfl rfl hS0 ?_; simp only [Act.put, List.setIfInBounds_toArray, List.set_cons_zero, List.set_cons_succ]) | (refine C_to rfl rfl ?_; simp only [Act.put, List.setIfInBounds_toArray, List.set_cons_zero, List.set_cons_succ])))
          refine C_nil ?_
          go_wp2
          go_roundw
          case rel => exact ⟨k + 1, by omega, by go_num, by rw [List.take_succ_eq_append_getElem k1, List.take_succ_eq_append_getElem k2, HT.out, HXY.out], nd + 1, rfl⟩
          case measure => simp [intOf]; omega
        · have b1 : ((x[k].toNat : Int) != (y[k].toNat : Int)) = true := by simp; intro e; exact hxy (UInt8.toNat_inj.1 (by exact_mod_cast e))
          have HXY := Lib.hid hxy
          clear hxy
          go_wp2_with fail
          refine wp_region_canon rfl (fun _ => True) [(0, .p), (1, .p), (2, .p), (3, .t), (4, .p), (5, .p), (6, .p), (7, .t), (8, .p)] (by kernel_rfl) ?_
          have hS0 : True := trivial
          (repeat (first | (refine C_p (v := ?_) rfl rfl (fun w' => ?_) ?_; rotate_left; (go_simp; with_reducible rfl); simp only [Act.put, List.setIfInBounds_toArray, List.set_cons_zero, List.set_cons_succ]) | (refine C_s (v := ?_) rfl rfl hS0 (fun w' hS => ?_) ?_; rotate_left; ((try dsimp only at hS); go_simp; with_reducible rfl); simp only [Act.put, List.setIfInBounds_toArray, List.set_cons_zero, List.set_cons_succ]) | (refine C_t (v := ?_) rfl rfl ?_ ?_; rotate_left; (go_simp; with_reducible rfl); simp only [Act.put, List.setIfInBounds_toArray, List.set_cons_zero, List.set_cons_succ]) | (refine C_po rfl rfl ?_; simp only [Act.put, List.setIfInBounds_toArray, List.set_cons_zero, List.set_cons_succ]) | (refine C_so rfl rfl hS0 ?_; simp only [Act.put, List.setIfInBounds_toArray, List.set_cons_zero, List.set_cons_succ]) | (refine C_to rfl rfl ?_; simp only [Act.put, List.setIfInBounds_toArray, List.set_cons_zero, List.set_cons_succ])))
          refine C_nil ?_
          go_wp2
          go_ret
          refine ⟨ret_b (Eq.symm (decide_eq_false (fun e => HXY.out (by subst e; rfl)))), H.out.alike rfl rfl rfl rfl⟩
      · go_wp2
        go_ret
        have hkn : k = nx := by omega
        refine ⟨ret_b (Eq.symm (decide_eq_true ?_)), H.out.alike rfl rfl rfl rfl⟩
        have := HT.out
        rw [hkn] at this
        rw [List.take_of_length_le (by have := HNX.out; omega), List.take_of_length_le (by have := HNY.out; omega)] at this
        exact this
  · have b1 : ((nx : Int) != (ny : Int)) = true := by simp; omega
    go_enter Tryd.func34, Tryd.ntmps34
    go_wp2
    go_ret
    refine ⟨ret_b (Eq.symm (decide_eq_false (fun e => hne ?_))), H.out⟩
    rw [HNX.out, HNY.out, e]
end Go.Proofs.YtcmjbjlliehdiaaDoor
/- slices.Clone of bytes. -/
namespace Go.Proofs.YtcmjbjlliehdiaaDoor
open Go.RowKit PA
theorem infoU8c : (Tryd.prog.info? 5).map (fun i => (i.zero, i.size, i.bytes)) = some (some (.int .u8 0), 1, 1) := by kernel_rfl
theorem clone_any {W w : World} {A : Assn} (a : Option Addr) (n c : Nat) (xs : List Value) (h : Sat W w A) (hsrc : ∀ b, a = some b → ∀ j u, xs[j]? = some u → w.cell? (b.add j) = some u) (hl : xs.length = n) (hw : Swf a n c) (h1 : ∀ u ∈ xs, u.oneCell' = true) (hn : n ≤ 140737488355328) :
    Calls Tryd.prog 48 #[.slice a n c] w fun e w' => ∃ a' c', e = .returned (.slice a' n c') ∧ Sat W w' (sep (osl 5 1 a' n c' xs) A) := by
  obtain ⟨hw1, hw2, hw3⟩ := hw
  have hq := fun w a n c => Lib.run_eql_slice_nil (P := Tryd.prog) w 32 5 a n c 0 0 Tryd.underlying32
  cases a with
  | none =>
    obtain rfl := hw3 rfl
    obtain rfl : n = 0 := by omega
    obtain rfl : xs = [] := List.eq_nil_of_length_eq_zero hl
    clear hsrc
    go_enter Tryd.func48, Tryd.ntmps48
    go_wp2
    go_ret
    exact ⟨_, _, rfl, h.osl_nil _ _⟩
  | some b =>
    have hS := (h.alloc (.cells #[] 5)).osl_mk 0 0 1 [] rfl (by omega) (by unfold maxLen; omega) rfl rfl
    have hc2 := Lib.hid (old_src (hsrc b rfl) (.cells #[] 5))
    have HN := Lib.hid hn
    have HW2 := Lib.hid hw2
    have HW1 := Lib.hid hw1
    clear hsrc hn hw1 hw2 hw3
    go_enter Tryd.func48, Tryd.ntmps48
    go_wp2_with (at_builtin; refine wpl_append_osl rfl _ _ 32 rfl 5 1 1 (.int .u8 0) Tryd.underlying32 infoU8c rfl rfl hS rfl xs (by omega) (by simp) (by intro b' hb; cases hb; exact hc2.out) h1 (by have := HN.out; omega) (by have := HN.out; unfold maxLen; omega) ?_)
    intro a' c' w' hS'
    go_wp2
    go_ret
    refine ⟨a', c', ?_, ?_⟩
    · simp
    · simpa using hS'
/-- What is owned, as an append's source. -/
theorem _root_.PA.Sat.osl_src {W w : World} {A : Assn} {E : Nat} {a : Option Addr} {n c : Nat} {xs : List Value} (h : Sat W w (sep (osl E 1 a n c xs) A)) : ∀ b, a = some b → ∀ j u, xs[j]? = some u → w.cell? (b.add j) = some u := by
  intro b hb j u hu
  obtain ⟨g, e, hc⟩ := h.osl_at (fun e => by rw [e] at hu; simp at hu)
  rw [hb] at e; cases e
  have := hc j u hu
  unfold Addr.add
  split
  · rename_i e; subst e; exact this
  · simpa using this
theorem rel_src' {I : Mem} {a : Option Addr} {n c : Nat} {l : List UInt8} (h : rBytes.rel I [.slice a n c] l) :
    l.length = n ∧ Swf a n c ∧ ∀ w, Ext I w → ∀ b, a = some b → ∀ j u, (l.map bv)[j]? = some u → w.cell? (b.add j) = some u := by
  obtain ⟨a', c', e, hw, hc⟩ := bytes_rel.1 h
  simp only [Value.slice.injEq] at e
  obtain ⟨rfl, rfl, rfl⟩ := e
  exact ⟨rfl, hw, fun w he => src_ext hc he⟩
end Go.Proofs.YtcmjbjlliehdiaaDoor
