/- Slices of elements of several cells; bytes from a literal; Around, SameBytes. -/
import Derived.Test.YtcmjbjlliehdiaaDoorRows
import Derived.Test.YtcmjbjlliehdiaaDoorGAuthmapChecksSVal
import Derived.BigQuiet
import Derived.Deep.QuietTactic
import Derived.LoopTactic
import Derived.OpenShut
import Derived.Laws.BytesString
import Derived.Test.YtcmjbjlliehdiaaDoorGAuthmapChecks10
import Derived.Lib.SliceRun
namespace PA
open Go Go.RowKit
section
variable {W w : World} {A : Assn}
theorem Sat.slice_open {α : Type} {R : Rep α} {k : Nat} {v : Value} {xs : List α} (h : Sat W w (sep ((R.slice k).is [v] xs) A)) :
    ∃ a c cells, v = .slice a xs.length c ∧ Swf a xs.length c ∧ cells.length = xs.length * k ∧ Sat W w (sep (rsl a cells) (sep ((R.rows k).is cells xs) (sep ((R.slice k).is [v] xs) A))) := by
  have h0 := h
  obtain ⟨h1, h2, h3, I, m, h4, h5, h6, x, y, d, rfl, ⟨rfl, a, c, cells, e1, e2, e3, e4⟩, hA⟩ := h
  cases e1
  refine ⟨a, c, cells, rfl, e2, ?_, h1, h2, h3, I, _, h4, h5, h6, Mem.no, _, fun _ => .inl rfl, (Mem.un_no _).symm, ⟨rfl, e3⟩, Mem.no, _, fun _ => .inl rfl, (Mem.un_no _).symm, ⟨rfl, e4⟩, Mem.no, y, d, rfl, ⟨rfl, a, c, cells, rfl, e2, e3, e4⟩, hA⟩
  obtain ⟨css, rfl, hall⟩ := e4
  clear h0 e3
  have : ∀ (css : List (List Value)) (xs : List α), All2 (fun c x => R.rel I c x ∧ c.length = k) css xs → css.flatten.length = xs.length * k := by
    intro css
    induction css with
    | nil => intro xs h; cases xs with
      | nil => simp
      | cons _ _ => exact h.elim
    | cons c css ih => intro xs h; cases xs with
      | nil => exact h.elim
      | cons x xs => simp [ih xs h.2, h.1.2, Nat.add_mul, Nat.add_comm]
  exact this _ _ hall
theorem Sat.slice_mk {α : Type} {R : Rep α} {k : Nat} {a : Option Addr} {c : Nat} {cells : List Value} {xs : List α} (h : Sat W w (sep (rsl a cells) (sep ((R.rows k).is cells xs) A))) (hw : Swf a xs.length c) : Sat W w (sep ((R.slice k).is [.slice a xs.length c] xs) A) := by
  obtain ⟨h1, h2, h3, I, m, h4, h5, h6, x, y, d, rfl, ⟨rfl, e1⟩, x2, y2, d2, rfl, ⟨rfl, e2⟩, hA⟩ := h
  exact ⟨h1, h2, h3, I, _, h4, h5, by simpa only [Mem.un_no] using h6, Mem.no, y2, fun _ => .inl rfl, (Mem.un_no _).symm, ⟨rfl, a, c, cells, rfl, hw, e1, e2⟩, hA⟩
/-- An owned row is given up. -/
theorem Sat.slice_of_osl {α : Type} {R : Rep α} {E k : Nat} {a : Option Addr} {n c : Nat} {cells : List Value} {xs : List α} (h : Sat W w (sep (osl E k a n c cells) (sep ((R.rows k).is cells xs) A))) (hn : n = xs.length) : Sat W w (sep ((R.slice k).is [.slice a n c] xs) A) := by
  subst hn
  exact h.osl_settle.slice_mk h.swf_of_osl
/-- One element of such a slice: where its cells lie. -/
theorem Sat.slice_get {α : Type} {R : Rep α} {k : Nat} {a : Option Addr} {n c : Nat} {xs : List α} (h : Sat W w (sep ((R.slice k).is [.slice a n c] xs) A)) (i : Nat) (hi : i < xs.length) (hk : 0 < k) :
    ∃ b o cv, a = some ⟨b, o, none⟩ ∧ cv.length = k ∧ (∀ j u, cv[j]? = some u → w.cell? ⟨b, o + (i * k + j), none⟩ = some u) ∧ Sat W w (sep (R.is cv xs[i]) (sep ((R.slice k).is [.slice a n c] xs) A)) := by
  obtain ⟨a', c', cells, e, hw, hl, h2⟩ := h.slice_open
  cases e
  have hne : cells ≠ [] := by intro e; rw [e] at hl; have : 0 < xs.length * k := Nat.mul_pos (by omega) hk; simp at hl; omega
  obtain ⟨b, o, rfl, hc⟩ := h2.rsl_at hne
  obtain ⟨cv, hcv, hget, h3⟩ := h2.p1.rows_get i hi
  refine ⟨b, o, cv, rfl, hcv, fun j u hu => hc _ _ ?_, h3.p1.tail.p1.tail⟩
  have hj : j < k := by rw [← hcv]; exact (List.getElem?_eq_some_iff.1 hu).1
  rw [hget j hj, hu]
theorem Sat.bytes_of_alloc (h : Sat W w A) (bs : List UInt8) (t : TypeId) (f : Nat × Nat) (hb : bs.length ≤ maxLen) :
    Sat W (w.alloc (.cells (bs.map bv).toArray t f)) (sep (rBytes.is [.slice (some ⟨w.heap.size, 0, none⟩) bs.length bs.length] bs) A) := by
  have h1 := (h.alloc (.cells (bs.map bv).toArray t f)).settle
  refine Sat.bytes_mk (h1.wk ?_) ⟨Nat.le_refl _, hb, fun h => (by cases h)⟩
  rintro I m ⟨x, y, d, e, ⟨rfl, hI⟩, hA⟩
  exact ⟨Mem.no, y, d, e, ⟨rfl, .inr ⟨w.heap.size, 0, _, t, f, rfl, hI, fun i u hu => by simpa using hu⟩⟩, hA⟩
theorem madeCells_one (z : Value) (n : Nat) : (madeCells #[z] n).toList = List.replicate n z := by
  apply List.ext_getElem
  · simp [madeCells]
  · intro i h1 h2
    simp [madeCells, Nat.mod_one]
/-- 'make([]byte, n)'. -/
theorem make_bytes {P : Program} {t e : TypeId} (ht : P.underlying t = some (.slice e)) (hi : (P.info? e).map (fun i => (i.zero, i.size, i.bytes)) = some (some (.int .u8 0), 1, 1)) (h : Sat W w A) (n : Nat) (hn : (n : Int) ≤ 281474976710656) :
    ∃ w', (Instr.makeSlice t (.int .i64 n) (.int .i64 n)).run P w = .ok (.slice (some ⟨w.heap.size, 0, none⟩) n n) w' ∧ Sat W w' (sep (osl e 1 (some ⟨w.heap.size, 0, none⟩) n n ((List.replicate n (0 : UInt8)).map bv)) A) := by
  obtain ⟨i, h1, h2, h3, h4⟩ := info_parts hi
  have hr := run_make (P := P) w t e i (.int .u8 0) ht h1 h2 .i64 .i64 n n (by omega) (Int.le_refl _) (by rw [h4]; omega) (by omega)
  refine ⟨_, by simpa using hr, ?_⟩
  have hz : (Value.int .u8 0).cells = #[Value.int .u8 0] := rfl
  rw [h3, hz]
  refine (h.alloc _).osl_mk n n 1 _ (by simp) (Nat.le_refl _) (by unfold maxLen; omega) (by rw [← Array.length_toList, madeCells_one]; simp) ?_
  rw [madeCells_one]
  simp [bv]
theorem foldl_push_bytes : ∀ (bs : List UInt8) (s : ByteArray), (bs.map fun b => (b.toNat : Int)).foldl (fun r n => r.push (UInt8.ofNat n.toNat)) s = ⟨s.data ++ bs.toArray⟩
  | [], s => by simp
  | b :: bs, s => by
    rw [List.map_cons, List.foldl_cons, foldl_push_bytes bs]
    congr 1
    simp [ByteArray.push]
/-- 'string(b)'. -/
theorem run_string_bytes {P : Program} {src dst e : TypeId} (hs : P.underlying src = some (.slice e)) (he : P.underlying e = some (.int .u8)) (hd : P.underlying dst = some .string)
    {v : Value} {bs : List UInt8} (h : Sat W w (sep (rBytes.is [v] bs) A)) : (convert src dst v).run P w = .ok (.string ⟨bs.toArray⟩) w := by
  obtain ⟨a, c, rfl, hw, hx⟩ := h.bytes_open
  rw [run_convert_bytes_string w src dst e a _ c hs he hd]
  cases a with
  | none =>
    have : bs = [] := by have := hw.2.2 rfl; have := hw.1; exact List.eq_nil_of_length_eq_zero (by omega)
    subst this
    simp [Conv.bytesToString]; rfl
  | some a =>
    have hl : (loadCells a bs.length).run P w = .ok ((bs.map fun b => (b.toNat : Int)).map (Value.int .u8)).toArray w := by
      have := run_loadCells_list (P := P) w a (bs.map bv) hx.rsl_src
      rw [List.length_map] at this
      rw [this]; simp [bv, Function.comp_def]
    rw [run_bytesToString w a bs.length c _ hl, foldl_push_bytes]
    simp
end
end PA
namespace Go.Proofs.YtcmjbjlliehdiaaDoor
open Go.RowKit PA
theorem i64_of_wf {a : Int} (h : (Lit.int .i64 a).wf = true) : -9223372036854775808 ≤ a ∧ a ≤ 9223372036854775807 := bounds_i64 h
def aroundI (n m : Int) : Int := (if n < 0 then -(n + 1) else n) % m
theorem aroundI_lt (n m : Int) (h : 0 < m) : 0 ≤ aroundI n m ∧ aroundI n m < m := by
  unfold aroundI; exact ⟨Int.emod_nonneg _ (by omega), Int.emod_lt_of_pos _ h⟩
theorem ret_i {a b : Int} (h : a = b) : Ending.returned (.int .i64 a) = .returned (.int .i64 b) := by rw [h]
theorem ret_b {a b : Bool} (h : a = b) : Ending.returned (.bool a) = .returned (.bool b) := by rw [h]
set_option maxHeartbeats 400000 in
theorem around_spec (n m : Int) (w : World) (hn : -9223372036854775808 ≤ n) (hn2 : n ≤ 9223372036854775807) (hm : 1 ≤ m) (hm2 : m ≤ 9223372036854775807) :
    Calls Tryd.prog 37 #[.int .i64 n, .int .i64 m] w fun e w' => e = .returned (.int .i64 (aroundI n m)) ∧ w = w' := by
  by_cases h : n < 0
  · go_enter Tryd.func37, Tryd.ntmps37
    go_wp2
    go_ret
    exact ⟨ret_i (by unfold aroundI; rw [if_pos h, ← Int.neg_tmod, Int.tmod_eq_emod_of_nonneg (by omega)]), rfl⟩
  · go_enter Tryd.func37, Tryd.ntmps37
    go_wp2
    go_ret
    exact ⟨ret_i (by unfold aroundI; rw [if_neg (by omega)]), rfl⟩
theorem bv_cell {bs : List UInt8} {i : Nat} (h : i < bs.length) : (bs.map bv)[i]? = some (.int .u8 (bs[i].toNat : Int)) := by
  rw [List.getElem?_map, List.getElem?_eq_getElem h]; rfl
set_option maxHeartbeats 1000000 in
theorem sameBytes_spec {W w : World} {A : Assn} (v u : Value) (x y : List UInt8) (h : Sat W w (sep (rBytes.is [v] x) (sep (rBytes.is [u] y) A))) :
    Calls Tryd.prog 34 #[v, u] w fun e w' => e = .returned (.bool (decide (x = y))) ∧ Sat W w' (sep (rBytes.is [v] x) (sep (rBytes.is [u] y) A)) := by
  obtain ⟨a, c, rfl, hw1, hx⟩ := h.bytes_open
  obtain ⟨b', d, rfl, hw2, hy⟩ := h.p1.bytes_open
  have hl1 : (x.length : Int) ≤ 9223372036854775807 := by have := hw1.1; have := hw1.2.1; unfold maxLen at this; omega
  have hl2 : (y.length : Int) ≤ 9223372036854775807 := by have := hw2.1; have := hw2.2.1; unfold maxLen at this; omega
  obtain ⟨nx, hnx⟩ : ∃ nx, nx = x.length := ⟨_, rfl⟩
  obtain ⟨ny, hny⟩ : ∃ ny, ny = y.length := ⟨_, rfl⟩
  rw [← hnx] at hl1 hw1
  rw [← hny] at hl2 hw2
  have HX := Lib.hid hx
  have HY := Lib.hid hy
  have HNX := Lib.hid hnx
  have HNY := Lib.hid hny
  rw [← hnx, ← hny] at h
  have H := Lib.hid h
  rw [← hnx, ← hny]
  clear h hx hy hw1 hw2
  by_cases hne : nx = ny
  · subst hne
    clear hnx hny
    go_enter Tryd.func34, Tryd.ntmps34
    go_wp2
    go_loopw [5] (fun i wr => ∃ k : Nat, k ≤ nx ∧ i = .int .i64 k ∧ x.take k = y.take k ∧ ∃ n, wr = w.drewN n) (fun i _ => nx - (intOf i).toNat)
    case atStart => exact ⟨0, Nat.zero_le _, rfl, rfl, 0, rfl⟩
    case round =>
      obtain ⟨k, hk, rfl, htk, nd, rfl⟩ := hrel
      have HT := Lib.hid htk
      clear htk
      by_cases hlt : k < nx
      · have k1 : k < x.length := by have := HNX.out; omega
        have k2 : k < y.length := by have := HNY.out; omega
        obtain ⟨b1, o1, rfl, hc1⟩ := HX.out.rsl_at (by intro e; have := congrArg List.length e; rw [List.length_map, List.length_nil] at this; omega)
        obtain ⟨b2, o2, rfl, hc2⟩ := HY.out.rsl_at (by intro e; have := congrArg List.length e; rw [List.length_map, List.length_nil] at this; omega)
        have g1 := hc1 k _ (bv_cell k1)
        have g2 := hc2 k _ (bv_cell k2)
        clear hc1 hc2
        by_cases hxy : x[k] = y[k]
        · have b1 : ((x[k].toNat : Int) != (y[k].toNat : Int)) = false := by rw [hxy]; simp
          have HXY := Lib.hid hxy
          clear hxy
          go_wp2_with fail
          refine wp_region_canon rfl (fun _ => True) [(0, .p), (1, .p), (2, .p), (3, .t), (4, .p), (5, .p), (6, .p), (7, .t), (8, .p)] (by kernel_rfl) ?_
          have hS0 : True := trivial
          (repeat ((first | (refine C_p (v := ?_) rfl rfl (fun w' => ?_) ?_; rotate_left; (go_simp; with_reducible rfl)) | (refine C_s (v := ?_) rfl rfl hS0 (fun w' hS => ?_) ?_; rotate_left; ((try dsimp only at hS); go_simp; with_reducible rfl)) | (refine C_t (v := ?_) rfl rfl ?_ ?_; rotate_left; (go_simp; with_reducible rfl)) | (refine C_po rfl rfl ?_) | (refine C_so rfl rfl hS0 ?_) | (refine C_to rfl rfl ?_)); simp only [Act.put, List.setIfInBounds_toArray, List.set_cons_zero, List.set_cons_succ]))
          refine C_nil ?_
          go_wp2
          go_roundw
          case rel => exact ⟨k + 1, by omega, by go_num, by rw [List.take_succ_eq_append_getElem k1, List.take_succ_eq_append_getElem k2, HT.out, HXY.out], nd + 1, rfl⟩
          case measure => simp [intOf]; omega
        · have b1 : ((x[k].toNat : Int) != (y[k].toNat : Int)) = true := by simp; intro e; exact hxy (UInt8.toNat_inj.1 (by exact_mod_cast e))
          have HXY := Lib.hid hxy
          clear hxy
          go_wp2_with fail
          refine wp_region_canon rfl (fun _ => True) [(0, .p), (1, .p), (2, .p), (3, .t), (4, .p), (5, .p), (6, .p), (7, .t), (8, .p)] (by kernel_rfl) ?_
          have hS0 : True := trivial
          (repeat ((first | (refine C_p (v := ?_) rfl rfl (fun w' => ?_) ?_; rotate_left; (go_simp; with_reducible rfl)) | (refine C_s (v := ?_) rfl rfl hS0 (fun w' hS => ?_) ?_; rotate_left; ((try dsimp only at hS); go_simp; with_reducible rfl)) | (refine C_t (v := ?_) rfl rfl ?_ ?_; rotate_left; (go_simp; with_reducible rfl)) | (refine C_po rfl rfl ?_) | (refine C_so rfl rfl hS0 ?_) | (refine C_to rfl rfl ?_)); simp only [Act.put, List.setIfInBounds_toArray, List.set_cons_zero, List.set_cons_succ]))
          refine C_nil ?_
          go_wp2
          go_ret
          refine ⟨ret_b (Eq.symm (decide_eq_false (fun e => HXY.out (by subst e; rfl)))), H.out.alike rfl rfl rfl rfl⟩
      · go_wp2
        go_ret
        have hkn : k = nx := by omega
        refine ⟨ret_b (Eq.symm (decide_eq_true ?_)), H.out.alike rfl rfl rfl rfl⟩
        have := HT.out
        rw [hkn] at this
        rw [List.take_of_length_le (by have := HNX.out; omega), List.take_of_length_le (by have := HNY.out; omega)] at this
        exact this
  · have b1 : ((nx : Int) != (ny : Int)) = true := by simp; omega
    go_enter Tryd.func34, Tryd.ntmps34
    go_wp2
    go_ret
    refine ⟨ret_b (Eq.symm (decide_eq_false (fun e => hne ?_))), H.out⟩
    rw [HNX.out, HNY.out, e]
end Go.Proofs.YtcmjbjlliehdiaaDoor
/- slices.Clone of bytes. -/
namespace Go.Proofs.YtcmjbjlliehdiaaDoor
open Go.RowKit PA
theorem infoU8c : (Tryd.prog.info? 5).map (fun i => (i.zero, i.size, i.bytes)) = some (some (.int .u8 0), 1, 1) := by kernel_rfl
theorem clone_any {W w : World} {A : Assn} (a : Option Addr) (n c : Nat) (xs : List Value) (h : Sat W w A) (hsrc : ∀ b, a = some b → ∀ j u, xs[j]? = some u → w.cell? (b.add j) = some u) (hl : xs.length = n) (hw : Swf a n c) (h1 : ∀ u ∈ xs, u.oneCell' = true) (hn : n ≤ 140737488355328) :
    Calls Tryd.prog 48 #[.slice a n c] w fun e w' => ∃ a' c', e = .returned (.slice a' n c') ∧ Sat W w' (sep (osl 5 1 a' n c' xs) A) := by
  obtain ⟨hw1, hw2, hw3⟩ := hw
  have hq := fun w a n c => Lib.run_eql_slice_nil (P := Tryd.prog) w 32 5 a n c 0 0 Tryd.underlying32
  cases a with
  | none =>
    obtain rfl := hw3 rfl
    obtain rfl : n = 0 := by omega
    obtain rfl : xs = [] := List.eq_nil_of_length_eq_zero hl
    clear hsrc
    go_enter Tryd.func48, Tryd.ntmps48
    go_wp2
    go_ret
    exact ⟨_, _, rfl, h.osl_nil _ _⟩
  | some b =>
    have hS := (h.alloc (.cells #[] 5)).osl_mk 0 0 1 [] rfl (by omega) (by unfold maxLen; omega) rfl rfl
    have hc2 := Lib.hid (old_src (hsrc b rfl) (.cells #[] 5))
    have HN := Lib.hid hn
    have HW2 := Lib.hid hw2
    have HW1 := Lib.hid hw1
    clear hsrc hn hw1 hw2 hw3
    go_enter Tryd.func48, Tryd.ntmps48
    go_wp2_with (at_builtin; refine wpl_append_osl rfl _ _ 32 rfl 5 1 1 (.int .u8 0) Tryd.underlying32 infoU8c rfl rfl hS rfl xs (by omega) (by simp) (by intro b' hb; cases hb; exact hc2.out) h1 (by have := HN.out; omega) (by have := HN.out; unfold maxLen; omega) ?_)
    intro a' c' w' hS'
    go_wp2
    go_ret
    refine ⟨a', c', ?_, ?_⟩
    · simp
    · simpa using hS'
/-- What is owned, as an append's source. -/
theorem _root_.PA.Sat.osl_src {W w : World} {A : Assn} {E : Nat} {a : Option Addr} {n c : Nat} {xs : List Value} (h : Sat W w (sep (osl E 1 a n c xs) A)) : ∀ b, a = some b → ∀ j u, xs[j]? = some u → w.cell? (b.add j) = some u := by
  intro b hb j u hu
  obtain ⟨g, e, hc⟩ := h.osl_at (fun e => by rw [e] at hu; simp at hu)
  rw [hb] at e; cases e
  have := hc j u hu
  unfold Addr.add
  split
  · rename_i e; subst e; exact this
  · simpa using this
theorem rel_src' {I : Mem} {a : Option Addr} {n c : Nat} {l : List UInt8} (h : rBytes.rel I [.slice a n c] l) :
    l.length = n ∧ Swf a n c ∧ ∀ w, Ext I w → ∀ b, a = some b → ∀ j u, (l.map bv)[j]? = some u → w.cell? (b.add j) = some u := by
  obtain ⟨a', c', e, hw, hc⟩ := bytes_rel.1 h
  simp only [Value.slice.injEq] at e
  obtain ⟨rfl, rfl, rfl⟩ := e
  exact ⟨rfl, hw, fun w he => src_ext hc he⟩
end Go.Proofs.YtcmjbjlliehdiaaDoor
/- Package authmap: Set, Delete, Get, Root, Len. -/
namespace Go.Proofs.YtcmjbjlliehdiaaDoor
open Go.RowKit PA
def setE (k : Int) (x : List UInt8) : Nat := if k < 0 ∨ 4095 < k then 5 else if 65536 < x.length then 4 else 0
theorem osl_learnQ {W w : World} {A : Assn} {I : Mem} {a : Option Addr} {l c : Nat} {gb : List UInt8} (h : Sat W w (sep (osl 5 1 a l c (gb.map bv)) (sep (kn I) A))) (hl : l = gb.length) : ∃ J, Mem.le I J ∧ rBytes.rel J [.slice a l c] gb ∧ Sat W w (sep (kn J) A) := by
  subst hl
  exact h.bytes_of_osl.2.learn
theorem aset_range {W w : World} {A : Assn} (p : Nat) (k : Int) (v : Value) (h : Sat W w A) (hk : k < 0 ∨ 4095 < k) :
    Calls Tryd.prog 13 #[.pointer (some ⟨p, 0, none⟩), .int .i64 k, v] w fun e w' => e = .returned (.int .i64 5) ∧ Sat W w' A := by
  have hi := aiskey_spec k w
  rw [decide_eq_false (by omega)] at hi
  have HI := Lib.hid hi
  clear hi
  go_enter Tryd.func13, Tryd.ntmps13
  go_wp2_with fail
  refine HI.out.mono ?_
  rintro e w' ⟨rfl, rfl⟩
  go_wp2_with fail
  go_ret
  exact ⟨rfl, h⟩
theorem aset_limit {W w : World} {A : Assn} (p : Nat) (k : Int) (a : Option Addr) (n c : Nat) (h : Sat W w A) (hk : 0 ≤ k ∧ k ≤ 4095) (hn : 65536 < n) :
    Calls Tryd.prog 13 #[.pointer (some ⟨p, 0, none⟩), .int .i64 k, .slice a n c] w fun e w' => e = .returned (.int .i64 4) ∧ Sat W w' A := by
  have hi := aiskey_spec k w
  rw [decide_eq_true hk] at hi
  have HI := Lib.hid hi
  have hnI : (n : Int) > 65536 := by omega
  clear hi hn
  go_enter Tryd.func13, Tryd.ntmps13
  go_wp2_with fail
  refine HI.out.mono ?_
  rintro e w' ⟨rfl, rfl⟩
  go_wp2_with fail
  go_ret
  exact ⟨rfl, h⟩
theorem vokA_step {W w : World} {A : Assn} {I : Mem} {f f' : Int → Option Value} {M M' : KVs} (h : Sat W w (sep (vokA f M) (sep (kn I) A))) (hp : ∀ J, Mem.le I J → VOK J f M → VOK J f' M') : Sat W w (sep (vokA f' M') (sep (kn I) A)) := by
  refine h.wk ?_
  rintro J m ⟨x, y, h1, rfl, ⟨rfl, h2⟩, x', y', h3, rfl, ⟨rfl, hle⟩, h4⟩
  exact ⟨Mem.no, _, h1, rfl, ⟨rfl, hp J hle h2⟩, Mem.no, y', h3, rfl, ⟨rfl, hle⟩, h4⟩
set_option maxRecDepth 100000 in
set_option maxHeartbeats 4000000 in
theorem aset_ok {W w : World} {A : Assn} {I : Mem} (hw : WholeOK W) (p : Nat) (M : KVs) (k : Int) (v : Value) (x : List UInt8) (h : Sat W w (sep (isAM p M) (sep (kn I) A))) (hv : rBytes.rel I [v] x) (hk : 0 ≤ k ∧ k ≤ 4095) (hx : x.length ≤ 65536) :
    Calls Tryd.prog 13 #[.pointer (some ⟨p, 0, none⟩), .int .i64 k, v] w fun e w' => e = .returned (.int .i64 0) ∧ Sat W w' (sep (isAM p (fset M k (some x))) (sep (kn I) A)) := by
  obtain ⟨b1, f, b2, n2, h0⟩ := isAM_open h
  obtain ⟨va, vc, rfl, -⟩ := bytes_rel.1 hv
  obtain ⟨hr1, hr2, hr3⟩ := rel_src' hv
  have hi := aiskey_spec k w
  rw [decide_eq_true hk] at hi
  have HI := Lib.hid hi
  obtain ⟨wd, hwd⟩ : ∃ wd, wd = w.drew := ⟨_, rfl⟩
  have h1 := h0.drew
  rw [← hwd] at h1
  have hcl := clone_any va x.length vc (x.map bv) h1 (hr3 wd h1.p4.ext) (by simp) hr2 (bv_one x) (by omega)
  obtain ⟨xl, hxl⟩ : ∃ xl, xl = x.length := ⟨_, rfl⟩
  rw [← hxl] at hcl hx hv
  rw [← hxl]
  obtain ⟨M', hM'⟩ : ∃ M', M' = fset M k (some x) := ⟨_, rfl⟩
  rw [← hM']
  have hxI : ¬ (xl : Int) > 65536 := by omega
  have hS0 : wd.cell? ⟨p, 0, none⟩ = some (.map (some b1)) := h1.cell 0
  have HCL := Lib.hid hcl
  have HX := Lib.hid (And.intro hxl (And.intro hx (And.intro hv (And.intro hM' hk))))
  have HW := Lib.hid hw
  clear h h0 h1 hcl hxl hx hv hM' hi hr1 hr2 hr3 hk hw
  go_enter Tryd.func13, Tryd.ntmps13
  go_wp2_with fail
  refine HI.out.mono ?_
  rintro e w' ⟨rfl, rfl⟩
  clear HI
  go_wp2_with fail
  refine wp_region_canon rfl (fun w' => w'.cell? ⟨p, 0, none⟩ = some (.map (some b1))) [(0, .p), (1, .p), (2, .p), (3, .s), (4, .p), (5, .p), (6, .e true), (7, .e false)] (by kernel_rfl) ?_
  rw [← hwd]
  clear hwd
  (repeat ((first | (refine C_p (v := ?_) rfl rfl (fun w' => ?_) ?_; rotate_left; (go_simp; with_reducible rfl)) | (refine C_s (v := ?_) rfl rfl hS0 (fun w' hS => ?_) ?_; rotate_left; ((try dsimp only at hS); go_simp; with_reducible rfl)) | (refine C_t (v := ?_) rfl rfl ?_ ?_; rotate_left; (go_simp; with_reducible rfl)) | (refine C_po rfl rfl ?_) | (refine C_so rfl rfl hS0 ?_) | (refine C_to rfl rfl ?_)); simp only [Act.put, List.setIfInBounds_toArray, List.set_cons_zero, List.set_cons_succ]))
  (refine C_e rfl rfl (fun K hK => ?_); go_simp)
  refine HCL.out.mono ?_
  rintro e w1 ⟨a', c', rfl, h2⟩
  clear HCL hS0
  obtain ⟨J, hJ, hr, h3⟩ := osl_learnQ (show Sat W w1 (sep (osl 5 1 a' xl c' (x.map bv)) (sep (kn I) (sep (blk p (.cells (amC b1 b2) 92 (0, 0))) (sep (bmap b1 f (nkeys M)) (sep (gmap bkv b2 (hmF M) n2) (sep (vokA f M) A)))))) by simpa only [sep_comm, sep_lcomm, sep_assoc] using h2) HX.out.1
  clear h2
  have hS0 : w1.cell? ⟨p, 0, none⟩ = some (.map (some b1)) := h3.p1.cell 0
  have hb3 : Sat W w1 (sep (bmap b1 f (nkeys M)) (sep (vokA f M) (sep (kn J) (sep (blk p (.cells (amC b1 b2) 92 (0, 0))) (sep (gmap bkv b2 (hmF M) n2) A))))) := by simpa only [sep_comm, sep_lcomm, sep_assoc] using h3
  have hvs := hb3.p1.pers_heap.isSome k
  obtain ⟨w2, n', hrun, hn', h4⟩ := run_update_bmap (P := Tryd.prog) (T := 89) Tryd.underlying89 Tryd.underlying3 hb3 k (.slice a' xl c')
  have hn2 : n' = nkeys M' := by
    rw [hn', hvs, HX.out.2.2.2.1]
    cases hm : M k with
    | none => rw [nkeys_new x HX.out.2.2.2.2.1 HX.out.2.2.2.2.2 hm, if_neg (fun e => by cases e)]
    | some y => rw [nkeys_old x (by rw [hm]; rfl), if_pos Option.isSome_some]
  rw [hn2] at h4
  have h5 := vokA_step (M' := M') (f' := fset f k (some (.slice a' xl c'))) (show Sat W w2 (sep (vokA f M) (sep (kn J) (sep (bmap b1 (fset f k (some (.slice a' xl c'))) (nkeys M')) (sep (blk p (.cells (amC b1 b2) 92 (0, 0))) (sep (gmap bkv b2 (hmF M) n2) A))))) by simpa only [sep_comm, sep_lcomm, sep_assoc] using h4) (fun K hK hvk => by
    have hr' := rBytes.mono hK hr
    rw [HX.out.2.2.2.1]
    have e := HX.out.1
    have hx := HX.out.2.1
    rw [e] at hr' hx ⊢
    exact hvk.put k x ⟨HX.out.2.2.2.2.1, HX.out.2.2.2.2.2, hx⟩ hr')
  have hlf := aleaf_spec k (.slice va xl vc) x (show Sat W w2 (sep (kn J) (sep (vokA (fset f k (some (.slice a' xl c'))) M') (sep (bmap b1 (fset f k (some (.slice a' xl c'))) (nkeys M')) (sep (blk p (.cells (amC b1 b2) 92 (0, 0))) (sep (gmap bkv b2 (hmF M) n2) A))))) by simpa only [sep_comm, sep_lcomm, sep_assoc] using h5) (rBytes.mono hJ HX.out.2.2.1) (by have := HX.out.1; have := HX.out.2.1; omega)
  obtain ⟨lf, hlfe⟩ : ∃ lf, lf = leafN k x := ⟨_, rfl⟩
  rw [← hlfe] at hlf
  have HLF := Lib.hid hlf
  have HL := Lib.hid hlfe
  have HJ := Lib.hid hJ
  clear h3 hb3 hvs hn' hn2 h4 h5 hlf hlfe hr hJ
  (refine hK _ _ (fun _ => hS0) ?_; clear hK K; (try simp only [Act.put, List.setIfInBounds_toArray, List.set_cons_zero, List.set_cons_succ]))
  (repeat ((first | (refine C_p (v := ?_) rfl rfl (fun w' => ?_) ?_; rotate_left; (go_simp; with_reducible rfl)) | (refine C_s (v := ?_) rfl rfl hS0 (fun w' hS => ?_) ?_; rotate_left; ((try dsimp only at hS); go_simp; with_reducible rfl)) | (refine C_t (v := ?_) rfl rfl ?_ ?_; rotate_left; (go_simp; with_reducible rfl)) | (refine C_po rfl rfl ?_) | (refine C_so rfl rfl hS0 ?_) | (refine C_to rfl rfl ?_)); simp only [Act.put, List.setIfInBounds_toArray, List.set_cons_zero, List.set_cons_succ]))
  (refine C_e rfl rfl (fun K hK => ?_); go_simp)
  (refine hK _ _ (fun h => by cases h) ?_; clear hK K; (try simp only [Act.put, List.setIfInBounds_toArray, List.set_cons_zero, List.set_cons_succ]))
  refine C_nil ?_
  go_wp2_with fail
  refine HLF.out.mono ?_
  rintro e w3 ⟨rfl, h6⟩
  have hpt := aput_spec HW.out p b1 b2 n2 M k (some x) HX.out.2.2.2.2.1 HX.out.2.2.2.2.2 (show Sat W w3 (sep (blk p (.cells (amC b1 b2) 92 (0, 0))) (sep (gmap bkv b2 (hmF M) n2) (sep (kn J) (sep (vokA (fset f k (some (.slice a' xl c'))) M') (sep (bmap b1 (fset f k (some (.slice a' xl c'))) (nkeys M')) A))))) by simpa only [sep_comm, sep_lcomm, sep_assoc] using h6)
  have es : sumV (hbN (fset M k (some x)) 0 k) = .agg #[.int .u64 (lf : Int), .bool true] := by
    have e1 : hbN (fset M k (some x)) 0 k = some lf := by rw [hbN, HL.out, fset, if_pos rfl, Option.map_some]
    rw [e1, sumV, Option.getD_some, Option.isSome_some]
  rw [es, ← HX.out.2.2.2.1] at hpt
  have HPT := Lib.hid hpt
  clear HLF h6 hpt es hrun hS0
  go_wp2_with fail
  refine HPT.out.mono ?_
  rintro e w4 ⟨rfl, n4, h7⟩
  have h8 := isAM_mk (M := M') (p := p) (show Sat W w4 (sep (blk p (.cells (amC b1 b2) 92 (0, 0))) (sep (bmap b1 (fset f k (some (.slice a' xl c'))) (nkeys M')) (sep (gmap bkv b2 (hmF M') n4) (sep (vokA (fset f k (some (.slice a' xl c'))) M') (sep (kn J) A))))) by simpa only [sep_comm, sep_lcomm, sep_assoc] using h7)
  have h9 : Sat W w4 (sep (isAM p M') (sep (kn I) A)) := by
    have := h8.p1.kn_mono HJ.out
    simpa only [sep_comm, sep_lcomm, sep_assoc] using this
  have H9 := Lib.hid h9
  clear HPT h7 h8 h9
  go_wp2_with fail
  go_ret
  exact ⟨rfl, H9.out⟩
end Go.Proofs.YtcmjbjlliehdiaaDoor
