/- Known lists of hashes; sameHashes, SameProof, bare, proof, SamePairs. -/
import Derived.Test.YtcmjbjlliehdiaaDoorGAuthmapBytesSQs
import Derived.Test.YtcmjbjlliehdiaaDoorGAuthmapBytes24
namespace Go.Proofs.YtcmjbjlliehdiaaDoor
open Go.RowKit PA
attribute [local go_sem] Oper.semAt_some
def rU64 : Rep Nat := ⟨fun _ cs n => cs = [.int .u64 (n : Nat)], fun _ h => h⟩
theorem rows_rU64 (I : Mem) : ∀ (cs : List Value) (bs : List Nat), (rU64.rows 1).rel I cs bs ↔ cs = bs.map uv := by
  intro cs bs
  constructor
  · rintro ⟨css, rfl, h⟩
    induction bs generalizing css with
    | nil => cases css with
      | nil => rfl
      | cons _ _ => exact h.elim
    | cons b bs ih => cases css with
      | nil => exact h.elim
      | cons c css =>
        have h1 : c = [.int .u64 (b : Nat)] := h.1.1
        simp only [List.flatten_cons, ih css h.2, h1, List.map_cons, uv]; rfl
  · rintro rfl
    refine ⟨bs.map fun b => [uv b], ?_, ?_⟩
    · rw [← flatten1 (bs.map uv)]; simp [Function.comp_def]
    · induction bs with
      | nil => trivial
      | cons b bs ih => exact ⟨⟨rfl, rfl⟩, ih⟩
abbrev rHs : Rep (List Nat) := rU64.slice 1
theorem hs_rel {I : Mem} {v : Value} {ns : List Nat} : rHs.rel I [v] ns ↔ ∃ a c, v = .slice a ns.length c ∧ Swf a ns.length c ∧ cellsAt a (ns.map uv) I := by
  constructor
  · rintro ⟨a, c, cells, h1, h2, h3, h4⟩
    cases h1
    rw [(rows_rU64 _ _ _).1 h4] at h3
    exact ⟨a, c, rfl, h2, h3⟩
  · rintro ⟨a, c, rfl, h2, h3⟩
    exact ⟨a, c, _, rfl, h2, h3, (rows_rU64 _ _ _).2 rfl⟩
theorem hs_nil (I : Mem) : rHs.rel I [.slice none 0 0] [] := hs_rel.2 ⟨none, 0, rfl, ⟨Nat.le_refl _, Nat.zero_le _, fun _ => rfl⟩, .inl rfl⟩
theorem hs_learn {W w : World} {A : Assn} {I : Mem} {a : Option Addr} {l c : Nat} {hs : List Nat} (h : Sat W w (sep (osl 43 1 a l c (hs.map uv)) (sep (kn I) A))) (hl : l = hs.length) : ∃ J, Mem.le I J ∧ rHs.rel J [.slice a l c] hs ∧ Sat W w (sep (kn J) A) := by
  subst hl
  have h1 := (rows_nil rU64 1 h).p1
  have h2 : Sat W w (sep (osl 43 1 a hs.length c (hs.map uv)) (sep ((rU64.rows 1).is (hs.map uv) hs) (sep (kn I) A))) := by
    have h3 := (show Sat W w (sep (kn I) (sep (osl 43 1 a hs.length c (hs.map uv)) A)) by simpa only [sep_comm, sep_lcomm, sep_assoc] using h).tell (p := fun I => (rU64.rows 1).rel I (hs.map uv) hs) (hp := fun _ _ hl => (rU64.rows 1).mono hl) ((rows_rU64 _ _ _).2 rfl)
    have h4 : Sat W w (sep ((rU64.rows 1).is (hs.map uv) hs) (sep (kn I) (sep (osl 43 1 a hs.length c (hs.map uv)) A))) := h3
    simpa only [sep_comm, sep_lcomm, sep_assoc] using h4
  exact (Sat.slice_of_osl (R := rU64) (xs := hs) h2 rfl).learn
theorem ret_bq {b c : Bool} (h : b = c) : Ending.returned (.bool b) = .returned (.bool c) := by rw [h]
set_option maxRecDepth 100000 in
set_option maxHeartbeats 4000000 in
theorem sameHashes_spec {W w : World} {A : Assn} {I : Mem} (v u : Value) (x y : List Nat) (h : Sat W w (sep (kn I) A)) (h1 : rHs.rel I [v] x) (h2 : rHs.rel I [u] y) :
    Calls Tryd.prog 56 #[v, u] w fun e w' => e = .returned (.bool (decide (x = y))) ∧ Sat W w' (sep (kn I) A) := by
  obtain ⟨a, c, rfl, hw1, hx⟩ := hs_rel.1 h1
  obtain ⟨b, d, rfl, hw2, hy⟩ := hs_rel.1 h2
  have hl1 : (x.length : Int) ≤ 9223372036854775807 := by have := hw1.1; have := hw1.2.1; unfold maxLen at this; omega
  have hl2 : (y.length : Int) ≤ 9223372036854775807 := by have := hw2.1; have := hw2.2.1; unfold maxLen at this; omega
  obtain ⟨nx, hnx⟩ : ∃ nx, nx = x.length := ⟨_, rfl⟩
  obtain ⟨ny, hny⟩ : ∃ ny, ny = y.length := ⟨_, rfl⟩
  have HX := Lib.hid hx
  have HY := Lib.hid hy
  rw [← hnx] at hl1 ⊢
  rw [← hny] at hl2 ⊢
  have HNX := Lib.hid hnx
  have HNY := Lib.hid hny
  have H := Lib.hid h
  clear hx hy h h1 h2 hw1 hw2
  by_cases hne : nx = ny
  · subst hne
    clear hnx hny
    go_enter Tryd.func56, Tryd.ntmps56
    go_wp2
    go_loopw [5] (fun i wr => ∃ k : Nat, k ≤ nx ∧ i = .int .i64 k ∧ Hid (x.take k = y.take k) ∧ Sat W wr (sep (kn I) A)) (fun i _ => nx - (intOf i).toNat)
    case atStart => exact ⟨0, Nat.zero_le _, rfl, Lib.hid (by rw [List.take_zero, List.take_zero]), H.out⟩
    case round =>
      obtain ⟨k, hk, rfl, HT, hS⟩ := hrel
      by_cases hlt : k < nx
      · have k1 : k < x.length := by have := HNX.out; omega
        have k2 : k < y.length := by have := HNY.out; omega
        obtain ⟨wd, hwd⟩ : ∃ wd, wd = wr.drew := ⟨_, rfl⟩
        have hd := hS.drew
        rw [← hwd] at hd
        obtain ⟨b1, o1, rfl, hc1⟩ := cells_ext HX.out (by intro e; rw [List.map_eq_nil_iff] at e; rw [e] at k1; simp at k1)
        obtain ⟨b2, o2, rfl, hc2⟩ := cells_ext HY.out (by intro e; rw [List.map_eq_nil_iff] at e; rw [e] at k2; simp at k2)
        have g1 := hc1 wd hd.ext k (uv x[k]) (by simp [k1])
        have g2 := hc2 wd hd.ext k (uv y[k]) (by simp [k2])
        clear hc1 hc2
        obtain ⟨xk, hxk⟩ : ∃ z, z = x[k] := ⟨_, rfl⟩
        obtain ⟨yk, hyk⟩ : ∃ z, z = y[k] := ⟨_, rfl⟩
        rw [← hxk] at g1
        rw [← hyk] at g2
        have HXK := Lib.hid hxk
        have HYK := Lib.hid hyk
        have HD := Lib.hid hd
        unfold uv at g1 g2
        clear hxk hyk hS hd
        by_cases hxy : xk = yk
        · subst hxy
          have b1 : (((xk : Nat) : Int) != ((xk : Nat) : Int)) = false := by simp
          go_wp2_with fail
          refine wp_region_canon rfl (fun _ => True) [(0, .p), (1, .p), (2, .p), (3, .t), (4, .p), (5, .p), (6, .p), (7, .t), (8, .p)] (by kernel_rfl) ?_
          rw [← hwd]
          clear hwd
          have hS0 : True := trivial
          (repeat (first | (refine C_p (v := ?_) rfl rfl (fun w' => ?_) ?_; rotate_left; (go_simp; with_reducible rfl); simp only [Act.put, List.setIfInBounds_toArray, List.set_cons_zero, List.set_cons_succ]) | (refine C_s (v := ?_) rfl rfl hS0 (fun w' hS => ?_) ?_; rotate_left; ((try dsimp only at hS); go_simp; with_reducible rfl); simp only [Act.put, List.setIfInBounds_toArray, List.set_cons_zero, List.set_cons_succ]) | (refine C_t (v := ?_) rfl rfl ?_ ?_; rotate_left; (go_simp; with_reducible rfl); simp only [Act.put, List.setIfInBounds_toArray, List.set_cons_zero, List.set_cons_succ]) | (refine C_po rfl rfl ?_; simp only [Act.put, List.setIfInBounds_toArray, List.set_cons_zero, List.set_cons_succ]) | (refine C_so rfl rfl hS0 ?_; simp only [Act.put, List.setIfInBounds_toArray, List.set_cons_zero, List.set_cons_succ]) | (refine C_to rfl rfl ?_; simp only [Act.put, List.setIfInBounds_toArray, List.set_cons_zero, List.set_cons_succ])))
          refine C_nil ?_
          go_wp2_with fail
          go_roundw
          case rel => exact ⟨k + 1, by omega, rfl, Lib.hid (by rw [List.take_succ_eq_append_getElem k1, List.take_succ_eq_append_getElem k2, HT.out, ← HXK.out, ← HYK.out]), HD.out⟩
          case measure => simp only [intOf]; omega
        · have b1 : (((xk : Nat) : Int) != ((yk : Nat) : Int)) = true := by simp; omega
          have HXY := Lib.hid hxy
          clear hxy
          go_wp2_with fail
          refine wp_region_canon rfl (fun _ => True) [(0, .p), (1, .p), (2, .p), (3, .t), (4, .p), (5, .p), (6, .p), (7, .t), (8, .p)] (by kernel_rfl) ?_
          rw [← hwd]
          clear hwd
          have hS0 : True := trivial
          (repeat (first | (refine C_p (v := ?_) rfl rfl (fun w' => ?_) ?_; rotate_left; (go_simp; with_reducible rfl); simp only [Act.put, List.setIfInBounds_toArray, List.set_cons_zero, List.set_cons_succ]) | (refine C_s (v := ?_) rfl rfl hS0 (fun w' hS => ?_) ?_; rotate_left; ((try dsimp only at hS); go_simp; with_reducible rfl); simp only [Act.put, List.setIfInBounds_toArray, List.set_cons_zero, List.set_cons_succ]) | (refine C_t (v := ?_) rfl rfl ?_ ?_; rotate_left; (go_simp; with_reducible rfl); simp only [Act.put, List.setIfInBounds_toArray, List.set_cons_zero, List.set_cons_succ]) | (refine C_po rfl rfl ?_; simp only [Act.put, List.setIfInBounds_toArray, List.set_cons_zero, List.set_cons_succ]) | (refine C_so rfl rfl hS0 ?_; simp only [Act.put, List.setIfInBounds_toArray, List.set_cons_zero, List.set_cons_succ]) | (refine C_to rfl rfl ?_; simp only [Act.put, List.setIfInBounds_toArray, List.set_cons_zero, List.set_cons_succ])))
          refine C_nil ?_
          go_wp2_with fail
          go_ret
          refine ⟨ret_bq (Eq.symm (decide_eq_false (fun e => HXY.out (by have h1 := HXK.out; have h2 := HYK.out; subst e; exact h1.trans h2.symm)))), HD.out⟩
      · obtain rfl : k = nx := by omega
        have HS := Lib.hid hS
        clear hS
        go_wp2_with fail
        go_ret
        refine ⟨ret_bq (Eq.symm (decide_eq_true ?_)), HS.out⟩
        have := HT.out
        rw [List.take_of_length_le (by rw [HNX.out]; exact Nat.le_refl _), List.take_of_length_le (by rw [HNY.out]; exact Nat.le_refl _)] at this
        exact this
  · have hneI : ((nx : Int) != (ny : Int)) = true := by simp; omega
    have HNE := Lib.hid hne
    clear hne hnx hny
    go_enter Tryd.func56, Tryd.ntmps56
    go_wp2_with fail
    go_ret
    refine ⟨ret_bq (Eq.symm (decide_eq_false fun e => HNE.out (by rw [HNX.out, HNY.out, e]))), H.out⟩
/-- A proof, as the value of a struct. -/
def prfV (t : Option Addr × Nat × Nat) (u : Option Addr × Nat × Nat) (s : Option Addr × Nat × Nat) : Value := .agg #[.slice t.1 t.2.1 t.2.2, .slice u.1 u.2.1 u.2.2, .slice s.1 s.2.1 s.2.2]
/-- Hashes to the left and to the right, and the shape. -/
structure Prf where
  l : List Nat
  r : List Nat
  s : List UInt8
  deriving DecidableEq
def prfR (I : Mem) (v : Value) (p : Prf) : Prop := ∃ a b c, v = .agg #[a, b, c] ∧ rHs.rel I [a] p.l ∧ rHs.rel I [b] p.r ∧ rBytes.rel I [c] p.s
theorem prfR.mono {I J : Mem} {v : Value} {p : Prf} (hl : Mem.le I J) (h : prfR I v p) : prfR J v p := by
  obtain ⟨a, b, c, e, h1, h2, h3⟩ := h
  exact ⟨a, b, c, e, rHs.mono hl h1, rHs.mono hl h2, rBytes.mono hl h3⟩
end Go.Proofs.YtcmjbjlliehdiaaDoor
