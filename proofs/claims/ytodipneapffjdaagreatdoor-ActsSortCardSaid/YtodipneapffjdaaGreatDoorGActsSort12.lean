/- The encodings of claims, texts and acts in plain: no program in sight. -/
import Derived.Test.YtodipneapffjdaaGreatDoorGActsSort11
import Derived.Test.YtodipneapffjdaaGreatDoorGActsSortSVg
namespace PA
open Go Go.RowKit
def encCl (c : Cl) : List UInt8 := encIs c.refs ++ encR (encFm c.body)
def encClp (l : List Cl) : List UInt8 := (l.map encCl).flatten
def encCls (l : List Cl) : List UInt8 := PA.encI l.length ++ encClp l
/-- What Encode returns for claims: no bytes if they are not valid. -/
def encCls0 (l : List Cl) : List UInt8 := if clE l = 0 then encCls l else []
def encTd (l : List Fm) : List UInt8 := (l.map fun f => encR (encF0 f)).flatten
def encTx (td : List Fm) (tc : List Cl) : List UInt8 := PA.encI td.length ++ encTd td ++ encR (encCls0 tc)
def encTx0 (td : List Fm) (tc : List Cl) : List UInt8 := if txE td tc = 0 then encTx td tc else []
def encEa (e : Ea) : List UInt8 := PA.encI e.file ++ PA.encI e.day
def encEas (l : List Ea) : List UInt8 := (l.map encEa).flatten
def actNs (x : Pa) : List Int := [x.k, x.d, x.n, x.f, x.o, x.p, x.q, x.u, x.m, x.sn, x.sd]
def encKd (x : Pa) : List UInt8 := if x.k = 0 then encR (encTx0 x.td x.tc) ++ PA.encI x.ea.length ++ encEas x.ea else if x.k = 19 then encR (encF0 x.fx) else []
def encAc (x : Pa) : List UInt8 := if x.cl = [] then [] else encR (encCls0 x.cl)
def encW (x : Pa) : List UInt8 := ((actNs x).map PA.encI).flatten ++ encKd x ++ encAc x
/-- What Encode returns for an act. -/
def encA (x : Pa) : List UInt8 := if validA x = true then encW x else []
/-- A claim fits. -/
structure ClOK (c : Cl) : Prop where
  r64 : ∀ r ∈ c.refs, -9223372036854775808 ≤ r ∧ r ≤ 9223372036854775807
  rn : c.refs.length ≤ 1048576
  b64 : c.body.n64
  bl : (encFm c.body).length ≤ 16777216
/-- A formula fits. -/
structure FmOK (f : Fm) : Prop where
  b64 : f.n64
  bl : (encFm f).length ≤ 16777216
structure EncOK (x : Pa) : Prop where
  n64 : ∀ r ∈ actNs x, -9223372036854775808 ≤ r ∧ r ≤ 9223372036854775807
  td : ∀ f ∈ x.td, FmOK f
  tc : ∀ c ∈ x.tc, ClOK c
  cl : ∀ c ∈ x.cl, ClOK c
  ea : ∀ e ∈ x.ea, (-9223372036854775808 ≤ e.file ∧ e.file ≤ 9223372036854775807) ∧ (-9223372036854775808 ≤ e.day ∧ e.day ≤ 9223372036854775807)
  fx : FmOK x.fx
  lt : (encTx x.td x.tc).length ≤ 268435456
  ltc : (encCls x.tc).length ≤ 134217728
  lcl : (encCls x.cl).length ≤ 134217728
  lw : (encW x).length ≤ 1073741824
theorem flat_take {α : Type} (e : α → List UInt8) {l : List α} {j : Nat} {g : α} (h : l[j]? = some g) : ((l.take (j + 1)).map e).flatten = ((l.take j).map e).flatten ++ e g := by
  rw [List.take_add_one, h]; simp
theorem flat_le {α : Type} (e : α → List UInt8) (l : List α) (j : Nat) : ((l.take j).map e).flatten.length ≤ (l.map e).flatten.length := by
  induction l generalizing j with
  | nil => simp
  | cons g l ih =>
    cases j with
    | zero => simp
    | succ j =>
      have := ih j
      rw [List.take_succ_cons, List.map_cons, List.map_cons, List.flatten_cons, List.flatten_cons, List.length_append, List.length_append]; omega
theorem encR_le {b : List UInt8} {N : Nat} (h : b.length ≤ N) (hN : N ≤ 1152921504606846976) : (encR b).length ≤ N + 10 := by
  unfold encR; rw [List.length_append]; have := Lib.uvarint_length64 (x := b.length) (by omega); omega
theorem encF0_le {f : Fm} {N : Nat} (h : (encFm f).length ≤ N) : (encF0 f).length ≤ N := by
  unfold encF0; split
  · exact h
  · exact Nat.zero_le _
theorem encCls0_le {l : List Cl} {N : Nat} (h : (encCls l).length ≤ N) : (encCls0 l).length ≤ N := by
  unfold encCls0; split
  · exact h
  · exact Nat.zero_le _
theorem encTx0_le {td : List Fm} {l : List Cl} {N : Nat} (h : (encTx td l).length ≤ N) : (encTx0 td l).length ≤ N := by
  unfold encTx0; split
  · exact h
  · exact Nat.zero_le _
end PA
/- The reference's refs and Valid of claims. -/
namespace PA
open Go Go.RowKit
theorem int_elem {I : Mem} {a : Option Addr} {n c : Nat} {l : List Int} (h : (rInt.slice 1).rel I [.slice a n c] l) {i : Nat} {x : Int} (hx : l[i]? = some x) :
    ∃ b o, a = some ⟨b, o, none⟩ ∧ ∀ w', Ext I w' → w'.cell? ⟨b, o + i, none⟩ = some (.int .i64 x) := by
  obtain ⟨b, o, cs, rfl, hr, -, hc⟩ := slice_elemv h hx (by omega)
  have e : cs = [.int .i64 x] := hr
  subst e
  exact ⟨b, o, rfl, fun w' he => by have := hc w' he 0 _ rfl; rwa [Nat.mul_one] at this⟩
/-- A claim in memory. -/
theorem cl_elem {I : Mem} {a : Option Addr} {n c : Nat} {l : List Cl} (h : (rCl.slice 5).rel I [.slice a n c] l) {i : Nat} {x : Cl} (hx : l[i]? = some x) :
    ∃ b o ra rc p q x1 n1 c1 x2 n2 c2, a = some ⟨b, o, none⟩ ∧ (rInt.slice 1).rel I [.slice ra x.refs.length rc] x.refs ∧ rF.rel I [.int .i64 p, .int .i64 q, .slice x1 n1 c1, .slice x2 n2 c2] x.body ∧
      ∀ w', Ext I w' → w'.cell? ⟨b, o + i * 5, none⟩ = some (.slice ra x.refs.length rc) ∧ w'.cell? ⟨b, o + i * 5 + 1, none⟩ = some (.int .i64 p) ∧ w'.cell? ⟨b, o + i * 5 + 2, none⟩ = some (.int .i64 q) ∧ w'.cell? ⟨b, o + i * 5 + 3, none⟩ = some (.slice x1 n1 c1) ∧ w'.cell? ⟨b, o + i * 5 + 4, none⟩ = some (.slice x2 n2 c2) := by
  obtain ⟨b, o, cs, rfl, hr, -, hc⟩ := slice_elemv h hx (by omega)
  obtain ⟨ra, rc, bs, rfl, h1, h2⟩ := hr
  obtain ⟨refs, ⟨p, q, ins, kids⟩⟩ := x
  obtain ⟨x1, c1, x2, c2, rfl, h3, h4⟩ := rF_iff.1 h2
  exact ⟨b, o, ra, rc, p, q, x1, _, c1, x2, _, c2, rfl, h1, rF_iff.2 ⟨x1, c1, x2, c2, rfl, h3, h4⟩, fun w' he => ⟨hc w' he 0 _ rfl, hc w' he 1 _ rfl, hc w' he 2 _ rfl, hc w' he 3 _ rfl, hc w' he 4 _ rfl⟩⟩
theorem refAt_0 {l : List Int} {i : Nat} {r : Int} (h : l[0]? = some r) : refAt l i 0 = (decide (0 ≤ r) && decide (r < (i : Int))) := by
  unfold refAt; rw [h]; simp
theorem refAt_s {l : List Int} {i k : Nat} {r q : Int} (h : l[k + 1]? = some r) (h' : l[k]? = some q) : refAt l i (k + 1) = (decide (0 ≤ r) && (decide (r < (i : Int)) && decide (q < r))) := by
  unfold refAt; rw [h]; simp only; rw [h']
theorem refAt_neg {l : List Int} {i k : Nat} {r : Int} (h : l[k]? = some r) (hr : r < 0 ∨ (i : Int) ≤ r) : refAt l i k = false := by
  unfold refAt; rw [h]
  simp only
  rcases hr with hr | hr
  · rw [decide_eq_false (show ¬ 0 ≤ r by omega)]; rfl
  · rw [decide_eq_false (show ¬ r < (i : Int) by omega)]; simp
theorem clGo_drop {l : List Cl} {j : Nat} {c : Cl} (h : l[j]? = some c) : clGo j (l.drop j) = if 8 < c.refs.length then 4 else if refsP c.refs j = false then 1 else if fmE c.body ≠ 0 then fmE c.body else clGo (j + 1) (l.drop (j + 1)) := by
  obtain ⟨hj, rfl⟩ := List.getElem?_eq_some_iff.1 h
  rw [List.drop_eq_getElem_cons hj, clGo]
end PA
namespace Go.Proofs.YtodipneapffjdaaGreatDoor
open Go.RowKit PA
set_option maxRecDepth 100000 in
set_option maxHeartbeats 4000000 in
theorem r11refs_spec {W w : World} {A : Assn} {I : Mem} (a : Option Addr) (c : Nat) (l : List Int) (i : Nat) (hv : (rInt.slice 1).rel I [.slice a l.length c] l) (h : Sat W w (sep (kn I) A)) :
    Calls Tryz.prog 87 #[.slice a l.length c, .int .i64 (i : Nat)] w fun e w' => e = .returned (.bool (refsP l i)) ∧ Sat W w' (sep (kn I) A) := by
  obtain ⟨n, hn⟩ : ∃ n, n = l.length := ⟨_, rfl⟩
  obtain ⟨rv, hrv⟩ : ∃ z, z = refsP l i := ⟨_, rfl⟩
  have hl63 := (slice_len hv).2.2
  rw [← hn] at hv hl63 ⊢
  rw [← hrv]
  have HRV : Hid (rv = refTo l i n ∧ n = l.length) := Lib.hid ⟨by rw [hrv, hn]; rfl, hn⟩
  have HV := Lib.hid hv
  have H := Lib.hid h
  clear hv h hrv hn
  go_enter Tryz.func87, Tryz.ntmps87
  go_wp2
  go_loopw [5] (fun iv wr => ∃ k : Nat, iv = .int .i64 k ∧ k ≤ n ∧ Hid (refTo l i k = true) ∧ Sat W wr (sep (kn I) A)) (fun iv _ => n - (intOf iv).toNat)
  case atStart => exact ⟨0, rfl, by omega, Lib.hid (refTo_zero l i), H.out⟩
  case round =>
    obtain ⟨k, rfl, hk, HT, hS⟩ := hrel
    by_cases hlt : k < n
    · have hltz : (k : Int) < (n : Int) := by omega
      have hkl : k < l.length := by have := HRV.out.2; omega
      obtain ⟨r, hr⟩ : ∃ r, l[k]? = some r := ⟨_, List.getElem?_eq_getElem hkl⟩
      obtain ⟨b, o, rfl, hcell⟩ := int_elem HV.out hr
      have hd := hS.drew
      have c0 := hcell _ hd.ext
      have HD := Lib.hid hd
      have HR := Lib.hid (And.intro hr (And.intro hlt hkl))
      have HBAD : Hid (refAt l i k = false → rv = false) := Lib.hid fun e => by rw [HRV.out.1]; exact refTo_bad hlt e
      clear hr hcell hS hd hlt hkl hk H
      by_cases n0 : r < 0
      · have n0' : decide (r < 0) = true := decide_eq_true n0
        have HF : Hid (rv = false) := Lib.hid (HBAD.out (refAt_neg HR.out.1 (.inl n0)))
        clear n0 HBAD
        go_upto_region 4 with (fail)
        refine wp_region_canon rfl (fun _ => True) [(0, .p), (1, .p), (2, .p), (3, .t), (4, .p), (5, .p), (6, .p), (7, .p), (8, .p), (9, .t), (10, .p), (11, .p), (12, .p), (13, .p), (14, .p), (15, .p), (16, .p), (17, .p), (18, .p), (19, .p), (20, .t), (21, .p), (22, .p), (23, .p), (24, .p), (25, .t), (26, .p), (27, .p), (28, .p)] (by kernel_rfl) ?_
        have hS0 : True := trivial
        (repeat ((first | (refine C_p (v := ?_) rfl rfl (fun w' => ?_) ?_; rotate_left; (go_simp; with_reducible rfl)) | (refine C_s (v := ?_) rfl rfl hS0 (fun w' hS => ?_) ?_; rotate_left; ((try dsimp only at hS); go_simp; with_reducible rfl)) | (refine C_t (v := ?_) rfl rfl ?_ ?_; rotate_left; (go_simp; with_reducible rfl)) | (refine C_po rfl rfl ?_) | (refine C_so rfl rfl hS0 ?_) | (refine C_to rfl rfl ?_)); simp only [Act.put, List.setIfInBounds_toArray, List.set_cons_zero, List.set_cons_succ]))
        refine C_nil ?_
        clear c0
        go_wp2
        go_ret
        exact ⟨by rw [HF.out]; rfl, HD.out⟩
      · have n0' : decide (r < 0) = false := decide_eq_false n0
        by_cases n1 : (i : Int) ≤ r
        · have n1' : decide ((i : Int) ≤ r) = true := decide_eq_true n1
          have HF : Hid (rv = false) := Lib.hid (HBAD.out (refAt_neg HR.out.1 (.inr n1)))
          clear n0 n1 HBAD
          go_upto_region 4 with (fail)
          refine wp_region_canon rfl (fun _ => True) [(0, .p), (1, .p), (2, .p), (3, .t), (4, .p), (5, .p), (6, .p), (7, .p), (8, .p), (9, .t), (10, .p), (11, .p), (12, .p), (13, .p), (14, .p), (15, .p), (16, .p), (17, .p), (18, .p), (19, .p), (20, .t), (21, .p), (22, .p), (23, .p), (24, .p), (25, .t), (26, .p), (27, .p), (28, .p)] (by kernel_rfl) ?_
          have hS0 : True := trivial
          (repeat ((first | (refine C_p (v := ?_) rfl rfl (fun w' => ?_) ?_; rotate_left; (go_simp; with_reducible rfl)) | (refine C_s (v := ?_) rfl rfl hS0 (fun w' hS => ?_) ?_; rotate_left; ((try dsimp only at hS); go_simp; with_reducible rfl)) | (refine C_t (v := ?_) rfl rfl ?_ ?_; rotate_left; (go_simp; with_reducible rfl)) | (refine C_po rfl rfl ?_) | (refine C_so rfl rfl hS0 ?_) | (refine C_to rfl rfl ?_)); simp only [Act.put, List.setIfInBounds_toArray, List.set_cons_zero, List.set_cons_succ]))
          refine C_nil ?_
          clear c0
          go_wp2
          go_ret
          exact ⟨by rw [HF.out]; rfl, HD.out⟩
        · have n1' : decide ((i : Int) ≤ r) = false := decide_eq_false n1
          have HRR : Hid (0 ≤ r ∧ r < (i : Int)) := Lib.hid ⟨by omega, by omega⟩
          clear n0 n1
          cases k with
          | zero =>
            rw [Nat.add_zero] at c0
            go_upto_region 4 with (fail)
            refine wp_region_canon rfl (fun _ => True) [(0, .p), (1, .p), (2, .p), (3, .t), (4, .p), (5, .p), (6, .p), (7, .p), (8, .p), (9, .t), (10, .p), (11, .p), (12, .p), (13, .p), (14, .p), (15, .p), (16, .p), (17, .p), (18, .p), (19, .p), (20, .t), (21, .p), (22, .p), (23, .p), (24, .p), (25, .t), (26, .p), (27, .p), (28, .p)] (by kernel_rfl) ?_
            have hS0 : True := trivial
            (repeat ((first | (refine C_p (v := ?_) rfl rfl (fun w' => ?_) ?_; rotate_left; (go_simp; with_reducible rfl)) | (refine C_s (v := ?_) rfl rfl hS0 (fun w' hS => ?_) ?_; rotate_left; ((try dsimp only at hS); go_simp; with_reducible rfl)) | (refine C_t (v := ?_) rfl rfl ?_ ?_; rotate_left; (go_simp; with_reducible rfl)) | (refine C_po rfl rfl ?_) | (refine C_so rfl rfl hS0 ?_) | (refine C_to rfl rfl ?_)); simp only [Act.put, List.setIfInBounds_toArray, List.set_cons_zero, List.set_cons_succ]))
            refine C_nil ?_
            clear c0
            go_wp2
            go_roundw
            case rel => exact ⟨1, by go_num, by have := HR.out; omega, Lib.hid (by rw [refTo_succ, HT.out, refAt_0 HR.out.1, decide_eq_true HRR.out.1, decide_eq_true HRR.out.2]; rfl), HD.out⟩
            case measure => simp [intOf]; have := HR.out; omega
          | succ k =>
            obtain ⟨q, hq⟩ : ∃ q, l[k]? = some q := ⟨_, List.getElem?_eq_getElem (by have := HR.out.2.2; omega)⟩
            obtain ⟨b', o', e', hcj⟩ := int_elem HV.out hq
            cases e'
            have c1 := hcj _ HD.out.ext
            have hjw : IntKind.i64.wrap (k : Int) = (k : Int) := IntWalk.i64_in _ (by omega)
            have hjn : (k : Int) < (n : Int) := by omega
            have hj0 : (0 : Int) < (k : Int) + 1 := by omega
            have hj1 : (k : Int) + 1 < (n : Int) := by omega
            have hjz : (0 : Int) ≤ (k : Int) + 1 := by omega
            have hjt : ((k : Int) + 1).toNat = k + 1 := by omega
            have HQ := Lib.hid hq
            clear hq hcj hltz
            by_cases n2 : r ≤ q
            · have n2' : decide (r ≤ q) = true := decide_eq_true n2
              have HF : Hid (rv = false) := Lib.hid (HBAD.out (by rw [refAt_s HR.out.1 HQ.out, decide_eq_false (show ¬ q < r by omega)]; simp))
              clear n2
              go_upto_region 4 with (fail)
              refine wp_region_canon rfl (fun _ => True) [(0, .p), (1, .p), (2, .p), (3, .t), (4, .p), (5, .p), (6, .p), (7, .p), (8, .p), (9, .t), (10, .p), (11, .p), (12, .p), (13, .p), (14, .p), (15, .p), (16, .p), (17, .p), (18, .p), (19, .p), (20, .t), (21, .p), (22, .p), (23, .p), (24, .p), (25, .t), (26, .p), (27, .p), (28, .p)] (by kernel_rfl) ?_
              have hS0 : True := trivial
              (repeat ((first | (refine C_p (v := ?_) rfl rfl (fun w' => ?_) ?_; rotate_left; (go_simp; with_reducible rfl)) | (refine C_s (v := ?_) rfl rfl hS0 (fun w' hS => ?_) ?_; rotate_left; ((try dsimp only at hS); go_simp; with_reducible rfl)) | (refine C_t (v := ?_) rfl rfl ?_ ?_; rotate_left; (go_simp; with_reducible rfl)) | (refine C_po rfl rfl ?_) | (refine C_so rfl rfl hS0 ?_) | (refine C_to rfl rfl ?_)); simp only [Act.put, List.setIfInBounds_toArray, List.set_cons_zero, List.set_cons_succ]))
              refine C_nil ?_
              clear c0 c1
              go_wp2
              go_ret
              exact ⟨by rw [HF.out]; rfl, HD.out⟩
            · have n2' : decide (r ≤ q) = false := decide_eq_false n2
              have HQR : Hid (q < r) := Lib.hid (by omega)
              clear n2
              go_upto_region 4 with (fail)
              refine wp_region_canon rfl (fun _ => True) [(0, .p), (1, .p), (2, .p), (3, .t), (4, .p), (5, .p), (6, .p), (7, .p), (8, .p), (9, .t), (10, .p), (11, .p), (12, .p), (13, .p), (14, .p), (15, .p), (16, .p), (17, .p), (18, .p), (19, .p), (20, .t), (21, .p), (22, .p), (23, .p), (24, .p), (25, .t), (26, .p), (27, .p), (28, .p)] (by kernel_rfl) ?_
              have hS0 : True := trivial
              (repeat ((first | (refine C_p (v := ?_) rfl rfl (fun w' => ?_) ?_; rotate_left; (go_simp; with_reducible rfl)) | (refine C_s (v := ?_) rfl rfl hS0 (fun w' hS => ?_) ?_; rotate_left; ((try dsimp only at hS); go_simp; with_reducible rfl)) | (refine C_t (v := ?_) rfl rfl ?_ ?_; rotate_left; (go_simp; with_reducible rfl)) | (refine C_po rfl rfl ?_) | (refine C_so rfl rfl hS0 ?_) | (refine C_to rfl rfl ?_)); simp only [Act.put, List.setIfInBounds_toArray, List.set_cons_zero, List.set_cons_succ]))
              refine C_nil ?_
              clear c0 c1
              go_wp2
              go_roundw
              case rel => exact ⟨k + 2, by go_num, by have := HR.out; omega, Lib.hid (by rw [refTo_succ, HT.out, refAt_s HR.out.1 HQ.out, decide_eq_true HRR.out.1, decide_eq_true HRR.out.2, decide_eq_true HQR.out]; rfl), HD.out⟩
              case measure => simp [intOf]; have := HR.out; omega
    · obtain rfl : k = n := by omega
      have HS := Lib.hid hS
      have HTT : Hid (rv = true) := Lib.hid (by rw [HRV.out.1]; exact HT.out)
      clear hS H
      go_wp2
      go_ret
      exact ⟨by rw [HTT.out]; rfl, HS.out⟩
set_option maxRecDepth 100000 in
set_option maxHeartbeats 4000000 in
theorem r11valid_spec {W w : World} {A : Assn} {I : Mem} (a : Option Addr) (n c : Nat) (l : List Cl) (hv : (rCl.slice 5).rel I [.slice a n c] l) (hB : ∀ x ∈ l, x.body.size ≤ FmB) (h : Sat W w (sep (kn I) A)) :
    Calls Tryz.prog 59 #[.slice a n c] w fun e w' => e = .returned (.int .i64 (clE l)) ∧ Sat W w' (sep (kn I) A) := by
  have hn := (slice_len hv).1
  have hl63 := (slice_len hv).2.2
  obtain ⟨rv, hrv⟩ : ∃ z, z = clE l := ⟨_, rfl⟩
  rw [← hrv]
  have HRV : Hid (rv = (if 32 < n then 4 else clGo 0 l) ∧ n = l.length) := Lib.hid ⟨by rw [hrv, hn]; rfl, hn⟩
  have HV := Lib.hid hv
  have HBB := Lib.hid hB
  have H := Lib.hid h
  clear hv h hrv hn hB
  by_cases h32 : 32 < n
  · have h32z : (32 : Int) < (n : Int) := by omega
    have HF : Hid (rv = 4) := Lib.hid (by rw [HRV.out.1, if_pos h32])
    clear h32
    go_enter Tryz.func59, Tryz.ntmps59
    go_wp2
    go_ret
    exact ⟨by rw [HF.out]; rfl, H.out⟩
  · have h32z : ¬ (32 : Int) < (n : Int) := by omega
    have HG : Hid (rv = clGo 0 l) := Lib.hid (by rw [HRV.out.1, if_neg h32])
    have h32n : (n : Int) ≤ 32 := by omega
    clear h32
    go_enter Tryz.func59, Tryz.ntmps59
    go_upto_region 3 with (fail)
    clear h32z
    go_wp2
    go_loopw [3] (fun iv wr => ∃ k : Nat, iv = .int .i64 k ∧ k ≤ n ∧ Hid (rv = clGo k (l.drop k)) ∧ Sat W wr (sep (kn I) A)) (fun iv _ => n - (intOf iv).toNat)
    case atStart => exact ⟨0, rfl, by omega, HG, H.out⟩
    case round =>
      obtain ⟨k, rfl, hk, HT, hS⟩ := hrel
      by_cases hlt : k < n
      · have hltz : (k : Int) < (n : Int) := by omega
        have hkl : k < l.length := by have := HRV.out.2; omega
        obtain ⟨x, hx⟩ : ∃ x, l[k]? = some x := ⟨_, List.getElem?_eq_getElem hkl⟩
        obtain ⟨b, o, ra, rc, p, q, x1, n1, c1, x2, n2, c2, rfl, hrr, hrb, hcell⟩ := cl_elem HV.out hx
        obtain ⟨k0, k1, k2, k3, k4⟩ := hcell wr hS.ext
        have hT := HT.out
        rw [clGo_drop hx] at hT
        obtain ⟨nr, hnr⟩ : ∃ z, z = x.refs.length := ⟨_, rfl⟩
        obtain ⟨rf, hrf⟩ : ∃ z, z = refsP x.refs k := ⟨_, rfl⟩
        obtain ⟨be, hbe⟩ : ∃ z, z = fmE x.body := ⟨_, rfl⟩
        have hrs := r11refs_spec ra rc x.refs k hrr hS
        rw [← hrf, ← hnr] at hrs
        have HRF := Lib.hid hrs
        have hvs : ∀ w' A', Sat W w' (sep (kn I) A') → Calls Tryz.prog 57 #[.agg #[.int .i64 p, .int .i64 q, .slice x1 n1 c1, .slice x2 n2 c2]] w' fun e w'' => e = .returned (.int .i64 be) ∧ Sat W w'' (sep (kn I) A') := fun w' A' h' => by
          rw [hbe]; exact r07valid_spec x.body p q x1 n1 c1 x2 n2 c2 hrb (HBB.out x (List.mem_of_getElem? hx)) h'
        have HVS := Lib.hid hvs
        have HC := Lib.hid hcell
        have hr63 := (slice_len hrr).2.2
        rw [← hnr] at hT k0 hr63
        rw [← hrf, ← hbe] at hT
        have HT2 := Lib.hid hT
        have HK := Lib.hid hlt
        have HS0 := Lib.hid hS
        clear hx hrr hrb hcell hT hnr hrf hbe hrs hvs hS hlt hkl hk H HT HG
        by_cases h8 : 8 < nr
        · have h8z : (8 : Int) < (nr : Int) := by omega
          have HF : Hid (rv = 4) := Lib.hid (by rw [HT2.out, if_pos h8])
          clear h8
          go_wp2
          go_ret
          exact ⟨by rw [HF.out]; rfl, HS0.out⟩
        · have h8z : ¬ (8 : Int) < (nr : Int) := by omega
          have HT3 : Hid (rv = if rf = false then 1 else if be ≠ 0 then be else clGo (k + 1) (l.drop (k + 1))) := Lib.hid (by rw [HT2.out, if_neg h8])
          clear h8 HT2
          go_wp2_with fail
          refine HRF.out.mono ?_
          rintro e w2 ⟨rfl, h2⟩
          have H2 := Lib.hid h2
          clear h2 HRF k0 k1 k2 k3 k4 h8z
          obtain ⟨k0, k1, k2, k3, k4⟩ := HC.out w2 H2.out.ext
          cases rf with
          | false =>
            have HF : Hid (rv = 1) := Lib.hid (by rw [HT3.out]; rfl)
            go_wp2
            go_ret
            exact ⟨by rw [HF.out]; rfl, H2.out⟩
          | true =>
            go_wp2_with fail
            refine (HVS.out _ _ H2.out).mono ?_
            rintro e w3 ⟨rfl, h3⟩
            have H3 := Lib.hid h3
            clear h3 H2 HVS k0 k1 k2 k3 k4
            by_cases hb0 : be = 0
            · have HF : Hid (rv = clGo (k + 1) (l.drop (k + 1))) := Lib.hid (by rw [HT3.out]; simp [hb0])
              subst hb0
              go_wp2
              go_roundw
              case rel => exact ⟨k + 1, by go_num, by have := HK.out; omega, HF, H3.out⟩
              case measure => simp [intOf]; have := HK.out; omega
            · have HF : Hid (rv = be) := Lib.hid (by rw [HT3.out]; simp [hb0])
              have hb1 : (be != 0) = true := by simpa using hb0
              have hb2 : (be == 0) = false := by simpa using hb0
              clear hb0
              go_wp2
              go_ret
              exact ⟨by rw [HF.out]; rfl, H3.out⟩
      · obtain rfl : k = n := by omega
        have HF : Hid (rv = 0) := Lib.hid (by
          have := HT.out
          rw [List.drop_of_length_le (by have := HRV.out.2; omega)] at this
          exact this)
        have HS := Lib.hid hS
        clear hS H
        go_wp2
        go_ret
        exact ⟨by rw [HF.out]; rfl, HS.out⟩
end Go.Proofs.YtodipneapffjdaaGreatDoor
