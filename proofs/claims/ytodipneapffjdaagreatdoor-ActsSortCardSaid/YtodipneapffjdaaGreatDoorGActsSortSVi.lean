/- The reference's Tops and Parts (the same code), parts of formulas. -/
import Derived.Test.YtodipneapffjdaaGreatDoorGActsSort12
import Derived.Test.YtodipneapffjdaaGreatDoorGActsSortSGc
import Derived.Deep.DeepCutAuto
import Derived.Deep.CutBlock
namespace PA
open Go Go.RowKit
theorem rows_append {α : Type} {R : Rep α} {k : Nat} {I : Mem} {c d : List Value} {xs ys : List α} (h : (R.rows k).rel I c xs) (h' : (R.rows k).rel I d ys) : (R.rows k).rel I (c ++ d) (xs ++ ys) := by
  obtain ⟨c1, rfl, h1⟩ := h
  obtain ⟨c2, rfl, h2⟩ := h'
  exact ⟨c1 ++ c2, by simp, h1.append h2⟩
theorem rows_nilv {α : Type} (R : Rep α) (k : Nat) (I : Mem) : (R.rows k).rel I [] [] := ⟨[], rfl, trivial⟩
theorem rF_onev {I : Mem} {cs : List Value} {f : Fm} (h : rF.rel I cs f) : ∀ u ∈ cs, u.oneCell' = true := by
  obtain ⟨o, n, i, k⟩ := f
  obtain ⟨a, c, b, d, rfl, -, -⟩ := rF_iff.1 h
  intro u hu
  simp only [List.mem_cons, List.not_mem_nil, or_false] at hu
  rcases hu with rfl | rfl | rfl | rfl <;> rfl
theorem rF_rows_one {I : Mem} : ∀ {css : List (List Value)} {xs : List Fm}, All2 (fun c x => rF.rel I c x ∧ c.length = 4) css xs → ∀ u ∈ css.flatten, u.oneCell' = true
  | [], [], _, u, hu => by cases hu
  | c :: css, x :: xs, h, u, hu => by
    rw [List.flatten_cons, List.mem_append] at hu
    rcases hu with hu | hu
    · exact rF_onev h.1.1 u hu
    · exact rF_rows_one h.2 u hu
  | [], _ :: _, h, _, _ => h.elim
  | _ :: _, [], h, _, _ => h.elim
theorem rows_flat_len {α : Type} {R : Rep α} {k : Nat} {I : Mem} : ∀ {css : List (List Value)} {xs : List α}, All2 (fun c x => R.rel I c x ∧ c.length = k) css xs → css.flatten.length = xs.length * k
  | [], [], _ => by simp
  | c :: css, x :: xs, h => by
    rw [List.flatten_cons, List.length_append, h.1.2, rows_flat_len h.2, List.length_cons, Nat.add_mul]; omega
  | [], _ :: _, h => h.elim
  | _ :: _, [], h => h.elim
/-- A settled slice of formulas as the source of an append. -/
theorem fms_src {I : Mem} {a : Option Addr} {n c : Nat} {l : List Fm} (h : (rF.slice 4).rel I [.slice a n c] l) :
    ∃ vs : List Value, vs.length = n * 4 ∧ (a = none → n = 0) ∧ (∀ u ∈ vs, u.oneCell' = true) ∧ (rF.rows 4).rel I vs l ∧ ∀ w', Ext I w' → ∀ b, a = some b → ∀ j u, vs[j]? = some u → w'.cell? (b.add j) = some u := by
  obtain ⟨a', c', cells, e, hsw, hc, hr⟩ := h
  simp only [List.cons.injEq, Value.slice.injEq, and_true] at e
  obtain ⟨rfl, rfl, rfl⟩ := e
  obtain ⟨css, rfl, h2⟩ := id hr
  exact ⟨css.flatten, rows_flat_len h2, fun e => by have := hsw.2.2 e; have := hsw.1; omega, rF_rows_one h2, hr, fun w' he => src_ext hc he⟩
/-- An owned slice of formulas, settled. -/
theorem fms_settle {W w : World} {A : Assn} {J : Mem} {E : Nat} {a : Option Addr} {n c : Nat} {vs : List Value} {xs : List Fm} (hr : (rF.rows 4).rel J vs xs) (hn : n = xs.length) (h : Sat W w (sep (osl E 4 a n c vs) (sep (kn J) A))) :
    ∃ J', Mem.le J J' ∧ (rF.slice 4).rel J' [.slice a n c] xs ∧ Sat W w (sep (kn J') A) := by
  have hsw := h.swf_of_osl
  obtain ⟨J', hle, hJ, h9⟩ := h.osl_settle.learn
  exact ⟨J', hle, ⟨a, c, vs, by rw [hn], by rw [← hn]; exact hsw, hJ, (rF.rows 4).mono hle hr⟩, h9⟩
theorem Fm.tops_len : ∀ f : Fm, f.tops.length ≤ f.size := by
  intro f
  refine Fm.ind (P := fun f => f.tops.length ≤ f.size) (fun o n i k ih => ?_) f
  rw [Fm.tops, Fm.size]
  split
  · have : (Fm.topss k).length ≤ Fm.sizes k := by
      induction k with
      | nil => simp [Fm.topss]
      | cons g k ihk =>
        rw [Fm.topss, Fm.sizes, List.length_append]
        have h1 := ih g (List.mem_cons_self ..)
        have h2 := ihk fun f hf => ih f (List.mem_cons_of_mem _ hf)
        omega
    omega
  · simp
theorem Fm.topss_len (l : List Fm) : (Fm.topss l).length ≤ Fm.sizes l := by
  induction l with
  | nil => simp [Fm.topss]
  | cons g l ih => rw [Fm.topss, Fm.sizes, List.length_append]; have := Fm.tops_len g; omega
theorem Fm.topss_at (l : List Fm) (i : Nat) {f : Fm} (h : l[i]? = some f) : Fm.topss (l.take (i + 1)) = Fm.topss (l.take i) ++ Fm.tops f := by
  obtain ⟨hi, rfl⟩ := List.getElem?_eq_some_iff.1 h
  exact Fm.topss_take l i hi
end PA
namespace Go.Proofs.YtodipneapffjdaaGreatDoor
open Go.RowKit PA
attribute [local go_sem ↓] buildSlice_fm
attribute [local go_sem] bsFm1
set_option maxRecDepth 100000 in
set_option maxHeartbeats 4000000 in
theorem r11tops_spec {W : World} (f : Fm) : ∀ (w : World) (A : Assn) (I : Mem) (p q : Int) (x1 : Option Addr) (n1 c1 : Nat) (x2 : Option Addr) (n2 c2 : Nat), rF.rel I [.int .i64 p, .int .i64 q, .slice x1 n1 c1, .slice x2 n2 c2] f → f.size ≤ FmB → Sat W w (sep (kn I) A) →
    Calls Tryz.prog 126 #[.agg #[.int .i64 p, .int .i64 q, .slice x1 n1 c1, .slice x2 n2 c2]] w fun e w' => ∃ (a : Option Addr) (n c : Nat) (J : Mem), e = .returned (.slice a n c) ∧ n = f.tops.length ∧ Mem.le I J ∧ (rF.slice 4).rel J [.slice a n c] f.tops ∧ Sat W w' (sep (kn J) A) := by
  refine Fm.ind (P := fun f => ∀ (w : World) (A : Assn) (I : Mem) (p q : Int) (x1 : Option Addr) (n1 c1 : Nat) (x2 : Option Addr) (n2 c2 : Nat), rF.rel I [.int .i64 p, .int .i64 q, .slice x1 n1 c1, .slice x2 n2 c2] f → f.size ≤ FmB → Sat W w (sep (kn I) A) →
    Calls Tryz.prog 126 #[.agg #[.int .i64 p, .int .i64 q, .slice x1 n1 c1, .slice x2 n2 c2]] w fun e w' => ∃ (a : Option Addr) (n c : Nat) (J : Mem), e = .returned (.slice a n c) ∧ n = f.tops.length ∧ Mem.le I J ∧ (rF.slice 4).rel J [.slice a n c] f.tops ∧ Sat W w' (sep (kn J) A)) (fun o n i k ih => ?_) f
  intro w A I p q x1 n1 c1 x2 n2 c2 hr hsz h
  have hr0 := hr
  obtain ⟨x1', c1', x2', c2', e, hi, hk⟩ := rF_iff.1 hr
  simp only [List.cons.injEq, Value.int.injEq, Value.slice.injEq, true_and, and_true] at e
  obtain ⟨rfl, rfl, ⟨rfl, rfl, rfl⟩, ⟨rfl, rfl, rfl⟩⟩ := e
  have h1 := h.alloc (.cells #[.int .i64 p, .int .i64 q, .slice x1 i.length c1, .slice x2 k.length c2] 35)
  obtain ⟨nk, hnk⟩ : ∃ z, z = k.length := ⟨_, rfl⟩
  obtain ⟨ni, hni⟩ : ∃ z, z = i.length := ⟨_, rfl⟩
  have hk63 := (slice_len hk).2.2
  have HIH := Lib.hid ih
  rw [← hnk, ← hni] at hr0
  rw [← hnk] at hk hk63 h1 ⊢
  rw [← hni] at h1 ⊢
  obtain ⟨B, hB⟩ : ∃ B, B = w.heap.size := ⟨_, rfl⟩
  obtain ⟨w1, hw1⟩ : ∃ z, z = w.alloc (.cells #[.int .i64 p, .int .i64 q, .slice x1 ni c1, .slice x2 nk c2] 35) := ⟨_, rfl⟩
  rw [← hB, ← hw1] at h1
  have HB := Lib.hid (And.intro hB hw1)
  have H1 := Lib.hid h1
  obtain ⟨k0, k1, k2, k3⟩ := fm4 h1
  have HR := Lib.hid (And.intro hr0 (And.intro hk (And.intro hnk hsz)))
  clear hr hr0 hsz h hi hk h1 hB hw1 hnk hni ih
  by_cases o5 : p = 5
  · subst o5
    have HTO : Hid (∀ r, r = Fm.topss k → r = (Fm.mk 5 q i k).tops) := Lib.hid (fun r e => by rw [e, Fm.tops, if_pos rfl])
    have hszk : Fm.sizes k ≤ 1000000 := by have := HR.out.2.2.2; rw [Fm.size] at this; unfold FmB at this; omega
    have HSZ := Lib.hid hszk
    clear hszk
    go_enter Tryz.func126, Tryz.ntmps126
    go_upto_region 1 with (fail)
    rw [← HB.out.1, ← HB.out.2]
    go_upto_region 4 with (fail)
    clear k0 k1 k2 k3
    go_wp2_with fail
    go_loopw [3, 4] (fun ov iv wr => ∃ (j m d : Nat) (b : Option Addr) (vs : List Value) (J : Mem), ov = .slice b m d ∧ iv = .int .i64 j ∧ j ≤ nk ∧ m ≤ 1000000 ∧ Hid (m = (Fm.topss (k.take j)).length ∧ Mem.le I J ∧ (rF.rows 4).rel J vs (Fm.topss (k.take j))) ∧ Sat W wr (sep (osl 35 4 b m d vs) (sep (kn J) (sep (blk B (.cells #[.int .i64 5, .int .i64 q, .slice x1 ni c1, .slice x2 nk c2] 35 (0, 0))) A)))) (fun _ iv _ => nk - (intOf iv).toNat)
    case atStart => exact ⟨0, 0, 0, none, [], I, rfl, rfl, by omega, by omega, Lib.hid ⟨by simp [Fm.topss], Mem.le_refl _, by simp only [List.take_zero, Fm.topss]; exact rows_nilv _ _ _⟩, (H1.out.p1).osl_nil 35 4⟩
    case round =>
      obtain ⟨j, m, d, b, vs, J, rfl, rfl, hj, hm6, HV, hS⟩ := hrel
      obtain ⟨-, -, -, k3⟩ := fm4 hS.p2
      by_cases hlt : j < nk
      · have hltz : (j : Int) < (nk : Int) := by omega
        obtain ⟨g, hg⟩ : ∃ g, k[j]? = some g := ⟨_, List.getElem?_eq_getElem (by have := HR.out.2.2.1; omega)⟩
        obtain ⟨b2, o2, p', q', y1, m1, d1, y2, m2, d2, rfl, hgr, hcell⟩ := fm_elem HR.out.2.1 hg
        have hmem : g ∈ k := List.mem_of_getElem? hg
        have hgJ := rF.mono HV.out.2.1 hgr
        obtain ⟨j0, j1, j2, j3⟩ := hcell wr (fun i o hb => hS.p1.ext i o (HV.out.2.1 i o hb))
        have htk := Fm.topss_at k j hg
        have hgs := Fm.sizes_mem hmem
        have hrec := HIH.out g hmem wr _ J p' q' y1 m1 d1 y2 m2 d2 hgJ (by have := HSZ.out; unfold FmB; omega) hS.p1
        have hbnd : (Fm.topss (k.take (j + 1))).length ≤ 1000000 := by have h1 := Fm.topss_len (k.take (j + 1)); have h2 := Fm.sizes_le k (j + 1); have := HSZ.out; omega
        have HRC := Lib.hid hrec
        have HT := Lib.hid (And.intro htk hbnd)
        have HL := Lib.hid hlt
        clear hgr hcell hmem hgJ htk hgs hrec hg hS hlt hj hbnd H1
        go_upto_region 7 with (fail)
        go_wp2_with fail
        refine HRC.out.mono ?_
        rintro e w2 ⟨a3, n3, c3, J3, rfl, hn3, hle3, hr3, h2⟩
        obtain ⟨us, hul, hu0, hu1, hur, husrc⟩ := fms_src hr3
        have hmn : m + n3 ≤ 1000000 := by have := HT.out.2; rw [HT.out.1, List.length_append, ← HV.out.1, ← hn3] at this; exact this
        have HU := Lib.hid (And.intro hul (And.intro hu0 (And.intro hu1 (And.intro hur (husrc w2 h2.ext)))))
        have HN := Lib.hid (And.intro hmn (And.intro hn3 hle3))
        have H2 := Lib.hid (show Sat W w2 (sep (osl 35 4 b m d vs) (sep (kn J3) (sep (blk B (.cells #[.int .i64 5, .int .i64 q, .slice x1 ni c1, .slice (some ⟨b2, o2, none⟩) nk c2] 35 (0, 0))) A))) from h2.p1)
        clear h2 hul hu0 hu1 hur husrc hmn hn3 hle3 hr3 HRC j0 j1 j2 j3 k3
        go_wp2_with (at_builtin; go_loud (refine wpl_append_osl rfl _ _ 28 rfl 35 4 64 _ Tryz.underlying28 infoFm rfl rfl H2.out rfl us HU.out.1 HU.out.2.1 HU.out.2.2.2.2 HU.out.2.2.1 (by have := HN.out.1; omega) (by unfold maxLen; have := HN.out.1; omega) ?_))
        intro a4 c4 w4 h4
        have H4 := Lib.hid h4
        clear h4 H2
        go_wp2
        go_roundw
        case rel => exact ⟨j + 1, m + n3, c4, a4, vs ++ us, J3, rfl, by go_num, by have := HL.out; omega, HN.out.1, Lib.hid ⟨by rw [HT.out.1, List.length_append, ← HV.out.1, ← HN.out.2.1], Mem.le_trans HV.out.2.1 HN.out.2.2, by rw [HT.out.1]; exact rows_append ((rF.rows 4).mono HN.out.2.2 HV.out.2.2) HU.out.2.2.2.1⟩, H4.out⟩
        case measure => simp [intOf]; have := HL.out; omega
      · obtain rfl : j = nk := by omega
        obtain ⟨hv1, hv2, hv3⟩ := HV.out
        rw [List.take_of_length_le (by have := HR.out.2.2.1; omega)] at hv1 hv3
        obtain ⟨J', hle', hr', h'⟩ := fms_settle hv3 hv1 hS
        have HF := Lib.hid (And.intro hv1 (And.intro (Mem.le_trans hv2 hle') (And.intro hr' h'.p1.drop)))
        clear hS hv1 hv2 hv3 hle' hr' h' H1
        go_wp2
        go_ret
        rw [← HTO.out _ rfl]
        exact ⟨b, m, d, J', rfl, HF.out.1, HF.out.2.1, HF.out.2.2.1, HF.out.2.2.2⟩
  · have HTO : Hid ((Fm.mk p q i k).tops = [Fm.mk p q i k]) := Lib.hid (by rw [Fm.tops, if_neg o5])
    have o5' : (p != 5) = true := by simpa using o5
    have h5 := H1.out.alloc (.cells #[.int .i64 p, .int .i64 q, .slice x1 ni c1, .slice x2 nk c2] 35)
    obtain ⟨J', hle', hr', h6⟩ := litR (R := rF) (k := 4) (show Sat W w1 (sep (kn I) (sep (blk B (.cells #[.int .i64 p, .int .i64 q, .slice x1 ni c1, .slice x2 nk c2] 35 (0, 0))) A)) from H1.out.p1) [.int .i64 p, .int .i64 q, .slice x1 ni c1, .slice x2 nk c2] [Fm.mk p q i k] 35 (rows_one HR.out.1 rfl) (by simp [maxLen])
    have HF := Lib.hid (And.intro hle' (And.intro hr' h6.p1.drop))
    clear h5 hle' hr' h6 o5
    go_enter Tryz.func126, Tryz.ntmps126
    go_upto_region 1 with (fail)
    rw [← HB.out.1, ← HB.out.2]
    go_wp2
    go_ret
    rw [HTO.out]
    exact ⟨_, _, _, J', rfl, rfl, HF.out.1, HF.out.2.1, HF.out.2.2⟩
set_option maxRecDepth 100000 in
set_option maxHeartbeats 4000000 in
theorem r12parts_spec {W : World} (f : Fm) : ∀ (w : World) (A : Assn) (I : Mem) (p q : Int) (x1 : Option Addr) (n1 c1 : Nat) (x2 : Option Addr) (n2 c2 : Nat), rF.rel I [.int .i64 p, .int .i64 q, .slice x1 n1 c1, .slice x2 n2 c2] f → f.size ≤ FmB → Sat W w (sep (kn I) A) →
    Calls Tryz.prog 106 #[.agg #[.int .i64 p, .int .i64 q, .slice x1 n1 c1, .slice x2 n2 c2]] w fun e w' => ∃ (a : Option Addr) (n c : Nat) (J : Mem), e = .returned (.slice a n c) ∧ n = f.tops.length ∧ Mem.le I J ∧ (rF.slice 4).rel J [.slice a n c] f.tops ∧ Sat W w' (sep (kn J) A) := by
  refine Fm.ind (P := fun f => ∀ (w : World) (A : Assn) (I : Mem) (p q : Int) (x1 : Option Addr) (n1 c1 : Nat) (x2 : Option Addr) (n2 c2 : Nat), rF.rel I [.int .i64 p, .int .i64 q, .slice x1 n1 c1, .slice x2 n2 c2] f → f.size ≤ FmB → Sat W w (sep (kn I) A) →
    Calls Tryz.prog 106 #[.agg #[.int .i64 p, .int .i64 q, .slice x1 n1 c1, .slice x2 n2 c2]] w fun e w' => ∃ (a : Option Addr) (n c : Nat) (J : Mem), e = .returned (.slice a n c) ∧ n = f.tops.length ∧ Mem.le I J ∧ (rF.slice 4).rel J [.slice a n c] f.tops ∧ Sat W w' (sep (kn J) A)) (fun o n i k ih => ?_) f
  intro w A I p q x1 n1 c1 x2 n2 c2 hr hsz h
  have hr0 := hr
  obtain ⟨x1', c1', x2', c2', e, hi, hk⟩ := rF_iff.1 hr
  simp only [List.cons.injEq, Value.int.injEq, Value.slice.injEq, true_and, and_true] at e
  obtain ⟨rfl, rfl, ⟨rfl, rfl, rfl⟩, ⟨rfl, rfl, rfl⟩⟩ := e
  have h1 := h.alloc (.cells #[.int .i64 p, .int .i64 q, .slice x1 i.length c1, .slice x2 k.length c2] 35)
  obtain ⟨nk, hnk⟩ : ∃ z, z = k.length := ⟨_, rfl⟩
  obtain ⟨ni, hni⟩ : ∃ z, z = i.length := ⟨_, rfl⟩
  have hk63 := (slice_len hk).2.2
  have HIH := Lib.hid ih
  rw [← hnk, ← hni] at hr0
  rw [← hnk] at hk hk63 h1 ⊢
  rw [← hni] at h1 ⊢
  obtain ⟨B, hB⟩ : ∃ B, B = w.heap.size := ⟨_, rfl⟩
  obtain ⟨w1, hw1⟩ : ∃ z, z = w.alloc (.cells #[.int .i64 p, .int .i64 q, .slice x1 ni c1, .slice x2 nk c2] 35) := ⟨_, rfl⟩
  rw [← hB, ← hw1] at h1
  have HB := Lib.hid (And.intro hB hw1)
  have H1 := Lib.hid h1
  obtain ⟨k0, k1, k2, k3⟩ := fm4 h1
  have HR := Lib.hid (And.intro hr0 (And.intro hk (And.intro hnk hsz)))
  clear hr hr0 hsz h hi hk h1 hB hw1 hnk hni ih
  by_cases o5 : p = 5
  · subst o5
    have HTO : Hid (∀ r, r = Fm.topss k → r = (Fm.mk 5 q i k).tops) := Lib.hid (fun r e => by rw [e, Fm.tops, if_pos rfl])
    have hszk : Fm.sizes k ≤ 1000000 := by have := HR.out.2.2.2; rw [Fm.size] at this; unfold FmB at this; omega
    have HSZ := Lib.hid hszk
    clear hszk
    go_enter Tryz.func106, Tryz.ntmps106
    go_upto_region 1 with (fail)
    rw [← HB.out.1, ← HB.out.2]
    go_upto_region 4 with (fail)
    clear k0 k1 k2 k3
    go_wp2_with fail
    go_loopw [3, 4] (fun ov iv wr => ∃ (j m d : Nat) (b : Option Addr) (vs : List Value) (J : Mem), ov = .slice b m d ∧ iv = .int .i64 j ∧ j ≤ nk ∧ m ≤ 1000000 ∧ Hid (m = (Fm.topss (k.take j)).length ∧ Mem.le I J ∧ (rF.rows 4).rel J vs (Fm.topss (k.take j))) ∧ Sat W wr (sep (osl 35 4 b m d vs) (sep (kn J) (sep (blk B (.cells #[.int .i64 5, .int .i64 q, .slice x1 ni c1, .slice x2 nk c2] 35 (0, 0))) A)))) (fun _ iv _ => nk - (intOf iv).toNat)
    case atStart => exact ⟨0, 0, 0, none, [], I, rfl, rfl, by omega, by omega, Lib.hid ⟨by simp [Fm.topss], Mem.le_refl _, by simp only [List.take_zero, Fm.topss]; exact rows_nilv _ _ _⟩, (H1.out.p1).osl_nil 35 4⟩
    case round =>
      obtain ⟨j, m, d, b, vs, J, rfl, rfl, hj, hm6, HV, hS⟩ := hrel
      obtain ⟨-, -, -, k3⟩ := fm4 hS.p2
      by_cases hlt : j < nk
      · have hltz : (j : Int) < (nk : Int) := by omega
        obtain ⟨g, hg⟩ : ∃ g, k[j]? = some g := ⟨_, List.getElem?_eq_getElem (by have := HR.out.2.2.1; omega)⟩
        obtain ⟨b2, o2, p', q', y1, m1, d1, y2, m2, d2, rfl, hgr, hcell⟩ := fm_elem HR.out.2.1 hg
        have hmem : g ∈ k := List.mem_of_getElem? hg
        have hgJ := rF.mono HV.out.2.1 hgr
        obtain ⟨j0, j1, j2, j3⟩ := hcell wr (fun i o hb => hS.p1.ext i o (HV.out.2.1 i o hb))
        have htk := Fm.topss_at k j hg
        have hgs := Fm.sizes_mem hmem
        have hrec := HIH.out g hmem wr _ J p' q' y1 m1 d1 y2 m2 d2 hgJ (by have := HSZ.out; unfold FmB; omega) hS.p1
        have hbnd : (Fm.topss (k.take (j + 1))).length ≤ 1000000 := by have h1 := Fm.topss_len (k.take (j + 1)); have h2 := Fm.sizes_le k (j + 1); have := HSZ.out; omega
        have HRC := Lib.hid hrec
        have HT := Lib.hid (And.intro htk hbnd)
        have HL := Lib.hid hlt
        clear hgr hcell hmem hgJ htk hgs hrec hg hS hlt hj hbnd H1
        go_upto_region 7 with (fail)
        go_wp2_with fail
        refine HRC.out.mono ?_
        rintro e w2 ⟨a3, n3, c3, J3, rfl, hn3, hle3, hr3, h2⟩
        obtain ⟨us, hul, hu0, hu1, hur, husrc⟩ := fms_src hr3
        have hmn : m + n3 ≤ 1000000 := by have := HT.out.2; rw [HT.out.1, List.length_append, ← HV.out.1, ← hn3] at this; exact this
        have HU := Lib.hid (And.intro hul (And.intro hu0 (And.intro hu1 (And.intro hur (husrc w2 h2.ext)))))
        have HN := Lib.hid (And.intro hmn (And.intro hn3 hle3))
        have H2 := Lib.hid (show Sat W w2 (sep (osl 35 4 b m d vs) (sep (kn J3) (sep (blk B (.cells #[.int .i64 5, .int .i64 q, .slice x1 ni c1, .slice (some ⟨b2, o2, none⟩) nk c2] 35 (0, 0))) A))) from h2.p1)
        clear h2 hul hu0 hu1 hur husrc hmn hn3 hle3 hr3 HRC j0 j1 j2 j3 k3
        go_wp2_with (at_builtin; go_loud (refine wpl_append_osl rfl _ _ 28 rfl 35 4 64 _ Tryz.underlying28 infoFm rfl rfl H2.out rfl us HU.out.1 HU.out.2.1 HU.out.2.2.2.2 HU.out.2.2.1 (by have := HN.out.1; omega) (by unfold maxLen; have := HN.out.1; omega) ?_))
        intro a4 c4 w4 h4
        have H4 := Lib.hid h4
        clear h4 H2
        go_wp2
        go_roundw
        case rel => exact ⟨j + 1, m + n3, c4, a4, vs ++ us, J3, rfl, by go_num, by have := HL.out; omega, HN.out.1, Lib.hid ⟨by rw [HT.out.1, List.length_append, ← HV.out.1, ← HN.out.2.1], Mem.le_trans HV.out.2.1 HN.out.2.2, by rw [HT.out.1]; exact rows_append ((rF.rows 4).mono HN.out.2.2 HV.out.2.2) HU.out.2.2.2.1⟩, H4.out⟩
        case measure => simp [intOf]; have := HL.out; omega
      · obtain rfl : j = nk := by omega
        obtain ⟨hv1, hv2, hv3⟩ := HV.out
        rw [List.take_of_length_le (by have := HR.out.2.2.1; omega)] at hv1 hv3
        obtain ⟨J', hle', hr', h'⟩ := fms_settle hv3 hv1 hS
        have HF := Lib.hid (And.intro hv1 (And.intro (Mem.le_trans hv2 hle') (And.intro hr' h'.p1.drop)))
        clear hS hv1 hv2 hv3 hle' hr' h' H1
        go_wp2
        go_ret
        rw [← HTO.out _ rfl]
        exact ⟨b, m, d, J', rfl, HF.out.1, HF.out.2.1, HF.out.2.2.1, HF.out.2.2.2⟩
  · have HTO : Hid ((Fm.mk p q i k).tops = [Fm.mk p q i k]) := Lib.hid (by rw [Fm.tops, if_neg o5])
    have o5' : (p != 5) = true := by simpa using o5
    have h5 := H1.out.alloc (.cells #[.int .i64 p, .int .i64 q, .slice x1 ni c1, .slice x2 nk c2] 35)
    obtain ⟨J', hle', hr', h6⟩ := litR (R := rF) (k := 4) (show Sat W w1 (sep (kn I) (sep (blk B (.cells #[.int .i64 p, .int .i64 q, .slice x1 ni c1, .slice x2 nk c2] 35 (0, 0))) A)) from H1.out.p1) [.int .i64 p, .int .i64 q, .slice x1 ni c1, .slice x2 nk c2] [Fm.mk p q i k] 35 (rows_one HR.out.1 rfl) (by simp [maxLen])
    have HF := Lib.hid (And.intro hle' (And.intro hr' h6.p1.drop))
    clear h5 hle' hr' h6 o5
    go_enter Tryz.func106, Tryz.ntmps106
    go_upto_region 1 with (fail)
    rw [← HB.out.1, ← HB.out.2]
    go_wp2
    go_ret
    rw [HTO.out]
    exact ⟨_, _, _, J', rfl, rfl, HF.out.1, HF.out.2.1, HF.out.2.2⟩
set_option maxHeartbeats 2000000 in
theorem r11parts_spec {W w : World} {A : Assn} {I : Mem} (f : Fm) (p q : Int) (x1 : Option Addr) (n1 c1 : Nat) (x2 : Option Addr) (n2 c2 : Nat) (hr : rF.rel I [.int .i64 p, .int .i64 q, .slice x1 n1 c1, .slice x2 n2 c2] f) (h : Sat W w (sep (kn I) A)) :
    Calls Tryz.prog 127 #[.agg #[.int .i64 p, .int .i64 q, .slice x1 n1 c1, .slice x2 n2 c2]] w fun e w' => ∃ (a : Option Addr) (n c : Nat) (J : Mem), e = .returned (.slice a n c) ∧ n = f.parts.length ∧ Mem.le I J ∧ (rF.slice 4).rel J [.slice a n c] f.parts ∧ Sat W w' (sep (kn J) A) := by
  obtain ⟨o, n, i, k⟩ := f
  have hr0 := hr
  obtain ⟨x1', c1', x2', c2', e, hi, hk⟩ := rF_iff.1 hr
  simp only [List.cons.injEq, Value.int.injEq, Value.slice.injEq, true_and, and_true] at e
  obtain ⟨rfl, rfl, ⟨rfl, rfl, rfl⟩, ⟨rfl, rfl, rfl⟩⟩ := e
  have h1 := h.alloc (.cells #[.int .i64 p, .int .i64 q, .slice x1 i.length c1, .slice x2 k.length c2] 35)
  obtain ⟨nk, hnk⟩ : ∃ z, z = k.length := ⟨_, rfl⟩
  obtain ⟨ni, hni⟩ : ∃ z, z = i.length := ⟨_, rfl⟩
  rw [← hnk, ← hni] at hr0
  rw [← hnk] at hk h1 ⊢
  rw [← hni] at h1 ⊢
  obtain ⟨B, hB⟩ : ∃ B, B = w.heap.size := ⟨_, rfl⟩
  obtain ⟨w1, hw1⟩ : ∃ z, z = w.alloc (.cells #[.int .i64 p, .int .i64 q, .slice x1 ni c1, .slice x2 nk c2] 35) := ⟨_, rfl⟩
  rw [← hB, ← hw1] at h1
  have HB := Lib.hid (And.intro hB hw1)
  have H1 := Lib.hid h1
  obtain ⟨k0, k1, k2, k3⟩ := fm4 h1
  have HR := Lib.hid (And.intro hr0 (And.intro hk hnk))
  clear hr hr0 h hi hk h1 hB hw1 hnk hni
  by_cases o4 : p = 4
  · subst o4
    have HTO : Hid ((Fm.mk 4 q i k).parts = k) := Lib.hid (show (if (4 : Int) = 4 then k else [Fm.mk 4 q i k]) = k from if_pos rfl)
    go_enter Tryz.func127, Tryz.ntmps127
    go_upto_region 1 with (fail)
    rw [← HB.out.1, ← HB.out.2]
    go_wp2
    go_ret
    rw [HTO.out]
    exact ⟨_, _, _, I, rfl, HR.out.2.2, Mem.le_refl _, HR.out.2.1, H1.out.drop⟩
  · have HTO : Hid ((Fm.mk p q i k).parts = [Fm.mk p q i k]) := Lib.hid (show (if p = 4 then k else [Fm.mk p q i k]) = [Fm.mk p q i k] from if_neg o4)
    have o4' : (p == 4) = false := by simpa using o4
    obtain ⟨J', hle', hr', h6⟩ := litR (R := rF) (k := 4) (show Sat W w1 (sep (kn I) (sep (blk B (.cells #[.int .i64 p, .int .i64 q, .slice x1 ni c1, .slice x2 nk c2] 35 (0, 0))) A)) from H1.out.p1) [.int .i64 p, .int .i64 q, .slice x1 ni c1, .slice x2 nk c2] [Fm.mk p q i k] 35 (rows_one HR.out.1 rfl) (by simp [maxLen])
    have HF := Lib.hid (And.intro hle' (And.intro hr' h6.p1.drop))
    clear hle' hr' h6 o4
    go_enter Tryz.func127, Tryz.ntmps127
    go_upto_region 1 with (fail)
    rw [← HB.out.1, ← HB.out.2]
    go_wp2
    go_ret
    rw [HTO.out]
    exact ⟨_, _, _, J', rfl, rfl, HF.out.1, HF.out.2.1, HF.out.2.2⟩
end Go.Proofs.YtodipneapffjdaaGreatDoor
