/- The reference's box: Open. -/
import Derived.Test.YtcnonbhhlbplpaaS23
namespace PA
open Go Go.RowKit
theorem flatten_set {k : Nat} (v : Value) (j : Nat) (hj : j < k) : ∀ (css : List (List Value)), (∀ c ∈ css, c.length = k) → ∀ (i : Nat), i < css.length → css.flatten.set (i * k + j) v = (css.modify i (·.set j v)).flatten
  | c :: css, h, 0, _ => by
    have hc := h c (by simp)
    simp only [List.flatten_cons, Nat.zero_mul, Nat.zero_add, List.modify_zero_cons]
    rw [List.set_append, if_pos (by omega)]
  | c :: css, h, i + 1, hi => by
    have hc := h c (by simp)
    simp only [List.flatten_cons, List.modify_succ_cons]
    rw [List.set_append, if_neg (by rw [Nat.add_mul]; omega), hc, show (i + 1) * k + j - k = i * k + j by rw [Nat.add_mul]; omega, flatten_set v j hj css (fun c hc => h c (by simp [hc])) i (by simpa using hi)]
theorem All2.modify {α β : Type} {p : α → β → Prop} {f : α → α} {g : β → β} : ∀ {l : List α} {m : List β}, All2 p l m → ∀ (i : Nat), (∀ (hl : i < l.length) (hm : i < m.length), p l[i] m[i] → p (f l[i]) (g m[i])) → All2 p (l.modify i f) (m.modify i g)
  | [], [], _, _, _ => by simp [All2]
  | a :: l, b :: m, h, 0, hf => by
    simp only [List.modify_zero_cons]
    exact ⟨hf (by simp) (by simp) h.1, h.2⟩
  | a :: l, b :: m, h, i + 1, hf => by
    simp only [List.modify_succ_cons]
    exact ⟨h.1, All2.modify h.2 i fun hl hm hp => hf (by simpa using hl) (by simpa using hm) hp⟩
  | [], _ :: _, hh, _, _ => hh.elim
  | _ :: _, [], hh, _, _ => hh.elim
theorem rows_set {α : Type} {R : Rep α} {k : Nat} {I : Mem} {cs : List Value} {xs : List α} (h : (R.rows k).rel I cs xs) (i : Nat) (_hi : i < xs.length) (j : Nat) (hj : j < k) (v : Value) (f : α → α)
    (hf : ∀ c, R.rel I c (xs[i]'_hi) → c.length = k → R.rel I (c.set j v) (f xs[i])) : (R.rows k).rel I (cs.set (i * k + j) v) (xs.modify i f) := by
  obtain ⟨css, rfl, hall⟩ := h
  have hl := hall.length
  refine ⟨css.modify i (·.set j v), flatten_set v j hj css (fun c hc => (hall.mem c hc).choose_spec.2) i (by omega), hall.modify i fun hl hm hp => ⟨hf _ hp.1 hp.2, by rw [List.length_set]; exact hp.2⟩⟩
theorem Sat.osl_setK {W w : World} {A : Assn} {E k g n c : Nat} {xs : List Value} (h : Sat W w (sep (osl E k (some ⟨g, 0, none⟩) n c xs) A)) (i : Nat) (hi : i < xs.length) (v : Value) :
    w.frozen? ⟨g, i, none⟩ = false ∧ Sat W (w.setCell ⟨g, i, none⟩ v) (sep (osl E k (some ⟨g, 0, none⟩) n c (xs.set i v)) A) := by
  rcases h.osl_cases with ⟨e, _⟩ | ⟨g', cur, e, h1, h2, h3, h4, h5, h6⟩
  · cases e
  · cases e
    refine ⟨h6.unfrozen i, (h6.setCell i v).osl_mk n c k _ (by rw [List.length_set]; exact h1) h2 h3 (by simpa using h4) ?_⟩
    rw [Array.toList_setIfInBounds, ← h5, List.take_set]
end PA
namespace Go.Proofs.Ytcnonbhhlbplpaa
open Go.RowKit PA
set_option maxRecDepth 100000 in
set_option maxHeartbeats 4000000 in
theorem rsopen_no {W w : World} {A : Assn} (q : Nat) (L : EntL) (k : Int) (h : Sat W w (sep (isRBox q L) A)) (hl : L.length ≤ 4000) (ha : Asc L) (hs : lkL L k = none) :
    Calls Try.prog 25 #[.pointer (some ⟨q, 0, none⟩), .int .i64 k] w fun e w' => e = .returned (.tuple #[.slice none 0 0, .int .u64 0, .int .i64 7]) ∧ Sat W w' (sep (isRBox q L) A) := by
  have hno := lkL_no ha hs
  have HF := Lib.hid (rsfind_spec q L k h (by omega))
  obtain ⟨a, c, cells, h0⟩ := isRBox_open h
  obtain ⟨n, hn⟩ : ∃ n, n = L.length := ⟨_, rfl⟩
  have c0 : w.cell? ⟨q, 0, none⟩ = some (.slice a n c) := by rw [hn]; exact h0.cell 0
  have hcells := fun hf => rbox_cells h0.p1.p2.p1 (fndL L k) hf
  have hfle := fndL_le L k
  obtain ⟨f, hff⟩ : ∃ f, f = fndL L k := ⟨_, rfl⟩
  rw [← hff, ← hn] at hfle
  rw [← hff] at HF
  have H := Lib.hid h
  have HN := Lib.hid (And.intro hn hff)
  have HCO := Lib.hid hcells
  have HNO := Lib.hid hno
  clear h0 hff hn hs ha h hcells hno hl
  go_enter Try.func25, Try.ntmps25
  go_wp2_with fail
  refine HF.out.mono ?_
  rintro e w' ⟨rfl, rfl⟩
  by_cases hf : f < n
  · have hfI : ¬ (f : Int) ≥ (n : Int) := by omega
    obtain ⟨g, b, d, rfl, g0, -, -, -, -⟩ := HCO.out (by rw [← HN.out.1, ← HN.out.2]; exact hf)
    have hne : (L[fndL L k]'(by rw [← HN.out.1, ← HN.out.2]; exact hf)).1 ≠ k := HNO.out _
    obtain ⟨y, hy⟩ : ∃ y, y = (L[fndL L k]'(by rw [← HN.out.1, ← HN.out.2]; exact hf)).1 := ⟨_, rfl⟩
    rw [← hy] at g0 hne
    rw [← HN.out.2] at g0
    have hyk : (y != k) = true := by simp [hne]
    clear hy hne
    go_wp2_with fail
    go_ret3
    exact ⟨rfl, H.out⟩
  · have hfI : (f : Int) ≥ (n : Int) := by omega
    go_wp2_with fail
    go_ret3
    exact ⟨rfl, H.out⟩
set_option maxRecDepth 100000 in
set_option maxHeartbeats 4000000 in
theorem rsopen_ok {W w : World} {A : Assn} {I : Mem} (q : Nat) (L : EntL) (k : Int) (en : Ent) (h : Sat W w (sep (isRBox q L) (sep (kn I) A))) (hl : L.length ≤ 4000) (ha : Asc L) (hs : lkL L k = some en) :
    Calls Try.prog 25 #[.pointer (some ⟨q, 0, none⟩), .int .i64 k] w fun e w' => ∃ a c J, Mem.le I J ∧ rBytes.rel J [.slice a en.b.length c] en.b ∧ e = .returned (.tuple #[.slice a en.b.length c, .int .u64 (en.s : Nat), .int .i64 0]) ∧ Sat W w' (sep (isRBox q (opnL L k)) (sep (kn J) A)) := by
  obtain ⟨hfl, he1, he2⟩ := lkL_some ha hs
  have HF := Lib.hid (rsfind_spec q L k h (by omega))
  obtain ⟨a, c, cells, h0⟩ := isRBox_open h
  obtain ⟨n, hn⟩ : ∃ n, n = L.length := ⟨_, rfl⟩
  have c0 : w.cell? ⟨q, 0, none⟩ = some (.slice a n c) := by rw [hn]; exact h0.cell 0
  obtain ⟨g, b, d, rfl, g0, g1, g2, g3, h1⟩ := rbox_cells h0.p1.p2.p1 (fndL L k) hfl
  rw [he1] at g0
  rw [he2] at g1 g2 h1
  obtain ⟨ob, hob⟩ : ∃ ob, ob = (L[fndL L k]).2.o := ⟨_, rfl⟩
  rw [← hob] at g3
  obtain ⟨bl, hbl⟩ : ∃ bl, bl = en.b.length := ⟨_, rfl⟩
  obtain ⟨sa, hsa⟩ : ∃ sa, sa = en.s := ⟨_, rfl⟩
  rw [← hbl] at g1 h1 ⊢
  rw [← hsa] at g2 ⊢
  rw [← hn] at h1
  obtain ⟨J, hIJ, hrb, h2⟩ := (show Sat W w (sep (rBytes.is [.slice b bl d] en.b) (sep (kn I) (sep (osl 79 4 (some ⟨g, 0, none⟩) n c cells) (sep ((rEnt.rows 4).is cells L) (sep (blk q (.cells (rbC (some ⟨g, 0, none⟩) n c) 52 (0, 0))) A))))) by
    have := h1
    simpa only [sep_comm, sep_lcomm, sep_assoc] using this).learn
  obtain ⟨f, hff⟩ : ∃ f, f = fndL L k := ⟨_, rfl⟩
  rw [← hff] at HF g0 g1 g2 g3 
  have hfn : f < n := by omega
  have hlen := h2.p1.osl_len.1
  obtain ⟨u3, h3⟩ := h2.p1.osl_setK (f * 4 + 3) (by omega) (.bool true)
  have h4 : Sat W (w.setCell ⟨g, f * 4 + 3, none⟩ (.bool true)) (sep ((rEnt.rows 4).is (cells.set (f * 4 + 3) (.bool true)) (opnL L k)) (sep (osl 79 4 (some ⟨g, 0, none⟩) n c (cells.set (f * 4 + 3) (.bool true))) (sep (kn J) (sep (blk q (.cells (rbC (some ⟨g, 0, none⟩) n c) 52 (0, 0))) A)))) := by
    refine h3.p2.wk ?_
    rintro K m ⟨x1, y1, d1, e1, ⟨rfl, hrel⟩, h5⟩
    refine ⟨Mem.no, y1, d1, e1, ⟨rfl, ?_⟩, h5⟩
    have := rows_set hrel (fndL L k) hfl 3 (by omega) (.bool true) (fun x => (x.1, { x.2 with o := true })) (fun c hc _ => by
      obtain ⟨a', c', rfl, hr⟩ := hc
      exact ⟨a', c', rfl, hr⟩)
    rw [← hff] at this
    rw [opnL, ← hff]
    exact this
  have c0' : (w.setCell ⟨g, f * 4 + 3, none⟩ (.bool true)).cell? ⟨q, 0, none⟩ = some (.slice (some ⟨g, 0, none⟩) n c) := h4.p3.cell 0
  have hg : ∀ j v, cells[f * 4 + j]? = some v → j ≠ 3 → (w.setCell ⟨g, f * 4 + 3, none⟩ (.bool true)).cell? ⟨g, f * 4 + j, none⟩ = some v := fun j v hv hj => by
    obtain ⟨g', e, hc⟩ := h4.p1.osl_at (by intro e; have := congrArg List.length e; simp at this; rw [this] at hlen; simp at hlen; omega)
    cases e
    refine hc _ _ ?_
    rw [List.getElem?_set_ne (by omega), hv]
  have hgc : ∀ j v, w.cell? ⟨g, f * 4 + j, none⟩ = some v → f * 4 + j < cells.length → cells[f * 4 + j]? = some v := fun j v hv hlt => by
    obtain ⟨g', e, hc⟩ := h2.p1.osl_at (by intro e; rw [e] at hlt; simp at hlt)
    cases e
    have := hc _ _ (List.getElem?_eq_getElem hlt)
    rw [List.getElem?_eq_getElem hlt, ← this, hv]
  have g1' := hg 1 _ (hgc 1 _ g1 (by omega)) (by omega)
  have g2' := hg 2 _ (hgc 2 _ g2 (by omega)) (by omega)
  have H4 := Lib.hid (isRBox_mk (q := q) (show n = (opnL L k).length by rw [opnL_len]; exact hn) (show Sat W (w.setCell ⟨g, f * 4 + 3, none⟩ (.bool true)) (sep (blk q (.cells (rbC (some ⟨g, 0, none⟩) n c) 52 (0, 0))) (sep (osl 79 4 (some ⟨g, 0, none⟩) n c (cells.set (f * 4 + 3) (.bool true))) (sep ((rEnt.rows 4).is (cells.set (f * 4 + 3) (.bool true)) (opnL L k)) (sep (kn J) A)))) by simpa only [sep_comm, sep_lcomm, sep_assoc] using h4))
  have HB := Lib.hid (And.intro hIJ hrb)
  have hfI : ¬ (f : Int) ≥ (n : Int) := by omega
  have hfI2 : (f : Int) < (n : Int) := by omega
  clear h h0 h1 h2 h3 h4 hlen hl ha hs hfl he1 he2 hn hbl hsa hff hg hgc hIJ hrb hob
  go_enter Try.func25, Try.ntmps25
  go_wp2_with fail
  refine HF.out.mono ?_
  rintro e w' ⟨rfl, rfl⟩
  go_wp2_with fail
  have hS0 : True := trivial
  refine wp_region_canon rfl (fun _ => True) [(0, .p), (1, .p), (2, .p), (3, .t), (4, .p), (5, .p), (6, .p), (7, .t), (8, .p), (9, .p), (10, .p), (11, .t), (12, .p), (13, .p), (14, .p), (15, .t), (16, .p), (17, .p), (18, .p)] (by kernel_rfl) ?_
  (repeat (first | (refine C_p (v := ?_) rfl rfl (fun w' => ?_) ?_; rotate_left; (go_simp; with_reducible rfl); simp only [Act.put, List.setIfInBounds_toArray, List.set_cons_zero, List.set_cons_succ]) | (refine C_s (v := ?_) rfl rfl hS0 (fun w' hS => ?_) ?_; rotate_left; ((try dsimp only at hS); go_simp; with_reducible rfl); simp only [Act.put, List.setIfInBounds_toArray, List.set_cons_zero, List.set_cons_succ]) | (refine C_t (v := ?_) rfl rfl ?_ ?_; rotate_left; (go_simp; with_reducible rfl); simp only [Act.put, List.setIfInBounds_toArray, List.set_cons_zero, List.set_cons_succ]) | (refine C_po rfl rfl ?_; simp only [Act.put, List.setIfInBounds_toArray, List.set_cons_zero, List.set_cons_succ]) | (refine C_so rfl rfl hS0 ?_; simp only [Act.put, List.setIfInBounds_toArray, List.set_cons_zero, List.set_cons_succ]) | (refine C_to rfl rfl ?_; simp only [Act.put, List.setIfInBounds_toArray, List.set_cons_zero, List.set_cons_succ])))
  refine C_nil ?_
  go_wp2_with fail
  go_ret3
  exact ⟨b, d, J, HB.out.1, HB.out.2, rfl, H4.out.drew⟩
end Go.Proofs.Ytcnonbhhlbplpaa
