/- Lending: what a call reads may still be owned by the caller. Plain Lean, no program in sight. -/
import Derived.Test.YtcmjbjlliehdiaaDoorGAuthmapChecks20
import Derived.Test.YtcmjbjlliehdiaaDoorGAuthmapChecks11
import Derived.Test.YtcmjbjlliehdiaaDoorGAuthmapChecks47
import Derived.Test.YtcmjbjlliehdiaaDoorGAuthmapChecksSQkh
import Derived.Test.YtcmjbjlliehdiaaDoorGAuthmapChecks40
import Derived.Test.YtcmjbjlliehdiaaDoorGAuthmapChecksSQks
namespace PA
open Go Go.RowKit
/-- Nothing of w was changed: what held at w holds still. -/
theorem Sat.lend {W w w' : World} {A B : Assn} (h : Sat W w A) (hb : Sat w w' B) : Sat W w' A := by
  obtain ⟨h1, h2, h3, I, m, h4, h5, h6, h7⟩ := h
  obtain ⟨g1, g2, g3, I', m', g4, g5, g6, g7⟩ := hb
  exact ⟨g1.trans h1, g2.trans h2, g3.trans h3, I, m, h4, fun b o hb => g5 b o (g4 b o (h5 b o hb)), fun b o hb => ⟨g5 b o (g4 b o (h6 b o hb).1), (h6 b o hb).2⟩, h7⟩
theorem Sat.le_wm {W w : World} {A : Assn} {J : Mem} (h : Sat W w (sep (kn J) A)) : Mem.le J (wm w) := fun b o hb => h.ext b o hb
/-- An owned slice, as one that a callee may take for settled. -/
theorem Sat.lent_slice {α : Type} {R : Rep α} {E k : Nat} {W w : World} {A : Assn} {J : Mem} {a : Option Addr} {n c : Nat} {cells : List Value} {xs : List α} (h : Sat W w (sep (osl E k a n c cells) (sep (kn J) A))) (hr : (R.rows k).rel J cells xs) (hn : n = xs.length) :
    (R.slice k).rel (wm w) [.slice a n c] xs := by
  have h1 : Sat W w (sep (osl E k a n c cells) (sep ((R.rows k).is cells xs) (sep (kn J) A))) := (h.p1.tell hr).p2
  obtain ⟨J', hJ', hr', h2⟩ := (h1.slice_of_osl hn).learn
  exact (R.slice k).mono h2.le_wm hr'
end PA
/- authmap.Range and Check with pairs that the caller still owns. -/
namespace Go.Proofs.YtcmjbjlliehdiaaDoor
open Go.RowKit PA
attribute [local go_sem] Oper.semAt_some
theorem osl_setKs {W w : World} {A : Assn} {E k : Nat} {a : Option Addr} {n c : Nat} {xs : List Value} (h : Sat W w (sep (osl E k a n c xs) A)) (i : Nat) (hi : i < xs.length) (v : Value) :
    ∃ g, a = some ⟨g, 0, none⟩ ∧ w.cell? ⟨g, i, none⟩ = some xs[i] ∧ w.frozen? ⟨g, i, none⟩ = false ∧ Sat W (w.setCell ⟨g, i, none⟩ v) (sep (osl E k a n c (xs.set i v)) A) := by
  rcases h.osl_cases with ⟨rfl, rfl, rfl, rfl, _⟩ | ⟨g, cur, rfl, hlen, hnc, hcm, hcs, htake, hS⟩
  · simp at hi
  · have hle : n * k ≤ c * k := Nat.mul_le_mul_right k hnc
    have hkc : i < cur.size := by omega
    refine ⟨g, rfl, ?_, hS.unfrozen i, ?_⟩
    · rw [hS.cell i, Array.getElem?_eq_getElem hkc]
      congr 1
      have : (cur.toList.take (n * k))[i]? = xs[i]? := by rw [htake]
      rw [List.getElem?_take, if_pos (by omega), List.getElem?_eq_getElem hi] at this
      simpa [hkc] using this
    · refine (hS.setCell i v).osl_mk n c k (xs.set i v) (by simp [hlen]) hnc hcm (by simp [hcs]) ?_
      rw [Array.toList_setIfInBounds, List.take_set, htake]
theorem rows2_set {J : Mem} : ∀ {css : List (List Value)} {PL : PrL}, All2 (fun c x => rPairQ.rel J c x ∧ c.length = 2) css PL → ∀ {i : Nat} (hi : i < PL.length) (va : Option Addr) (vc : Nat) (v : List UInt8), rBytes.rel J [.slice va v.length vc] v →
    (∃ ua uc, css.flatten[i * 2]? = some (.int .i64 PL[i].1) ∧ css.flatten[i * 2 + 1]? = some (.slice ua PL[i].2.length uc) ∧ rBytes.rel J [.slice ua PL[i].2.length uc] PL[i].2) ∧
    ∃ css', css.flatten.set (i * 2 + 1) (.slice va v.length vc) = css'.flatten ∧ All2 (fun c x => rPairQ.rel J c x ∧ c.length = 2) css' (PL.set i (PL[i].1, v))
  | [], [], _, i, hi, _, _, _, _ => by simp at hi
  | [], _ :: _, h, _, _, _, _, _, _ => h.elim
  | _ :: _, [], h, _, _, _, _, _, _ => h.elim
  | cc :: css, x :: PL, h, i, hi, va, vc, v, hv => by
    obtain ⟨⟨⟨a, c, rfl, hr⟩, _⟩, ht⟩ := h
    cases i with
    | zero =>
      refine ⟨⟨a, c, rfl, rfl, hr⟩, [.int .i64 x.1, .slice va v.length vc] :: css, rfl, ⟨⟨va, vc, rfl, hv⟩, rfl⟩, ht⟩
    | succ i =>
      have hi' : i < PL.length := by simpa using hi
      obtain ⟨⟨ua, uc, e1, e2, e3⟩, css', e4, e5⟩ := rows2_set ht hi' va vc v hv
      refine ⟨⟨ua, uc, ?_, ?_, e3⟩, [.int .i64 x.1, .slice a x.2.length c] :: css', ?_, ⟨⟨a, c, rfl, hr⟩, rfl⟩, e5⟩
      · rw [show (i + 1) * 2 = i * 2 + 1 + 1 by omega]
        exact e1
      · rw [show (i + 1) * 2 + 1 = i * 2 + 1 + 1 + 1 by omega]
        exact e2
      · rw [show (i + 1) * 2 + 1 = i * 2 + 1 + 1 + 1 by omega]
        simp only [List.flatten_cons, List.cons_append, List.nil_append, List.set_cons_succ]
        rw [e4]
theorem rows_setQ {J : Mem} {cells : List Value} {PL : PrL} (h : (rPairQ.rows 2).rel J cells PL) {i : Nat} (hi : i < PL.length) (va : Option Addr) (vc : Nat) (v : List UInt8) (hv : rBytes.rel J [.slice va v.length vc] v) :
    (∃ ua uc, cells[i * 2]? = some (.int .i64 PL[i].1) ∧ cells[i * 2 + 1]? = some (.slice ua PL[i].2.length uc) ∧ rBytes.rel J [.slice ua PL[i].2.length uc] PL[i].2) ∧ (rPairQ.rows 2).rel J (cells.set (i * 2 + 1) (.slice va v.length vc)) (PL.set i (PL[i].1, v)) := by
  obtain ⟨css, rfl, h2⟩ := h
  obtain ⟨h3, css', e4, e5⟩ := rows2_set h2 hi va vc v hv
  exact ⟨h3, css', e4, e5⟩
theorem arange_own {W w : World} {A : Assn} {I : Mem} (hw : WholeOK W) (p : Nat) (M : KVs) (a b : Int) (h : Sat W w (sep (isAM p M) (sep (kn I) A))) (hn : 0 ≤ a ∧ a ≤ b ∧ b ≤ 4095) :
    Calls Tryd.prog 17 #[.pointer (some ⟨p, 0, none⟩), .int .i64 a, .int .i64 b] w fun e w' => ∃ pa n pc cells ks la nl lc ra nr rc sa ns sc J, AKeys M ks ∧ Mem.le I J ∧
      e = .returned (.tuple #[.slice pa n pc, .agg #[.slice la nl lc, .slice ra nr rc, .slice sa ns sc], .int .i64 0]) ∧ n = (pairsL M a b ks).length ∧
      (rPairQ.rows 2).rel J cells (pairsL M a b ks) ∧ prfR J (.agg #[.slice la nl lc, .slice ra nr rc, .slice sa ns sc]) (rngP M a b) ∧ Sat W w' (sep (osl 84 2 pa n pc cells) (sep (kn J) (sep (isAM p M) A))) := by
  refine (arange_ok hw p M a b h hn).mono ?_
  rintro e w' ⟨pa, pc, cells, ks, la, lc, ra, rc, sa, sc, J, hk, hJ, rfl, h1⟩
  obtain ⟨J1, hJ1, hr1, h3⟩ := (show Sat W w' (sep ((rPairQ.rows 2).is cells (pairsL M a b ks)) (sep (kn J) _)) from h1.p1.p5.p1).learn
  obtain ⟨J2, hJ2, hr2, h4⟩ := hs_learn (show Sat W w' (sep (osl 43 1 la (leftL M a (outL a b 12 0)).length lc ((leftL M a (outL a b 12 0)).map uv)) (sep (kn J1) (sep (osl 84 2 pa (pairsL M a b ks).length pc cells) (sep (osl 43 1 ra (rightL M a (outL a b 12 0)).length rc ((rightL M a (outL a b 12 0)).map uv)) (sep (osl 5 1 sa (shapeL M (outL a b 12 0)).length sc ((shapeL M (outL a b 12 0)).map bv)) (sep (isAM p M) A)))))) by simpa only [sep_comm, sep_lcomm, sep_assoc] using h3) rfl
  obtain ⟨J3, hJ3, hr3, h5⟩ := hs_learn (show Sat W w' (sep (osl 43 1 ra (rightL M a (outL a b 12 0)).length rc ((rightL M a (outL a b 12 0)).map uv)) (sep (kn J2) (sep (osl 84 2 pa (pairsL M a b ks).length pc cells) (sep (osl 5 1 sa (shapeL M (outL a b 12 0)).length sc ((shapeL M (outL a b 12 0)).map bv)) (sep (isAM p M) A))))) by simpa only [sep_comm, sep_lcomm, sep_assoc] using h4) rfl
  obtain ⟨J4, hJ4, hr4, h6⟩ := osl_learnQ (show Sat W w' (sep (osl 5 1 sa (shapeL M (outL a b 12 0)).length sc ((shapeL M (outL a b 12 0)).map bv)) (sep (kn J3) (sep (osl 84 2 pa (pairsL M a b ks).length pc cells) (sep (isAM p M) A)))) by simpa only [sep_comm, sep_lcomm, sep_assoc] using h5) rfl
  exact ⟨pa, _, pc, cells, ks, la, _, lc, ra, _, rc, sa, _, sc, J4, hk, Mem.le_trans hJ (Mem.le_trans hJ1 (Mem.le_trans hJ2 (Mem.le_trans hJ3 hJ4))), rfl, rfl, (rPairQ.rows 2).mono (Mem.le_trans hJ2 (Mem.le_trans hJ3 hJ4)) hr1,
    ⟨_, _, _, rfl, rHs.mono (Mem.le_trans hJ3 hJ4) hr2, rHs.mono hJ4 hr3, hr4⟩, h6.p1⟩
theorem acheck_own {W w : World} {A : Assn} {J : Mem} (hw : WholeOK W) (root : Nat) (a b : Int) (pa : Option Addr) (pn pc : Nat) (cells : List Value) (ps : PrL) (vp : Value) (p : Prf) (h : Sat W w (sep (osl 84 2 pa pn pc cells) (sep (kn J) A)))
    (hv : (rPairQ.rows 2).rel J cells ps) (hpn : pn = ps.length) (hps : ps.length ≤ 1000000) (hvp : prfR J vp p) (hp : PrfOK p) :
    Calls Tryd.prog 39 #[.int .u64 (root : Nat), .int .i64 a, .int .i64 b, .slice pa pn pc, vp] w fun e w' => e = .returned (.int .i64 (checkP root a b ps p)) ∧ Sat W w' (sep (osl 84 2 pa pn pc cells) (sep (kn J) A)) := by
  refine (acheck_spec (WholeOK.now hw h) root a b pa pn pc ps vp p (Sat.startKn w) (h.lent_slice hv hpn) hps (prfR.mono h.p1.le_wm hvp) hp).mono ?_
  rintro e w' ⟨rfl, h2⟩
  exact ⟨rfl, h.lend h2⟩
end Go.Proofs.YtcmjbjlliehdiaaDoor
/- Lists of pairs from a list that is known: parts of it, one more, one replaced. -/
namespace Go.Proofs.YtcmjbjlliehdiaaDoor
open Go.RowKit PA
structure PCells (I : Mem) (a : Option Addr) (n c : Nat) (cells : List Value) (PL : PrL) : Prop where
  hn : n = PL.length
  len : cells.length = n * 2
  nc : n ≤ c
  cm : c ≤ maxLen
  hnone : a = none → n = 0
  src : ∀ w, Ext I w → Src w a cells
  one : ∀ u ∈ cells, u.oneCell' = true
  rows : (rPairQ.rows 2).rel I cells PL
theorem pairs_cells {I : Mem} {a : Option Addr} {n c : Nat} {PL : PrL} (h : (rPairQ.slice 2).rel I [.slice a n c] PL) : ∃ cells, PCells I a n c cells PL := by
  obtain ⟨a', c', cells, e, hw, hc, hr⟩ := h
  simp only [List.cons.injEq, Value.slice.injEq, and_true] at e
  obtain ⟨rfl, rfl, rfl⟩ := e
  obtain ⟨css, rfl, hall⟩ := id hr
  refine ⟨css.flatten, rfl, ?_, hw.1, hw.2.1, fun e => by have := hw.2.2 e; have := hw.1; omega, fun w he => src_ext hc he, fun u hu => ?_, hr⟩
  · have : ∀ (css : List (List Value)) (PL : PrL), All2 (fun c x => rPairQ.rel I c x ∧ c.length = 2) css PL → css.flatten.length = PL.length * 2 := by
      intro css
      induction css with
      | nil => intro PL h; cases PL with
        | nil => rfl
        | cons => exact h.elim
      | cons cc css ih => intro PL h; cases PL with
        | nil => exact h.elim
        | cons x PL => rw [List.flatten_cons, List.length_append, h.1.2, ih PL h.2, List.length_cons]; omega
    exact this css PL hall
  · obtain ⟨c, hc', huc⟩ := List.mem_flatten.1 hu
    obtain ⟨x, hx⟩ := hall.mem c hc'
    exact rPairQ_one I c x hx.1 u huc
theorem rows2_parts {J : Mem} : ∀ {css : List (List Value)} {PL : PrL}, All2 (fun c x => rPairQ.rel J c x ∧ c.length = 2) css PL → ∀ (i : Nat), (rPairQ.rows 2).rel J (css.flatten.take (i * 2)) (PL.take i) ∧ (rPairQ.rows 2).rel J (css.flatten.drop (i * 2)) (PL.drop i)
  | [], [], _, i => by simp only [List.flatten_nil, List.take_nil, List.drop_nil]; exact ⟨⟨[], rfl, trivial⟩, ⟨[], rfl, trivial⟩⟩
  | [], _ :: _, h, _ => h.elim
  | _ :: _, [], h, _ => h.elim
  | cc :: css, x :: PL, h, 0 => by
    refine ⟨⟨[], by simp, by simp [All2]⟩, ⟨cc :: css, by simp, ?_⟩⟩
    exact h
  | cc :: css, x :: PL, h, i + 1 => by
    obtain ⟨⟨⟨a, c, rfl, hr⟩, hl⟩, ht⟩ := h
    obtain ⟨h1, h2⟩ := rows2_parts ht i
    have e : (i + 1) * 2 = i * 2 + 1 + 1 := by omega
    rw [e]
    refine ⟨?_, h2⟩
    obtain ⟨css', e1, h3⟩ := h1
    refine ⟨[.int .i64 x.1, .slice a x.2.length c] :: css', ?_, ⟨⟨⟨a, c, rfl, hr⟩, rfl⟩, h3⟩⟩
    simp only [List.flatten_cons, List.cons_append, List.nil_append, List.take_succ_cons]
    rw [e1]
theorem rows_parts {J : Mem} {cells : List Value} {PL : PrL} (h : (rPairQ.rows 2).rel J cells PL) (i : Nat) : (rPairQ.rows 2).rel J (cells.take (i * 2)) (PL.take i) ∧ (rPairQ.rows 2).rel J (cells.drop (i * 2)) (PL.drop i) := by
  obtain ⟨css, rfl, h2⟩ := h
  exact rows2_parts h2 i
theorem pairs_learn {W w : World} {A : Assn} {J : Mem} {E : Nat} {a : Option Addr} {n c : Nat} {cells : List Value} {PL : PrL} (h : Sat W w (sep (osl E 2 a n c cells) (sep (kn J) A))) (hr : (rPairQ.rows 2).rel J cells PL) (hn : n = PL.length) :
    ∃ J', Mem.le J J' ∧ (rPairQ.slice 2).rel J' [.slice a n c] PL ∧ Sat W w (sep (kn J') A) :=
  ((show Sat W w (sep (osl E 2 a n c cells) (sep ((rPairQ.rows 2).is cells PL) (sep (kn J) A))) from (h.p1.tell hr).p2).slice_of_osl hn).learn
theorem set_same {cells : List Value} {i : Nat} {v : Value} (h : cells[i]? = some v) : cells.set i v = cells := by
  obtain ⟨hi, rfl⟩ := List.getElem?_eq_some_iff.1 h
  exact List.set_getElem_self hi
end Go.Proofs.YtcmjbjlliehdiaaDoor
