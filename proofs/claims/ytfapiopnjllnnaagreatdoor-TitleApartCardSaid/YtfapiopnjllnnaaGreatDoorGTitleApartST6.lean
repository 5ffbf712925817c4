/- Package title: walk without a function. -/
import Derived.Test.YtfapiopnjllnnaaGreatDoorGTitleApart21
import Derived.Deep.CutBlock
namespace Go.Proofs.YtfapiopnjllnnaaGreatDoor
open Go.RowKit PA
attribute [local go_sem ↓] sizeAct
theorem sortK_perm (xs : List Ac) : (xs.mergeSort fun x y => decide (cmpK x y ≤ 0)).Perm xs := List.mergeSort_perm _ _
/-- Acts in order of day and tick. -/
def sortK (xs : List Ac) : List Ac := xs.mergeSort fun x y => decide (cmpK x y ≤ 0)
theorem sortK_asc (xs : List Ac) : Asc cmpK (sortK xs) := by
  have h := List.pairwise_mergeSort (le := fun x y => decide (cmpK x y ≤ 0)) (fun a b c h1 h2 => by simp only [decide_eq_true_eq] at *; exact cmpK_trans h1 h2) (fun a b => by
    simp only [Bool.or_eq_true, decide_eq_true_eq]
    have := cmpK_flip a b
    omega) xs
  exact h.imp fun h => by simpa using h
theorem sortK_of {xs ys : List Ac} (hp : ys.Perm xs) (ha : Asc cmpK ys) (hk : xs.Pairwise KeyNe) : ys = sortK xs :=
  asc_unique cmpK_ne ys (sortK xs) ha (sortK_asc xs) (hp.trans (sortK_perm xs).symm) (pairwise_perm (fun _ _ => KeyNe.symm) hp.symm hk)
theorem sortK_len (xs : List Ac) : (sortK xs).length = xs.length := (sortK_perm xs).length_eq
theorem sortK_spec {W w : World} {A : Assn} {I : Mem} (b : Addr) (n cp : Nat) (xs : List Ac) (hn : xs.length = n) (hD : xs.Pairwise KeyNe) (h0 : 0 < n) (h40 : n < 40) (hw : Swf (some b) n cp) (hc : cellsAt (some b) (acs xs) I) (h : Sat W w (sep (kn I) A)) :
    Calls Tryz.prog 22 #[.slice (some b) n cp] w fun e w' => ∃ g c' J, e = .returned (.slice (some ⟨g, 0, none⟩) n c') ∧ Mem.le I J ∧ n ≤ c' ∧ c' ≤ maxLen ∧ cellsAt (some ⟨g, 0, none⟩) (acs (sortK xs)) J ∧ Sat W w' (sep (kn J) A) := by
  refine (sort_spec (A := A) cmpK_total (cmpK_ok W) (fun _ _ => KeyNe.symm) b n cp xs hn hD h0 h40 hw hc (by rw [emp_sep]; exact h)).mono ?_
  rintro e w' ⟨ys, g, c', J, rfl, hp, ha, hle, h1, h2, h3, h4⟩
  rw [emp_sep] at h4
  rw [sortK_of hp ha hD] at h3
  exact ⟨g, c', J, rfl, hle, h1, h2, h3, h4⟩
theorem walkT_hit {σ : Type} {file fday day : Int} {ev : σ → Nat → Ac → Bool → σ} {i : Nat} {x : Ac} {l : List Ac} {S : Shs} {s : σ} (h : countsB file fday day x = true) : walkT file fday day ev i (x :: l) S s = walkT file fday day ev (i + 1) l (PA.stepT S x).1 (ev s i x (PA.stepT S x).2) := by
  rw [walkT, if_pos h]
theorem walkT_miss {σ : Type} {file fday day : Int} {ev : σ → Nat → Ac → Bool → σ} {i : Nat} {x : Ac} {l : List Ac} {S : Shs} {s : σ} (h : countsB file fday day x = false) : walkT file fday day ev i (x :: l) S s = walkT file fday day ev (i + 1) l S s := by
  rw [walkT, if_neg (by rw [h]; simp)]
/-- What the walk asks of the acts that count. -/
def ActsFine (l : List Ac) : Prop := ∀ x ∈ l, x.k = 16 → okR x.sh = true ∧ 0 ≤ x.sn
theorem stepT_fine {S : Shs} (h : ShOk S) (x : Ac) (hx : x.k = 16 → okR x.sh = true ∧ 0 ≤ x.sn) : ShOk (PA.stepT S x).1 := by
  unfold PA.stepT
  split
  · rename_i e; exact moveP_ok h x (hx e).2
  · exact h
set_option maxRecDepth 100000 in
set_option maxHeartbeats 8000000 in
theorem walkNil_spec {W w : World} {A : Assn} {I : Mem} (file day : Int) (f : Ac) (b : Addr) (n c : Nat) (xs : List Ac) (hn : xs.length = n) (h0 : 0 < n) (h40 : n < 40) (hD : xs.Pairwise KeyNe) (hfine : ActsFine xs) (hw : Swf (some b) n c) (hc : cellsAt (some b) (acs xs) I)
    (hf : filedT file (sortK xs) = some f) (hr : titleErr file day (sortK xs) = 0) (h : Sat W w (sep (kn I) A)) :
    Calls Tryz.prog 33 #[.int .i64 file, .int .i64 day, .slice (some b) n c, .nilFunc] w fun e w' => ∃ p J, e = .returned (.tuple #[.pointer (some ⟨p, 0, none⟩), .int .i64 0]) ∧ Mem.le I J ∧ Sat W w' (sep (isT p f.p (walkT file f.d day (fun (s : Unit) _ _ _ => s) 0 (sortK xs) (first1 f.p) ()).1) (sep (kn J) A)) := by
  obtain ⟨ys, hys⟩ : ∃ ys, ys = sortK xs := ⟨_, rfl⟩
  obtain ⟨R, hR⟩ : ∃ R, R = walkT file f.d day (fun (s : Unit) _ _ _ => s) 0 (sortK xs) (first1 f.p) () := ⟨_, rfl⟩
  rw [← hR]
  have hsort := Lib.hid (sortK_spec b n c xs hn hD h0 h40 hw hc h)
  have hyl : ys.length = n := by rw [hys, sortK_len, hn]
  have hyf : ActsFine ys := fun x hx => hfine x ((sortK_perm xs).subset (by rw [hys] at hx; exact hx))
  rw [← hys] at hsort hR hf hr
  have HR := Lib.hid hR
  have HYS := Lib.hid (And.intro hyl hyf)
  have HFR := Lib.hid (And.intro hf hr)
  skip
  clear hn hD h0 hfine hw hc hf hr h hys hR hyl hyf
  go_enter Tryz.func33, Tryz.ntmps33
  go_wp2_with fail
  refine hsort.out.mono ?_
  rintro e w2 ⟨g, c', J, rfl, hle, hc1, hc2, hcj, h2⟩
  have hfl := Lib.hid (filed_ok file day f g n c' ys HYS.out.1 (by omega) hcj HFR.out.1 HFR.out.2 h2)
  have HLE := Lib.hid hle
  have HCJ := Lib.hid hcj
  have HCC := Lib.hid (And.intro hc1 hc2)
  clear hsort hle hc1 hc2 hcj h2
  go_wp2_with fail
  refine hfl.out.mono ?_
  rintro e w3 ⟨rfl, J1, hle1, h3⟩
  obtain ⟨w4, s1, h4a⟩ := act_st (cur := #[.int .i64 0, .int .i64 0, .int .i64 0, .int .i64 0, .int .i64 0, .int .i64 0, .int .i64 0, .int .i64 0, .int .i64 0, .int .i64 0, .int .i64 0, .slice none 0 0, .slice none 0 0, .slice none 0 0, .slice none 0 0, .int .i64 0, .int .i64 0, .slice none 0 0, .slice none 0 0]) rfl (h3.alloc (.cells #[.int .i64 0, .int .i64 0, .int .i64 0, .int .i64 0, .int .i64 0, .int .i64 0, .int .i64 0, .int .i64 0, .int .i64 0, .int .i64 0, .int .i64 0, .slice none 0 0, .slice none 0 0, .slice none 0 0, .slice none 0 0, .int .i64 0, .int .i64 0, .slice none 0 0, .slice none 0 0] 57)) f
  obtain ⟨J2, hle2, hJ2, h4⟩ := h4a.settle.learn
  obtain ⟨F, hF⟩ : ∃ F, F = w3.heap.size := ⟨_, rfl⟩
  rw [← hF] at hJ2
  have HF := Lib.hid hF
  have HLE2 := Lib.hid (Mem.le_trans HLE.out (Mem.le_trans hle1 hle2))
  have HCJ2 := Lib.hid (cellsAt_mono (Mem.le_trans hle1 hle2) HCJ.out)
  have HJ2 : Hid (∀ w', Ext J2 w' → w'.cell? ⟨F, 1, none⟩ = some (.int .i64 f.d) ∧ w'.cell? ⟨F, 5, none⟩ = some (.int .i64 f.p)) := Lib.hid fun w' he => ⟨act_cell hJ2 he 1, act_cell hJ2 he 5⟩
  clear hfl h3 h4a hJ2 hle1 hle2 hF HLE HCJ
  go_upto_region 3 with (fail)
  rw [← HF.out]
  clear s1
  have hmm := @run_makeMap Tryz.prog
  obtain ⟨m, hm⟩ : ∃ m, m = w4.heap.size := ⟨_, rfl⟩
  obtain ⟨w5, hw5⟩ : ∃ w5, w5 = w4.alloc (.map #[] 0) := ⟨_, rfl⟩
  have h5 := h4.bmap_new
  rw [← hm, ← hw5] at h5
  obtain ⟨w6, n6, hup, -, h6⟩ := run_update_bmap (P := Tryz.prog) (T := 88) Tryz.underlying88 Tryz.underlying3 h5 f.p (rtV ⟨1, 1⟩)
  unfold rtV at hup
  have cF := (HJ2.out w4 h4.ext).2
  have cF5 := (HJ2.out w5 h5.p1.ext).2
  rw [hm, hw5] at hup
  rw [hw5] at cF5
  have h7 := h6.alloc (.cells #[.int .i64 f.p, .map (some m)] 90)
  obtain ⟨p, hp⟩ : ∃ p, p = w6.heap.size := ⟨_, rfl⟩
  obtain ⟨w7, hw7⟩ : ∃ w7, w7 = w6.alloc (.cells #[.int .i64 f.p, .map (some m)] 90) := ⟨_, rfl⟩
  rw [← hp, ← hw7] at h7
  have HP := Lib.hid hp
  have HM := Lib.hid hm
  have HW7 := Lib.hid hw7
  have H7 : Hid (Sat W w7 (sep (isT p f.p (first1 f.p)) (sep (kn J2) A))) := Lib.hid (isT_mk (b := m) (n := n6) (by
    have e : fset (fun _ => none) f.p (some (rtV ⟨1, 1⟩)) = shV (first1 f.p) := shV_set (fun _ => none) f.p ⟨1, 1⟩
    rw [← e]; exact h7))
  clear hm hw5 h4 h5 h6 h7 hp hw7
  go_upto_region 6 with (fail)
  rw [← HP.out, ← HM.out, ← HW7.out]
  clear cF cF5 hup hmm
  have rtField0 : ∀ (u v : Int) (w : World), (Instr.field 44 (.agg #[.int .i64 u, .int .i64 v]) 0).run Tryz.prog w = .ok (.int .i64 u) w := fun u v w => by kernel_rfl
  have HF0 := Lib.hid rtField0
  clear rtField0
  go_wp2
  go_loopw [40] (fun kv wr => ∃ (k : Nat) (S : Shs) (s : Unit), kv = .int .i64 k ∧ k ≤ n ∧ Hid (walkT file f.d day (fun (s : Unit) _ _ _ => s) k (ys.drop k) S s = R ∧ ShOk S ) ∧ Sat W wr (sep (isT p f.p S) (sep (kn J2) A))) (fun kv _ => n - (intOf kv).toNat)
  case atStart => exact ⟨0, first1 f.p, (), rfl, by omega, Lib.hid ⟨by rw [List.drop_zero, HR.out], .first _⟩, H7.out⟩
  case round =>
    obtain ⟨k, S, s, rfl, hk, HK, hS⟩ := hrel
    by_cases hlt : k < n
    · have hltz : (k : Int) < (n : Int) := by omega
      have hkl : k < ys.length := by rw [HYS.out.1]; exact hlt
      have hkI : (k : Int) < 40 := by omega
      obtain ⟨x, hx⟩ : ∃ x, x = ys[k] := ⟨_, rfl⟩
      have l1 := rsl_ld HCJ2.out hS.p1.ext k hkl
      rw [← hx] at l1
      have hdrop : ys.drop k = x :: ys.drop (k + 1) := by rw [hx]; exact List.drop_eq_getElem_cons hkl
      have hmem : x ∈ ys := by rw [hx]; exact List.getElem_mem hkl
      have hmiss : countsB file f.d day x = false → walkT file f.d day (fun (s : Unit) _ _ _ => s) (k + 1) (ys.drop (k + 1)) S s = R ∧ ShOk S  := fun e => by
        have := HK.out.1
        rw [hdrop, walkT_miss e] at this
        exact ⟨this, HK.out.2⟩
      have hhit : countsB file f.d day x = true → walkT file f.d day (fun (s : Unit) _ _ _ => s) (k + 1) (ys.drop (k + 1)) (PA.stepT S x).1 ((fun (s : Unit) _ _ _ => s) s k x (PA.stepT S x).2) = R ∧ ShOk (PA.stepT S x).1  := fun e => by
        have := HK.out.1
        rw [hdrop, walkT_hit e] at this
        exact ⟨this, stepT_fine HK.out.2 x (HYS.out.2 x hmem)⟩
      have HMISS := Lib.hid hmiss
      have HHIT := Lib.hid hhit
      have HXM := Lib.hid (And.intro hx hmem)
      obtain ⟨w8, s1, h8⟩ := act_st (cur := #[.int .i64 0, .int .i64 0, .int .i64 0, .int .i64 0, .int .i64 0, .int .i64 0, .int .i64 0, .int .i64 0, .int .i64 0, .int .i64 0, .int .i64 0, .slice none 0 0, .slice none 0 0, .slice none 0 0, .slice none 0 0, .int .i64 0, .int .i64 0, .slice none 0 0, .slice none 0 0]) rfl (hS.alloc (.cells #[.int .i64 0, .int .i64 0, .int .i64 0, .int .i64 0, .int .i64 0, .int .i64 0, .int .i64 0, .int .i64 0, .int .i64 0, .int .i64 0, .int .i64 0, .slice none 0 0, .slice none 0 0, .slice none 0 0, .slice none 0 0, .int .i64 0, .int .i64 0, .slice none 0 0, .slice none 0 0] 57)) x
      obtain ⟨J3, hle3, hJ3, h9⟩ := (show Sat W w8 (sep (imm wr.heap.size (.cells x.cells.toArray 57 (0, 0))) (sep (kn J2) (sep (isT p f.p S) A))) from h8.settle.p2.p1).learn
      obtain ⟨G, hG⟩ : ∃ G, G = wr.heap.size := ⟨_, rfl⟩
      rw [← hG] at hJ3
      have HX3 : Hid (∀ w', Ext J3 w' → (w'.cell? ⟨G, 0, none⟩ = some (.int .i64 x.k) ∧ w'.cell? ⟨G, 1, none⟩ = some (.int .i64 x.d) ∧ w'.cell? ⟨G, 3, none⟩ = some (.int .i64 x.f) ∧ w'.cell? ⟨G, 5, none⟩ = some (.int .i64 x.p)) ∧ Sem.run Tryz.prog (loadCellsFrom ⟨G, 0, none⟩ 0 kA #[]) w' = .ok x.cells.toArray w') :=
        Lib.hid fun w' he => ⟨⟨act_cell hJ3 he 0, act_cell hJ3 he 1, act_cell hJ3 he 3, act_cell hJ3 he 5⟩, act_rdI hJ3 he⟩
      have HLE3 := Lib.hid hle3
      have HG := Lib.hid hG
      have hJ3m : ∀ w', Ext J3 w' → w'.cell? ⟨F, 1, none⟩ = some (.int .i64 f.d) := fun w' he => (HJ2.out w' fun b o hb => he b o (hle3 b o hb)).1
      have HJ3 := Lib.hid hJ3m
      have H9 := Lib.hid h9
      have HOF := fun (w' : World) (A' : Assn) (h' : Sat W w' A') => ofFile_spec x.k h'
      obtain ⟨ob, hob⟩ : ∃ ob, ob = ofFileB x.k := ⟨_, rfl⟩
      rw [← hob] at HOF
      have HHOF := Lib.hid HOF
      have HOB := Lib.hid hob
      have HS := Lib.hid hS
      clear hx hdrop hmem hmiss hhit h8 hle3 hJ3 hG hJ3m h9 hob hS HOF
      go_upto_region 9 with (fail)
      rw [← HG.out]
      clear l1 s1
      obtain ⟨⟨b0, -, -, -⟩, -⟩ := HX3.out w8 H9.out.ext
      go_wp2_with fail
      refine (HHOF.out _ _ H9.out).mono ?_
      rintro e w9 ⟨rfl, h10⟩
      clear b0
      have H10 := Lib.hid h10
      obtain ⟨⟨b0, b1, b3, b5⟩, lx⟩ := HX3.out w9 h10.ext
      have bF := HJ3.out w9 h10.ext
      clear h10 H9 HHOF HS
      cases ob with
      | false =>
        have hcb : countsB file f.d day x = false := by unfold countsB; rw [← HOB.out]; rfl
        have HCB := Lib.hid hcb
        clear hcb
        go_wp2
        go_roundw
        case rel => exact ⟨k + 1, S, s, by go_num, by omega, Lib.hid (HMISS.out HCB.out), (H10.out.kn_mono HLE3.out).p1⟩
        case measure => simp [intOf]; omega
      | true =>
        by_cases cf : x.f = file
        · have bz1 : (x.f != file) = false := by simp [cf]
          by_cases cd : x.d < f.d
          · have hcb : countsB file f.d day x = false := by unfold countsB; rw [decide_eq_false (show ¬ f.d ≤ x.d by omega)]; simp
            have HCB := Lib.hid hcb
            clear hcb cf
            go_wp2
            go_roundw
            case rel => exact ⟨k + 1, S, s, by go_num, by omega, Lib.hid (HMISS.out HCB.out), (H10.out.kn_mono HLE3.out).p1⟩
            case measure => simp [intOf]; omega
          · by_cases cy : day < x.d
            · have hcb : countsB file f.d day x = false := by unfold countsB; rw [decide_eq_false (show ¬ x.d ≤ day by omega)]; simp
              have HCB := Lib.hid hcb
              clear hcb cf
              go_wp2
              go_roundw
              case rel => exact ⟨k + 1, S, s, by go_num, by omega, Lib.hid (HMISS.out HCB.out), (H10.out.kn_mono HLE3.out).p1⟩
              case measure => simp [intOf]; omega
            · have hcc : (x.k = 16 ∨ x.k = 17) → countsB file f.d day x = true := fun hh => by
                unfold countsB
                rw [← HOB.out, decide_eq_true cf, decide_eq_true (show f.d ≤ x.d by omega), decide_eq_true (show x.d ≤ day by omega)]
                rcases hh with e | e <;> simp [e]
              have hcn : ¬ (x.k = 16 ∨ x.k = 17) → countsB file f.d day x = false := fun hh => by
                unfold countsB
                rw [decide_eq_false (fun e => hh (.inl e)), decide_eq_false (fun e => hh (.inr e))]; simp
              have HCC2 := Lib.hid (And.intro hcc hcn)
              clear hcc hcn cf
              go_upto_block 2 with (fail)
              go_cut [16] (fun dv wx => ∃ (dn : Bool) (S' : Shs), dv = .bool dn ∧ PA.stepT S x = (S', dn) ∧ countsB file f.d day x = true ∧ Sat W wx (sep (isT p f.p S') (sep (kn J3) A)))
              case first =>
                by_cases ck : x.k = 16
                · have hfx := HYS.out.2 x HXM.out.2 ck
                  have hmv := move_spec x hfx.1 HK.out.2 (H10.out.p1)
                  have hst : PA.stepT S x = moveP S x := by unfold PA.stepT; rw [if_pos ck]
                  obtain ⟨mv, hmv0⟩ : ∃ mv, mv = moveP S x := ⟨_, rfl⟩
                  rw [← hmv0] at hmv hst
                  have HMV := Lib.hid hmv
                  have HST2 := Lib.hid (And.intro hst (HCC2.out.1 (.inl ck)))
                  have bz2 : (x.k == 16) = true := by simp [ck]
                  clear hfx hmv hst hmv0 ck
                  go_wp2_with fail
                  refine HMV.out.mono ?_
                  rintro e w10 ⟨rfl, h11⟩
                  have H11 := Lib.hid h11
                  clear h11 HMV
                  go_wp2
                  go_meet
                  case rel => exact ⟨mv.2, mv.1, rfl, HST2.out.1, HST2.out.2, H11.out⟩
                · have bz2 : (x.k == 16) = false := by simp [ck]
                  by_cases ck2 : x.k = 17
                  · have bz3 : (x.k == 17) = true := by simp [ck2]
                    have hsh := share_spec x.p (H10.out.p1)
                    have hst : PA.stepT S x = (S, decide (0 < (shareP S x.p).n)) := by unfold PA.stepT; rw [if_neg ck]
                    obtain ⟨sv, hsv⟩ : ∃ sv, sv = shareP S x.p := ⟨_, rfl⟩
                    rw [← hsv] at hsh hst
                    have HSH := Lib.hid hsh
                    have HST2 := Lib.hid (And.intro hst (HCC2.out.1 (.inr ck2)))
                    have rtField0 := HF0.out
                    clear hsh hst hsv ck ck2
                    go_wp2_with fail
                    refine HSH.out.mono ?_
                    rintro e w10 ⟨rfl, h11⟩
                    have H11 := Lib.hid h11
                    clear h11 HSH
                    go_wp2
                    go_meet
                    case rel => exact ⟨_, S, rfl, HST2.out.1, HST2.out.2, H11.out⟩
                  · have bz3 : (x.k == 17) = false := by simp [ck2]
                    have HCB := Lib.hid (HCC2.out.2 (fun hh => hh.elim ck ck2))
                    clear ck ck2
                    go_wp2
                    go_roundw
                    case rel => exact ⟨k + 1, S, s, by go_num, by omega, Lib.hid (HMISS.out HCB.out), (H10.out.kn_mono HLE3.out).p1⟩
                    case measure => simp [intOf]; omega
              case rest =>
                obtain ⟨dn, S', rfl, hst, hcb, h11⟩ := hcut
                have hk2 := HHIT.out hcb
                rw [hst] at hk2
                have HK2 := Lib.hid hk2
                have H11 := Lib.hid h11
                obtain ⟨-, lx2⟩ := HX3.out wc h11.p1.ext
                clear hst hcb h11 hk2 H10 b0 b1 b3 b5 lx bF
                have hneq : ∀ w, (binOp .neq 81 .nilFunc .nilFunc).run Tryz.prog w = .ok (.bool false) w := fun w => by kernel_rfl
                go_wp2
                go_roundw
                case rel => exact ⟨k + 1, S', _, by go_num, by omega, Lib.hid HK2.out, (H11.out.p1.kn_mono HLE3.out).p1⟩
                case measure => simp [intOf]; omega
        · have bz1 : (x.f != file) = true := by simp [cf]
          have hcb : countsB file f.d day x = false := by unfold countsB; rw [decide_eq_false cf]; simp
          have HCB := Lib.hid hcb
          clear hcb cf
          go_wp2
          go_roundw
          case rel => exact ⟨k + 1, S, s, by go_num, by omega, Lib.hid (HMISS.out HCB.out), (H10.out.kn_mono HLE3.out).p1⟩
          case measure => simp [intOf]; omega
    · obtain rfl : k = n := by omega
      have hfin := HK.out.1
      rw [List.drop_of_length_le (by rw [HYS.out.1]; exact Nat.le_refl _)] at hfin
      have HFIN := Lib.hid hfin
      clear hfin
      go_wp2
      go_ret2
      refine ⟨p, J2, rfl, HLE2.out, ?_⟩
      have e : R = (S, s) := HFIN.out.symm
      rw [e]
      exact hS
end Go.Proofs.YtfapiopnjllnnaaGreatDoor
