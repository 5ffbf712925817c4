/- Package title: walk, telling a function. -/
import Derived.Test.YtfapiopnjllnnaaGreatDoorGTitleApartST6
import Derived.Deep.CutBlock
import Derived.RangeFuncSeq
import Derived.RangeFuncRecord
import Derived.RangeFuncIn
import Derived.OwnWalkIn
import Derived.Test.YtfapiopnjllnnaaGreatDoorGTitleApart4
namespace Go.Proofs.YtfapiopnjllnnaaGreatDoor
open Go.RowKit PA
attribute [local go_sem ↓] sizeAct
set_option maxRecDepth 100000 in
set_option maxHeartbeats 8000000 in
theorem walkFn_spec {W w : World} {A : Assn} {I : Mem} {σ : Type} (Inv : σ → Assn) (ev : σ → Nat → Ac → Bool → σ) (s0 : σ) (gf : Nat) (caps : Array Value) (eg : ∀ args w, (callFunc gf args).run Tryz.prog w = .ok (.enter gf args) w)
    (Pre : Nat → σ → Prop) (hp0 : Pre 0 s0) (hp1 : ∀ k s x dn, Pre k s → Pre (k + 1) (ev s k x dn)) (hp2 : ∀ k s, Pre k s → Pre (k + 1) s)
    (hstep : ∀ (s : σ) (i : Nat) (x : Ac) (dn : Bool) (pt : Value) (w : World) (B : Assn), i < 40 → Pre i s → Sat W w (sep (Inv s) B) → Calls Tryz.prog gf (#[pt, .int .i64 i, .agg x.cells.toArray, .bool dn] ++ caps) w fun e w' => e = .returned (.tuple #[]) ∧ Sat W w' (sep (Inv (ev s i x dn)) B))
    (file day : Int) (f : Ac) (b : Addr) (n c : Nat) (xs : List Ac) (hn : xs.length = n) (h0 : 0 < n) (h40 : n < 40) (hD : xs.Pairwise KeyNe) (hfine : ActsFine xs) (hw : Swf (some b) n c) (hc : cellsAt (some b) (acs xs) I)
    (hf : filedT file (sortK xs) = some f) (hr : titleErr file day (sortK xs) = 0) (h : Sat W w (sep (kn I) (sep (Inv s0) A))) :
    Calls Tryz.prog 33 #[.int .i64 file, .int .i64 day, .slice (some b) n c, .func (.func gf) #[] caps] w fun e w' => ∃ p J, e = .returned (.tuple #[.pointer (some ⟨p, 0, none⟩), .int .i64 0]) ∧ Mem.le I J ∧ Sat W w' (sep (isT p f.p (walkT file f.d day ev 0 (sortK xs) (first1 f.p) s0).1) (sep (kn J) (sep (Inv (walkT file f.d day ev 0 (sortK xs) (first1 f.p) s0).2) A))) := by
  obtain ⟨ys, hys⟩ : ∃ ys, ys = sortK xs := ⟨_, rfl⟩
  obtain ⟨R, hR⟩ : ∃ R, R = walkT file f.d day ev 0 (sortK xs) (first1 f.p) s0 := ⟨_, rfl⟩
  rw [← hR]
  have hsort := Lib.hid (sortK_spec b n c xs hn hD h0 h40 hw hc h)
  have hyl : ys.length = n := by rw [hys, sortK_len, hn]
  have hyf : ActsFine ys := fun x hx => hfine x ((sortK_perm xs).subset (by rw [hys] at hx; exact hx))
  rw [← hys] at hsort hR hf hr
  have HR := Lib.hid hR
  have HYS := Lib.hid (And.intro hyl hyf)
  have HFR := Lib.hid (And.intro hf hr)
  have HST := Lib.hid hstep
  have HPP := Lib.hid (And.intro hp0 (And.intro hp1 hp2))
  clear hn hD h0 hfine hw hc hf hr h hys hR hyl hyf hstep hp0 hp1 hp2
  go_enter Tryz.func33, Tryz.ntmps33
  go_wp2_with fail
  refine hsort.out.mono ?_
  rintro e w2 ⟨g, c', J, rfl, hle, hc1, hc2, hcj, h2⟩
  have hfl := Lib.hid (filed_ok file day f g n c' ys HYS.out.1 (by omega) hcj HFR.out.1 HFR.out.2 h2)
  have HLE := Lib.hid hle
  have HCJ := Lib.hid hcj
  have HCC := Lib.hid (And.intro hc1 hc2)
  clear hsort hle hc1 hc2 hcj h2
  go_wp2_with fail
  refine hfl.out.mono ?_
  rintro e w3 ⟨rfl, J1, hle1, h3⟩
  obtain ⟨w4, s1, h4a⟩ := act_st (cur := #[.int .i64 0, .int .i64 0, .int .i64 0, .int .i64 0, .int .i64 0, .int .i64 0, .int .i64 0, .int .i64 0, .int .i64 0, .int .i64 0, .int .i64 0, .slice none 0 0, .slice none 0 0, .slice none 0 0, .slice none 0 0, .int .i64 0, .int .i64 0, .slice none 0 0, .slice none 0 0]) rfl (h3.alloc (.cells #[.int .i64 0, .int .i64 0, .int .i64 0, .int .i64 0, .int .i64 0, .int .i64 0, .int .i64 0, .int .i64 0, .int .i64 0, .int .i64 0, .int .i64 0, .slice none 0 0, .slice none 0 0, .slice none 0 0, .slice none 0 0, .int .i64 0, .int .i64 0, .slice none 0 0, .slice none 0 0] 57)) f
  obtain ⟨J2, hle2, hJ2, h4⟩ := h4a.settle.learn
  obtain ⟨F, hF⟩ : ∃ F, F = w3.heap.size := ⟨_, rfl⟩
  rw [← hF] at hJ2
  have HF := Lib.hid hF
  have HLE2 := Lib.hid (Mem.le_trans HLE.out (Mem.le_trans hle1 hle2))
  have HCJ2 := Lib.hid (cellsAt_mono (Mem.le_trans hle1 hle2) HCJ.out)
  have HJ2 : Hid (∀ w', Ext J2 w' → w'.cell? ⟨F, 1, none⟩ = some (.int .i64 f.d) ∧ w'.cell? ⟨F, 5, none⟩ = some (.int .i64 f.p)) := Lib.hid fun w' he => ⟨act_cell hJ2 he 1, act_cell hJ2 he 5⟩
  clear hfl h3 h4a hJ2 hle1 hle2 hF HLE HCJ
  go_upto_region 3 with (fail)
  rw [← HF.out]
  clear s1
  have hmm := @run_makeMap Tryz.prog
  obtain ⟨m, hm⟩ : ∃ m, m = w4.heap.size := ⟨_, rfl⟩
  obtain ⟨w5, hw5⟩ : ∃ w5, w5 = w4.alloc (.map #[] 0) := ⟨_, rfl⟩
  have h5 := h4.bmap_new
  rw [← hm, ← hw5] at h5
  obtain ⟨w6, n6, hup, -, h6⟩ := run_update_bmap (P := Tryz.prog) (T := 88) Tryz.underlying88 Tryz.underlying3 h5 f.p (rtV ⟨1, 1⟩)
  unfold rtV at hup
  have cF := (HJ2.out w4 h4.ext).2
  have cF5 := (HJ2.out w5 h5.p1.ext).2
  rw [hm, hw5] at hup
  rw [hw5] at cF5
  have h7 := h6.alloc (.cells #[.int .i64 f.p, .map (some m)] 90)
  obtain ⟨p, hp⟩ : ∃ p, p = w6.heap.size := ⟨_, rfl⟩
  obtain ⟨w7, hw7⟩ : ∃ w7, w7 = w6.alloc (.cells #[.int .i64 f.p, .map (some m)] 90) := ⟨_, rfl⟩
  rw [← hp, ← hw7] at h7
  have HP := Lib.hid hp
  have HM := Lib.hid hm
  have HW7 := Lib.hid hw7
  have H7 : Hid (Sat W w7 (sep (isT p f.p (first1 f.p)) (sep (kn J2) (sep (Inv s0) A)))) := Lib.hid (isT_mk (b := m) (n := n6) (by
    have e : fset (fun _ => none) f.p (some (rtV ⟨1, 1⟩)) = shV (first1 f.p) := shV_set (fun _ => none) f.p ⟨1, 1⟩
    rw [← e]; exact h7))
  clear hm hw5 h4 h5 h6 h7 hp hw7
  go_upto_region 6 with (fail)
  rw [← HP.out, ← HM.out, ← HW7.out]
  clear cF cF5 hup hmm
  have rtField0 : ∀ (u v : Int) (w : World), (Instr.field 44 (.agg #[.int .i64 u, .int .i64 v]) 0).run Tryz.prog w = .ok (.int .i64 u) w := fun u v w => by kernel_rfl
  have HF0 := Lib.hid rtField0
  clear rtField0
  go_wp2
  go_loopw [40] (fun kv wr => ∃ (k : Nat) (S : Shs) (s : σ), kv = .int .i64 k ∧ k ≤ n ∧ Hid (walkT file f.d day ev k (ys.drop k) S s = R ∧ ShOk S ∧ Pre k s) ∧ Sat W wr (sep (isT p f.p S) (sep (kn J2) (sep (Inv s) A)))) (fun kv _ => n - (intOf kv).toNat)
  case atStart => exact ⟨0, first1 f.p, s0, rfl, by omega, Lib.hid ⟨by rw [List.drop_zero, HR.out], .first _, HPP.out.1⟩, H7.out⟩
  case round =>
    obtain ⟨k, S, s, rfl, hk, HK, hS⟩ := hrel
    by_cases hlt : k < n
    · have hltz : (k : Int) < (n : Int) := by omega
      have hkl : k < ys.length := by rw [HYS.out.1]; exact hlt
      have hkI : (k : Int) < 40 := by omega
      obtain ⟨x, hx⟩ : ∃ x, x = ys[k] := ⟨_, rfl⟩
      have l1 := rsl_ld HCJ2.out hS.p1.ext k hkl
      rw [← hx] at l1
      have hdrop : ys.drop k = x :: ys.drop (k + 1) := by rw [hx]; exact List.drop_eq_getElem_cons hkl
      have hmem : x ∈ ys := by rw [hx]; exact List.getElem_mem hkl
      have hmiss : countsB file f.d day x = false → walkT file f.d day ev (k + 1) (ys.drop (k + 1)) S s = R ∧ ShOk S ∧ Pre (k + 1) s := fun e => by
        have := HK.out.1
        rw [hdrop, walkT_miss e] at this
        exact ⟨this, HK.out.2.1, HPP.out.2.2 k s HK.out.2.2⟩
      have hhit : countsB file f.d day x = true → walkT file f.d day ev (k + 1) (ys.drop (k + 1)) (PA.stepT S x).1 (ev s k x (PA.stepT S x).2) = R ∧ ShOk (PA.stepT S x).1 ∧ Pre (k + 1) (ev s k x (PA.stepT S x).2) := fun e => by
        have := HK.out.1
        rw [hdrop, walkT_hit e] at this
        exact ⟨this, stepT_fine HK.out.2.1 x (HYS.out.2 x hmem), HPP.out.2.1 k s x _ HK.out.2.2⟩
      have HMISS := Lib.hid hmiss
      have HHIT := Lib.hid hhit
      have HXM := Lib.hid (And.intro hx hmem)
      obtain ⟨w8, s1, h8⟩ := act_st (cur := #[.int .i64 0, .int .i64 0, .int .i64 0, .int .i64 0, .int .i64 0, .int .i64 0, .int .i64 0, .int .i64 0, .int .i64 0, .int .i64 0, .int .i64 0, .slice none 0 0, .slice none 0 0, .slice none 0 0, .slice none 0 0, .int .i64 0, .int .i64 0, .slice none 0 0, .slice none 0 0]) rfl (hS.alloc (.cells #[.int .i64 0, .int .i64 0, .int .i64 0, .int .i64 0, .int .i64 0, .int .i64 0, .int .i64 0, .int .i64 0, .int .i64 0, .int .i64 0, .int .i64 0, .slice none 0 0, .slice none 0 0, .slice none 0 0, .slice none 0 0, .int .i64 0, .int .i64 0, .slice none 0 0, .slice none 0 0] 57)) x
      obtain ⟨J3, hle3, hJ3, h9⟩ := (show Sat W w8 (sep (imm wr.heap.size (.cells x.cells.toArray 57 (0, 0))) (sep (kn J2) (sep (isT p f.p S) (sep (Inv s) A)))) from h8.settle.p2.p1).learn
      obtain ⟨G, hG⟩ : ∃ G, G = wr.heap.size := ⟨_, rfl⟩
      rw [← hG] at hJ3
      have HX3 : Hid (∀ w', Ext J3 w' → (w'.cell? ⟨G, 0, none⟩ = some (.int .i64 x.k) ∧ w'.cell? ⟨G, 1, none⟩ = some (.int .i64 x.d) ∧ w'.cell? ⟨G, 3, none⟩ = some (.int .i64 x.f) ∧ w'.cell? ⟨G, 5, none⟩ = some (.int .i64 x.p)) ∧ Sem.run Tryz.prog (loadCellsFrom ⟨G, 0, none⟩ 0 kA #[]) w' = .ok x.cells.toArray w') :=
        Lib.hid fun w' he => ⟨⟨act_cell hJ3 he 0, act_cell hJ3 he 1, act_cell hJ3 he 3, act_cell hJ3 he 5⟩, act_rdI hJ3 he⟩
      have HLE3 := Lib.hid hle3
      have HG := Lib.hid hG
      have hJ3m : ∀ w', Ext J3 w' → w'.cell? ⟨F, 1, none⟩ = some (.int .i64 f.d) := fun w' he => (HJ2.out w' fun b o hb => he b o (hle3 b o hb)).1
      have HJ3 := Lib.hid hJ3m
      have H9 := Lib.hid h9
      have HOF := fun (w' : World) (A' : Assn) (h' : Sat W w' A') => ofFile_spec x.k h'
      obtain ⟨ob, hob⟩ : ∃ ob, ob = ofFileB x.k := ⟨_, rfl⟩
      rw [← hob] at HOF
      have HHOF := Lib.hid HOF
      have HOB := Lib.hid hob
      have HS := Lib.hid hS
      clear hx hdrop hmem hmiss hhit h8 hle3 hJ3 hG hJ3m h9 hob hS HOF
      go_upto_region 9 with (fail)
      rw [← HG.out]
      clear l1 s1
      obtain ⟨⟨b0, -, -, -⟩, -⟩ := HX3.out w8 H9.out.ext
      go_wp2_with fail
      refine (HHOF.out _ _ H9.out).mono ?_
      rintro e w9 ⟨rfl, h10⟩
      clear b0
      have H10 := Lib.hid h10
      obtain ⟨⟨b0, b1, b3, b5⟩, lx⟩ := HX3.out w9 h10.ext
      have bF := HJ3.out w9 h10.ext
      clear h10 H9 HHOF HS
      cases ob with
      | false =>
        have hcb : countsB file f.d day x = false := by unfold countsB; rw [← HOB.out]; rfl
        have HCB := Lib.hid hcb
        clear hcb
        go_wp2
        go_roundw
        case rel => exact ⟨k + 1, S, s, by go_num, by omega, Lib.hid (HMISS.out HCB.out), (H10.out.kn_mono HLE3.out).p1⟩
        case measure => simp [intOf]; omega
      | true =>
        by_cases cf : x.f = file
        · have bz1 : (x.f != file) = false := by simp [cf]
          by_cases cd : x.d < f.d
          · have hcb : countsB file f.d day x = false := by unfold countsB; rw [decide_eq_false (show ¬ f.d ≤ x.d by omega)]; simp
            have HCB := Lib.hid hcb
            clear hcb cf
            go_wp2
            go_roundw
            case rel => exact ⟨k + 1, S, s, by go_num, by omega, Lib.hid (HMISS.out HCB.out), (H10.out.kn_mono HLE3.out).p1⟩
            case measure => simp [intOf]; omega
          · by_cases cy : day < x.d
            · have hcb : countsB file f.d day x = false := by unfold countsB; rw [decide_eq_false (show ¬ x.d ≤ day by omega)]; simp
              have HCB := Lib.hid hcb
              clear hcb cf
              go_wp2
              go_roundw
              case rel => exact ⟨k + 1, S, s, by go_num, by omega, Lib.hid (HMISS.out HCB.out), (H10.out.kn_mono HLE3.out).p1⟩
              case measure => simp [intOf]; omega
            · have hcc : (x.k = 16 ∨ x.k = 17) → countsB file f.d day x = true := fun hh => by
                unfold countsB
                rw [← HOB.out, decide_eq_true cf, decide_eq_true (show f.d ≤ x.d by omega), decide_eq_true (show x.d ≤ day by omega)]
                rcases hh with e | e <;> simp [e]
              have hcn : ¬ (x.k = 16 ∨ x.k = 17) → countsB file f.d day x = false := fun hh => by
                unfold countsB
                rw [decide_eq_false (fun e => hh (.inl e)), decide_eq_false (fun e => hh (.inr e))]; simp
              have HCC2 := Lib.hid (And.intro hcc hcn)
              clear hcc hcn cf
              go_upto_block 2 with (fail)
              go_cut [16] (fun dv wx => ∃ (dn : Bool) (S' : Shs), dv = .bool dn ∧ PA.stepT S x = (S', dn) ∧ countsB file f.d day x = true ∧ Sat W wx (sep (isT p f.p S') (sep (kn J3) (sep (Inv s) A))))
              case first =>
                by_cases ck : x.k = 16
                · have hfx := HYS.out.2 x HXM.out.2 ck
                  have hmv := move_spec x hfx.1 HK.out.2.1 (H10.out.p1)
                  have hst : PA.stepT S x = moveP S x := by unfold PA.stepT; rw [if_pos ck]
                  obtain ⟨mv, hmv0⟩ : ∃ mv, mv = moveP S x := ⟨_, rfl⟩
                  rw [← hmv0] at hmv hst
                  have HMV := Lib.hid hmv
                  have HST2 := Lib.hid (And.intro hst (HCC2.out.1 (.inl ck)))
                  have bz2 : (x.k == 16) = true := by simp [ck]
                  clear hfx hmv hst hmv0 ck
                  go_wp2_with fail
                  refine HMV.out.mono ?_
                  rintro e w10 ⟨rfl, h11⟩
                  have H11 := Lib.hid h11
                  clear h11 HMV
                  go_wp2
                  go_meet
                  case rel => exact ⟨mv.2, mv.1, rfl, HST2.out.1, HST2.out.2, H11.out⟩
                · have bz2 : (x.k == 16) = false := by simp [ck]
                  by_cases ck2 : x.k = 17
                  · have bz3 : (x.k == 17) = true := by simp [ck2]
                    have hsh := share_spec x.p (H10.out.p1)
                    have hst : PA.stepT S x = (S, decide (0 < (shareP S x.p).n)) := by unfold PA.stepT; rw [if_neg ck]
                    obtain ⟨sv, hsv⟩ : ∃ sv, sv = shareP S x.p := ⟨_, rfl⟩
                    rw [← hsv] at hsh hst
                    have HSH := Lib.hid hsh
                    have HST2 := Lib.hid (And.intro hst (HCC2.out.1 (.inr ck2)))
                    have rtField0 := HF0.out
                    clear hsh hst hsv ck ck2
                    go_wp2_with fail
                    refine HSH.out.mono ?_
                    rintro e w10 ⟨rfl, h11⟩
                    have H11 := Lib.hid h11
                    clear h11 HSH
                    go_wp2
                    go_meet
                    case rel => exact ⟨_, S, rfl, HST2.out.1, HST2.out.2, H11.out⟩
                  · have bz3 : (x.k == 17) = false := by simp [ck2]
                    have HCB := Lib.hid (HCC2.out.2 (fun hh => hh.elim ck ck2))
                    clear ck ck2
                    go_wp2
                    go_roundw
                    case rel => exact ⟨k + 1, S, s, by go_num, by omega, Lib.hid (HMISS.out HCB.out), (H10.out.kn_mono HLE3.out).p1⟩
                    case measure => simp [intOf]; omega
              case rest =>
                obtain ⟨dn, S', rfl, hst, hcb, h11⟩ := hcut
                have hk2 := HHIT.out hcb
                rw [hst] at hk2
                have HK2 := Lib.hid hk2
                have H11 := Lib.hid h11
                obtain ⟨-, lx2⟩ := HX3.out wc h11.p1.ext
                clear hst hcb h11 hk2 H10 b0 b1 b3 b5 lx bF
                have hneq : ∀ w, (binOp .neq 81 (.func (.func gf) #[] caps) .nilFunc).run Tryz.prog w = .ok (.bool true) w := fun w => by kernel_rfl
                have hcall := HST.out s k x dn (.pointer (some ⟨p, 0, none⟩)) wc _ (by omega) HK.out.2.2 (show Sat W wc (sep (Inv s) (sep (isT p f.p S') (sep (kn J3) A))) by simpa only [sep_comm, sep_lcomm, sep_assoc] using H11.out)
                have HCALL := Lib.hid hcall
                clear hcall
                go_wp2_with fail
                refine HCALL.out.mono ?_
                rintro e w11 ⟨rfl, h12⟩
                have H12 := Lib.hid h12
                clear h12 HCALL H11 lx2
                go_wp2
                go_roundw
                case rel => exact ⟨k + 1, S', _, by go_num, by omega, Lib.hid HK2.out, (by have := H12.out.p2.kn_mono HLE3.out; simpa only [sep_comm, sep_lcomm, sep_assoc] using this)⟩
                case measure => simp [intOf]; omega
        · have bz1 : (x.f != file) = true := by simp [cf]
          have hcb : countsB file f.d day x = false := by unfold countsB; rw [decide_eq_false cf]; simp
          have HCB := Lib.hid hcb
          clear hcb cf
          go_wp2
          go_roundw
          case rel => exact ⟨k + 1, S, s, by go_num, by omega, Lib.hid (HMISS.out HCB.out), (H10.out.kn_mono HLE3.out).p1⟩
          case measure => simp [intOf]; omega
    · obtain rfl : k = n := by omega
      have hfin := HK.out.1
      rw [List.drop_of_length_le (by rw [HYS.out.1]; exact Nat.le_refl _)] at hfin
      have HFIN := Lib.hid hfin
      clear hfin
      go_wp2
      go_ret2
      refine ⟨p, J2, rfl, HLE2.out, ?_⟩
      have e : R = (S, s) := HFIN.out.symm
      rw [e]
      exact hS
end Go.Proofs.YtfapiopnjllnnaaGreatDoor
/- A range over a function, said with Sat: what the consumer holds and what the iterator holds are parts of one assertion; the loop's record and its block of deferred calls are owned blocks beside them. Plain Lean, no program in sight. -/
namespace PA
open Go Go.RowKit
theorem Sat.putObj {W w : World} {A : Assn} {l : Nat} {o : Obj} (h : Sat W w (sep (blk l o) A)) (o' : Obj) : Sat W (w.putObj l o') (sep (blk l o') A) :=
  h.change rfl rfl rfl (World.putObj_heap_same h.lt) fun _ hk _ => World.putObj_heap_other hk
section
variable {α : Type} {F : Fence} {P : Program}
/-- The yield of loop l takes x: what the consumer holds grows by x, whatever the iterator holds beside it. -/
def Takes (F : Fence) (n : Nat) (P : Program) (W : World) (l : Nat) (encs : α → Array Value) (Fx : α → Assn) (N : Nat) (R : List α → Assn) : Prop :=
  ∀ (pre : List α) (x : α) (w : World) (B : Assn), pre.length < N → Sat W w (sep (R pre) (sep (Fx x) B)) →
    YieldAt F n P l (encs x) w fun e w' => e = .returned (.bool true) ∧ Sat W w' (sep (R (pre ++ [x])) B)
/-- An iterator that gives all of xs, S xs. -/
def Gives (F : Fence) (n : Nat) (P : Program) (W : World) (gf : Nat) (lb : Array Value) (encs : α → Array Value) (Fx : α → Assn) (N : Nat) (S : List α → Prop) (Pre Post : Assn) : Prop :=
  ∀ (l : Nat) (R : List α → Assn) (w : World), Takes F (n - 1) P W l encs Fx N R → Sat W w (sep (R []) Pre) →
    CallsIn F n P gf (#[.func (.yield l) #[] #[]] ++ lb) w fun e w' => (∃ v, e = .returned v) ∧ ∃ xs, S xs ∧ Sat W w' (sep (R xs) Post)
/-- How a round's body is left. -/
def Round (W : World) (A : Assn) : Exit → Act → World → Prop
  | .normal, _, w => Sat W w A
  | _, _, _ => False
theorem wpIn_range {n : Nat} {W : World} {g : Operand} {ps : Array Tmp} {assign body : Code} {Q : Exit → Act → World → Prop} {a : Act} {w : World}
    (hro : F.round = none) (h1 : 1 ≤ n) {gf : Nat} {lb : Array Value} (hg : a.eval g = .func (.func gf) #[] lb) (hFg : F.fn gf) (eg : ∀ args w, (callFunc gf args).run P w = .ok (.enter gf args) w)
    {encs : α → Array Value} {Fx : α → Assn} {N : Nat} {S : List α → Prop} {Pre Post : Assn} (hps : ∀ x, (encs x).size = ps.size)
    (hseq : Gives F (n - 1) P W gf lb encs Fx N S Pre Post)
    (C : List α → Assn) (h0 : Sat W w (sep (C []) Pre)) (a₁ : α → Act)
    (hassign : ∀ (l : Nat) (x : α) (w' : World) (K : Act → World → Prop), K (a₁ x) w' →
      assign.wpIn (F.inRound l) (n - 1 - 1) P (Exit.then K (fun _ _ _ => False)) { tmps := (ps.zip (encs x)).foldl (fun t (p, v) => t.setIfInBounds p v) a.tmps, defers := [] } w')
    (hbody : ∀ (l : Nat) (pre : List α) (x : α) (w' : World) (B : Assn), pre.length < N → Sat W w' (sep (C pre) (sep (Fx x) B)) →
      body.wpIn (F.inRound l) (n - 1 - 1) P (Round W (sep (C (pre ++ [x])) B)) (a₁ x) w')
    (hdone : ∀ (D : Nat) (xs : List α) (w' : World), S xs → Sat W w' (sep (blk D (.deferred (some []))) (sep (C xs) Post)) →
      Q .normal { a with defers := { target := .collected D, args := #[] } :: a.defers } w') :
    (Code.rangeFunc g ps assign body).wpIn F n P Q a w := by
  refine wpIn_rangeFunc fun fn hfn => ?_
  rw [hro]
  obtain ⟨D, hD⟩ : ∃ D, D = w.heap.size := ⟨_, rfl⟩
  obtain ⟨mk, hmk⟩ : ∃ mk : LoopState → Option Code → Loop, mk = fun st pe => ⟨st, pe, fn, a.tmps, ps, assign, body, D⟩ := ⟨_, rfl⟩
  obtain ⟨w1, hw1⟩ : ∃ w1, w1 = (w.alloc (.deferred (some []))).alloc (.loop (mk .ready none)) := ⟨_, rfl⟩
  have hS1 : Sat W w1 (sep (sep (C []) (sep (blk (D + 1) (.loop (mk .ready none))) (blk D (.deferred (some []))))) Pre) := by
    have h := (h0.alloc (.deferred (some []))).alloc (.loop (mk .ready none))
    rw [World.size_alloc, ← hw1, ← hD] at h
    simpa only [sep_comm, sep_lcomm, sep_assoc] using h
  have henter := run_enterLoop_outer (P := P) (w := w) fn a.tmps ps assign body
  refine ⟨D + 1, [{ target := .collected D, args := #[] }], w1, { target := .fn (.func gf) lb, args := #[.func (.yield (D + 1)) #[] #[]] }, w1, gf, #[.func (.yield (D + 1)) #[] #[]] ++ lb, w1, ?_, ?_, ?_, ?_, fun _ => h1, ?_⟩
  · rw [hw1, hmk, hD]; exact henter
  · simp only [resolve, hg]
    simp [go_sem]
  · intro f' hf'; simp [Target.leads] at hf'; subst hf'; exact hFg
  · simp [invoke, go_sem, eg]
  · refine (hseq (D + 1) (fun pre => sep (C pre) (sep (blk (D + 1) (.loop (mk .ready none))) (blk D (.deferred (some []))))) w1 ?_ hS1).mono ?_
    · intro pre x w2 B hlen hS
      have hl : Sat W w2 (sep (blk (D + 1) (.loop (mk .ready none))) (sep (C pre) (sep (Fx x) (sep B (blk D (.deferred (some []))))))) := by simpa only [sep_comm, sep_lcomm, sep_assoc] using hS
      have hy := run_yield (P := P) (args := encs x) hl.blk_heap (by rw [hmk]; exact hps x)
      rw [hmk] at hy
      refine ⟨fn, _, assign, body, hy, roundIn_of_wpIn hfn (hassign _ x w2 _ ⟨_, run_beginRound hl.blk_heap (by rw [hmk]), ?_⟩)⟩
      have h3 := (hl.putObj (.loop { mk .ready none with state := .busy })).p1
      refine wpIn_mono (hbody _ pre x _ (sep (blk (D + 1) (.loop { mk .ready none with state := .busy })) (sep B (blk D (.deferred (some []))))) hlen (by simpa only [sep_comm, sep_lcomm, sep_assoc] using h3)) ?_
      rintro e a3 w3 hp
      cases e with
      | normal =>
        have h4 : Sat W w3 (sep (blk (D + 1) (.loop { mk .ready none with state := .busy })) (sep (C (pre ++ [x])) (sep B (blk D (.deferred (some [])))))) := Sat.p1 hp
        have hr := run_endRound (P := P) none h4.blk_heap
        have h5 := h4.putObj (.loop (mk .ready none))
        refine ⟨_, _, hr, rfl, ?_⟩
        have e : ({ mk .ready none with state := .busy } : Loop) = mk .busy none := by rw [hmk]
        rw [e]
        have e2 : ({ mk .busy none with state := if (none : Option Code).isNone then .ready else .done, pending := none } : Loop) = mk .ready none := by rw [hmk]; rfl
        rw [e2]
        simpa only [sep_comm, sep_lcomm, sep_assoc] using h5
      | ret => exact hp.elim
      | exit id => exact hp.elim
      | goto t => exact hp.elim
      | panic ch => exact hp.elim
      | outgrown => exact hp.elim
    · rintro e w2 ⟨⟨v, rfl⟩, xs, hS, h2⟩
      have h3 : Sat W w2 (sep (blk (D + 1) (.loop (mk .ready none))) (sep (C xs) (sep Post (blk D (.deferred (some [])))))) := by simpa only [sep_comm, sep_lcomm, sep_assoc] using h2
      have e : (mk .ready none).pending = none := by rw [hmk]
      have hr := run_endLoop (P := P) h3.blk_heap (by rw [hmk]; simp)
      have h4 := (h3.putObj (.loop { mk .ready none with state := .exhausted })).drop
      rw [e] at hr
      refine ⟨none, _, hr, hdone D xs _ hS ?_⟩
      dsimp only at h4
      rw [e] at h4
      simpa only [sep_comm, sep_lcomm, sep_assoc] using h4
/-- 'append' onto an owned row, inside a fence. -/
theorem wpli_append_osl {F : Fence} {n' : Nat} {P : Program} {W w : World} {A : Assn} {ops : Array Oper} {rest : List Oper} {o : Oper} {ac : Act} {Q : Exit → Act → World → Prop} (hgd : o.guard = none) (s y : Operand) (t : TypeId)
    (ho : o.op = .call { callee := .builtin .append, args := #[s, y], argTypes := #[t, t] })
    (E k by_ : Nat) (z : Value) (ht : P.underlying t = some (.slice E)) (hi : (P.info? E).map (fun i => (i.zero, i.size, i.bytes)) = some (some z, k, by_)) (hzs : z.cells.size = k)
    {a : Option Addr} {n c : Nat} {xs : List Value} (hs : ac.eval s = .slice a n c) (h : Sat W w (sep (osl E k a n c xs) A))
    {x : Option Addr} {m cc : Nat} (hy : ac.eval y = .slice x m cc) (news : List Value) (hl : news.length = m * k) (hx0 : x = none → m = 0) (hx : ∀ b, x = some b → ∀ j u, news[j]? = some u → w.cell? (b.add j) = some u)
    (h1 : ∀ u ∈ news, u.oneCell' = true) (hby : (n + m) * by_ ≤ 140737488355328) (h63 : n + m ≤ maxLen)
    (hK : ∀ a' c' w', Sat W w' (sep (osl E k a' (n + m) c' (xs ++ news)) A) → wpListIn F n' P ops Q rest (ac.put o.dst (.slice a' (n + m) c')) w') : wpListIn F n' P ops Q (o :: rest) ac w := by
  refine wpListIn_plain hgd fun K hK' => ?_
  obtain ⟨i, hi1, hi2, hi3, hi4⟩ := info_parts hi
  obtain ⟨a', c', w', hr, hS⟩ := run_append_osl t o.type E k by_ i z ht hi1 hi2 hi3 hi4 hzs h x m cc news hl hx0 hx h1 h63 hby
  unfold Oper.wpIn
  refine ⟨?_, ?_⟩
  · simp [Oper.about, ho, resolve, Target.leads, Sem.run_pure]
  · rw [Oper.semAt_plain F _ _ (by rw [ho]; intro c hc'; cases hc')]
    rw [exec_append s y t t ho (by rw [hs, hy]; exact hr)]
    exact hK' _ _ (hK a' c' w' hS)
end
end PA
