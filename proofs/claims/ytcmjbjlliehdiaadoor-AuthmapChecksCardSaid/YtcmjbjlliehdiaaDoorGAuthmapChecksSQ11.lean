/- Package authmap: Range, the walk. -/
import Derived.Test.YtcmjbjlliehdiaaDoorGAuthmapChecks16
import Derived.Test.YtcmjbjlliehdiaaDoorGAuthmapChecksSRf2
namespace PA
open Go Go.RowKit
def someB (M : KVs) (x : Nat × Int) : UInt8 := if (hbN M x.1 x.2).isSome = true then 1 else 0
def shapeL (M : KVs) (xs : List (Nat × Int)) : List UInt8 := xs.map (someB M)
def leftF (M : KVs) (a : Int) (x : Nat × Int) : Option Nat := if bLast x < a then hbN M x.1 x.2 else none
def rightF (M : KVs) (a : Int) (x : Nat × Int) : Option Nat := if bLast x < a then none else hbN M x.1 x.2
def leftL (M : KVs) (a : Int) (xs : List (Nat × Int)) : List Nat := xs.filterMap (leftF M a)
def rightL (M : KVs) (a : Int) (xs : List (Nat × Int)) : List Nat := xs.filterMap (rightF M a)
theorem leftL_len (M : KVs) (a : Int) (xs : List (Nat × Int)) : (leftL M a xs).length ≤ xs.length := List.length_filterMap_le _ _
theorem rightL_len (M : KVs) (a : Int) (xs : List (Nat × Int)) : (rightL M a xs).length ≤ xs.length := List.length_filterMap_le _ _
theorem shapeL_snoc (M : KVs) (xs : List (Nat × Int)) (y : Nat × Int) : shapeL M (xs ++ [y]) = shapeL M xs ++ [someB M y] := by simp [shapeL]
theorem leftL_no {M : KVs} {a : Int} {y : Nat × Int} (xs : List (Nat × Int)) (h : leftF M a y = none) : leftL M a (xs ++ [y]) = leftL M a xs := by simp [leftL, List.filterMap_append, h]
theorem leftL_so {M : KVs} {a : Int} {y : Nat × Int} {v : Nat} (xs : List (Nat × Int)) (h : leftF M a y = some v) : leftL M a (xs ++ [y]) = leftL M a xs ++ [v] := by simp [leftL, List.filterMap_append, h]
theorem rightL_no {M : KVs} {a : Int} {y : Nat × Int} (xs : List (Nat × Int)) (h : rightF M a y = none) : rightL M a (xs ++ [y]) = rightL M a xs := by simp [rightL, List.filterMap_append, h]
theorem rightL_so {M : KVs} {a : Int} {y : Nat × Int} {v : Nat} (xs : List (Nat × Int)) (h : rightF M a y = some v) : rightL M a (xs ++ [y]) = rightL M a xs ++ [v] := by simp [rightL, List.filterMap_append, h]
def AKeys (M : KVs) (ks : List Int) : Prop := ks.Pairwise (· < ·) ∧ ∀ k, k ∈ ks ↔ (M k).isSome = true
end PA
namespace Go.Proofs.YtcmjbjlliehdiaaDoor
open Go.RowKit PA
attribute [local go_sem] Oper.semAt_some
theorem infoPair : (Tryd.prog.info? 84).map (fun i => (i.zero, i.size, i.bytes)) = some (some (.agg #[.int .i64 0, .slice none 0 0]), 2, 32) := by kernel_rfl
theorem infoU64q : (Tryd.prog.info? 43).map (fun i => (i.zero, i.size, i.bytes)) = some (some (.int .u64 0), 1, 8) := by kernel_rfl
/-- The lists that lie behind the cells of a proof. -/
def prfA (q : Nat) (lf rt : List Nat) (sh : List UInt8) : Assn := ex fun c : (Option Addr × Nat) × (Option Addr × Nat) × (Option Addr × Nat) =>
  sep (blk q (.cells #[.slice c.1.1 lf.length c.1.2, .slice c.2.1.1 rt.length c.2.1.2, .slice c.2.2.1 sh.length c.2.2.2] 40 (0, 0)))
    (sep (osl 43 1 c.1.1 lf.length c.1.2 (lf.map uv)) (sep (osl 43 1 c.2.1.1 rt.length c.2.1.2 (rt.map uv)) (osl 5 1 c.2.2.1 sh.length c.2.2.2 (sh.map bv))))
theorem prfA_open {W w : World} {A : Assn} {q : Nat} {lf rt : List Nat} {sh : List UInt8} (h : Sat W w (sep (prfA q lf rt sh) A)) : ∃ c1 c2 c3 : Option Addr × Nat,
    Sat W w (sep (blk q (.cells #[.slice c1.1 lf.length c1.2, .slice c2.1 rt.length c2.2, .slice c3.1 sh.length c3.2] 40 (0, 0))) (sep (osl 43 1 c1.1 lf.length c1.2 (lf.map uv)) (sep (osl 43 1 c2.1 rt.length c2.2 (rt.map uv)) (sep (osl 5 1 c3.1 sh.length c3.2 (sh.map bv)) A)))) := by
  rw [prfA, ex_sep, Sat.ex] at h
  obtain ⟨⟨c1, c2, c3⟩, h⟩ := h
  exact ⟨c1, c2, c3, by simpa only [sep_comm, sep_lcomm, sep_assoc] using h⟩
theorem prfA_mk {W w : World} {A : Assn} {q : Nat} {lf rt : List Nat} {sh : List UInt8} {la ra sa : Option Addr} {lc rc sc nl nr ns : Nat} (e1 : nl = lf.length) (e2 : nr = rt.length) (e3 : ns = sh.length)
    (h : Sat W w (sep (blk q (.cells #[.slice la nl lc, .slice ra nr rc, .slice sa ns sc] 40 (0, 0))) (sep (osl 43 1 la nl lc (lf.map uv)) (sep (osl 43 1 ra nr rc (rt.map uv)) (sep (osl 5 1 sa ns sc (sh.map bv)) A))))) : Sat W w (sep (prfA q lf rt sh) A) := by
  subst e1 e2 e3
  rw [prfA, ex_sep, Sat.ex]
  exact ⟨((la, lc), (ra, rc), (sa, sc)), by simpa only [sep_comm, sep_lcomm, sep_assoc] using h⟩
set_option maxRecDepth 100000 in
set_option maxHeartbeats 16000000 in
theorem arange_ok {W w : World} {A : Assn} {I : Mem} (hw : WholeOK W) (p : Nat) (M : KVs) (a b : Int) (h : Sat W w (sep (isAM p M) (sep (kn I) A))) (hn : 0 ≤ a ∧ a ≤ b ∧ b ≤ 4095) :
    Calls Tryd.prog 17 #[.pointer (some ⟨p, 0, none⟩), .int .i64 a, .int .i64 b] w fun e w' => ∃ pa pc cells ks la lc ra rc sa sc J, AKeys M ks ∧ Mem.le I J ∧
      e = .returned (.tuple #[.slice pa (pairsL M a b ks).length pc, .agg #[.slice la (leftL M a (outL a b 12 0)).length lc, .slice ra (rightL M a (outL a b 12 0)).length rc, .slice sa (shapeL M (outL a b 12 0)).length sc], .int .i64 0]) ∧
      Sat W w' (sep (osl 84 2 pa (pairsL M a b ks).length pc cells) (sep ((rPair.rows 2).is cells (pairsL M a b ks)) (sep (osl 43 1 la (leftL M a (outL a b 12 0)).length lc ((leftL M a (outL a b 12 0)).map uv)) (sep (osl 43 1 ra (rightL M a (outL a b 12 0)).length rc ((rightL M a (outL a b 12 0)).map uv))
        (sep (osl 5 1 sa (shapeL M (outL a b 12 0)).length sc ((shapeL M (outL a b 12 0)).map bv)) (sep (kn J) (sep (isAM p M) A))))))) := by
  obtain ⟨x, hx⟩ : ∃ x, x = w.heap.size := ⟨_, rfl⟩
  obtain ⟨w3, hw3⟩ : ∃ w3, w3 = (((w.alloc (.cells #[.pointer (some ⟨p, 0, none⟩)] 25)).alloc (.cells #[.int .i64 a] 3)).alloc (.cells #[.slice none 0 0, .slice none 0 0, .slice none 0 0] 40)) := ⟨_, rfl⟩
  have hq := aisrange_spec a b w3
  rw [decide_eq_true hn] at hq
  have h3 : Sat W w3 (sep (blk (x + 1 + 1) (.cells #[.slice none 0 0, .slice none 0 0, .slice none 0 0] 40 (0, 0))) (sep (blk (x + 1) (.cells #[.int .i64 a] 3 (0, 0))) (sep (blk x (.cells #[.pointer (some ⟨p, 0, none⟩)] 25 (0, 0))) (sep (isAM p M) (sep (kn I) A))))) := by
    have h1 := ((h.alloc (.cells #[.pointer (some ⟨p, 0, none⟩)] 25)).alloc (.cells #[.int .i64 a] 3)).alloc (.cells #[.slice none 0 0, .slice none 0 0, .slice none 0 0] 40)
    simp only [World.size_alloc] at h1
    rw [← hw3, ← hx] at h1
    exact h1
  have HQ := Lib.hid hq
  have HW := Lib.hid (And.intro hx (And.intro hw3 hw))
  have HAB := Lib.hid hn
  have H3 := Lib.hid h3
  clear h hq hx hw3 hn hw
  refine (callsIn_wide (n := 5)).1 ?_
  refine callsIn_of_wp_marks Tryd.func17 rfl trivial ?_ rfl
  simp only [Tryd.ntmps17, List.size_toArray, List.length_cons, List.length_nil, Nat.reduceAdd, Nat.reduceSub, Array.replicate_succ, Array.replicate_zero, List.push_toArray, List.append_toArray, List.nil_append, List.cons_append]
  refine wpIn_wide.2 ?_
  go_upto_region 1 with (fail)
  rw [← HW.out.1, ← HW.out.2.1]
  have c0 : w3.cell? ⟨x + 1, 0, none⟩ = some (.int .i64 a) := h3.p1.cell 0
  clear h3
  go_wp2_with fail
  refine HQ.out.mono ?_
  rintro e w' ⟨rfl, rfl⟩
  clear HQ
  have h4 := H3.out.p3
  obtain ⟨b1, f, b2, n2, h5⟩ := isAM_open h4
  have hks := keys_spec b1 f (nkeys M) (show Sat W w' (sep (bmap b1 f (nkeys M)) (sep (vokA f M) (sep (kn I) (sep (blk p (.cells (amC b1 b2) 92 (0, 0))) (sep (gmap bkv b2 (hmF M) n2) (sep (blk (x + 1 + 1) (.cells #[.slice none 0 0, .slice none 0 0, .slice none 0 0] 40 (0, 0))) (sep (blk (x + 1) (.cells #[.int .i64 a] 3 (0, 0))) (sep (blk x (.cells #[.pointer (some ⟨p, 0, none⟩)] 25 (0, 0))) A)))))))) by simpa only [sep_comm, sep_lcomm, sep_assoc] using h5)
  have c1 : w'.cell? ⟨x, 0, none⟩ = some (.pointer (some ⟨p, 0, none⟩)) := H3.out.p2.cell 0
  have c2 : w'.cell? ⟨p, 0, none⟩ = some (.map (some b1)) := h5.cell 0
  obtain ⟨nk, hnk⟩ : ∃ nk, nk = nkeys M := ⟨_, rfl⟩
  have hnk1 : nk ≤ 4096 := by rw [hnk]; exact nkeys_le M
  rw [← hnk] at hks
  have HKS := Lib.hid hks
  have HNK := Lib.hid (And.intro hnk hnk1)
  clear H3 h4 h5 hks hnk hnk1
  go_wp2_with fail
  refine HKS.out.mono ?_
  rintro e w4 ⟨rfl, h6⟩
  have hso := sortedKeys_spec _ b1 f nk (by have := HNK.out.2; omega) h6
  have HSO := Lib.hid hso
  clear HKS h6 hso c0 c1 c2
  go_wp2_with fail
  refine HSO.out.mono ?_
  rintro e w5 ⟨ka, kc, ks, rfl, hkf, hkl, h7⟩
  have hak : AKeys M ks := ⟨hkf.1, fun k => by rw [hkf.2, (show Sat W w5 (sep (osl 3 1 ka ks.length kc (ks.map iv)) (sep (bmap b1 f nk) (sep (vokA f M) _))) from h7).p2.pers_heap.isSome k]⟩
  obtain ⟨kn0, hkn⟩ : ∃ kn0, kn0 = ks.length := ⟨_, rfl⟩
  have hkn1 : kn0 ≤ 4096 := by rw [hkn]; have := HNK.out.2; omega
  rw [← hkn] at h7
  rw [← hkn]
  have HK := Lib.hid (And.intro hak (And.intro hkn hkl))
  have H7 := Lib.hid h7
  clear HSO hkf hkl hak hkn h7
  go_wp2_with fail
  go_loopw [9, 28] (fun lv iv' wr => ∃ (i : Nat) (pa : Option Addr) (pc : Nat) (cells : List Value) (J : Mem), i ≤ kn0 ∧ iv' = .int .i64 (i : Nat) ∧ lv = .slice pa (pairsL M a b (ks.take i)).length pc ∧ Hid (Mem.le I J) ∧
    Sat W wr (sep (osl 84 2 pa (pairsL M a b (ks.take i)).length pc cells) (sep ((rPair.rows 2).is cells (pairsL M a b (ks.take i))) (sep (osl 3 1 ka kn0 kc (ks.map iv)) (sep (bmap b1 f nk) (sep (vokA f M) (sep (kn J) (sep (blk p (.cells (amC b1 b2) 92 (0, 0))) (sep (gmap bkv b2 (hmF M) n2) (sep (blk (x + 1 + 1) (.cells #[.slice none 0 0, .slice none 0 0, .slice none 0 0] 40 (0, 0))) (sep (blk (x + 1) (.cells #[.int .i64 a] 3 (0, 0))) (sep (blk x (.cells #[.pointer (some ⟨p, 0, none⟩)] 25 (0, 0))) A)))))))))))) (fun _ iv' _ => kn0 - (intOf iv').toNat)
  case atStart =>
    refine ⟨0, none, 0, [], I, by omega, rfl, rfl, Lib.hid (Mem.le_refl _), ?_⟩
    exact (rows_nil rPair 2 (H7.out.osl_nil 84 2)).p1 |> fun h => by simpa only [List.take_zero, pairsL, List.filter_nil, List.map_nil, List.length_nil, sep_comm, sep_lcomm, sep_assoc] using h
  case round =>
    obtain ⟨i, pa, pc, cells, J, hi, rfl, rfl, hIJ, hS⟩ := hrel
    clear H7
    obtain ⟨pl, hpl⟩ : ∃ pl, pl = (pairsL M a b (ks.take i)).length := ⟨_, rfl⟩
    have hpli : pl ≤ i := by
      rw [hpl]
      have := pairsL_len M a b (ks.take i)
      rw [List.length_take] at this
      omega
    have HPL := Lib.hid hpl
    rw [← hpl] at hS ⊢
    clear hpl
    by_cases hin : i < kn0
    · as_aux_lemma =>
      /-DEV1-/
      have hiL : i < ks.length := by rw [← HK.out.2.1]; exact hin
      obtain ⟨k, hk⟩ : ∃ k, k = ks[i] := ⟨_, rfl⟩
      obtain ⟨g, rfl, hcc⟩ := hS.p2.osl_at (fun e => by have := congrArg List.length e; simp at this; rw [this] at hiL; simp at hiL)
      have hc := hcc i (iv k) (by rw [List.getElem?_map, List.getElem?_eq_getElem hiL, hk]; rfl)
      unfold iv at hc
      have c3 : wr.cell? ⟨x + 1, 0, none⟩ = some (.int .i64 a) := hS.p9.cell 0
      have c1 : wr.cell? ⟨x, 0, none⟩ = some (.pointer (some ⟨p, 0, none⟩)) := hS.p10.cell 0
      have c2 : wr.cell? ⟨p, 0, none⟩ = some (.map (some b1)) := hS.p6.cell 0
      have hmk : (M k).isSome = true := (HK.out.1.2 k).1 (by rw [hk]; exact List.getElem_mem hiL)
      have htake : ks.take (i + 1) = ks.take i ++ [k] := by rw [List.take_succ_eq_append_getElem hiL, ← hk]
      have HTK := Lib.hid (And.intro htake hmk)
      have hinI : (i : Int) < (kn0 : Int) := by omega
      have hiw : i ≤ 4096 := by omega
      clear hcc hk hmk htake hin
      by_cases hr : inR a b k = true
      · have hr1 : decide (a ≤ k) = true := by unfold inR at hr; rw [Bool.and_eq_true] at hr; exact hr.1
        have hr2 : decide (k ≤ b) = true := by unfold inR at hr; rw [Bool.and_eq_true] at hr; exact hr.2
        have hlk := run_lookup_bmap (P := Tryd.prog) (T := 89) Tryd.underlying89 Tryd.underlying3 zeroBs hS.p3 k false
        have hvk := hS.p4.pers_heap
        obtain ⟨v, hv⟩ := Option.isSome_iff_exists.1 HTK.out.2
        obtain ⟨h1, va, vc, e1, hrl⟩ := hvk.2 k v hv
        rw [e1] at hlk
        have hlk2 : (Instr.lookup 89 (.map (some b1)) (.int .i64 k) false).run Tryd.prog wr = .ok (.slice va v.length vc) wr := hlk
        obtain ⟨hr1', hr2', hr3⟩ := rel_src' hrl
        have hcl := clone_any va v.length vc (v.map bv) hS (hr3 wr (fun b o ho => ho)) (by simp) hr2' (bv_one v) (by omega)
        obtain ⟨vl, hvl⟩ : ∃ vl, vl = v.length := ⟨_, rfl⟩
        rw [← hvl] at hcl hlk2 h1
        have HCL := Lib.hid hcl
        have HV := Lib.hid (And.intro hv (And.intro hvl (And.intro h1 hr)))
        clear hlk hvk hrl hr1' hr2' hr3 hcl e1 hS hv hvl h1 hr
        go_wp2_with fail
        refine HCL.out.mono ?_
        rintro e w6 ⟨a', c', rfl, h8⟩
        clear HCL hlk2 c1 c2 c3 hc
        obtain ⟨J2, hJ2, hrv, h9⟩ := osl_learnQ (show Sat W w6 (sep (osl 5 1 a' vl c' (v.map bv)) (sep (kn J) (sep (osl 84 2 pa pl pc cells) (sep ((rPair.rows 2).is cells (pairsL M a b (ks.take i))) (sep (osl 3 1 (some ⟨g, 0, none⟩) kn0 kc (ks.map iv)) (sep (bmap b1 f nk) (sep (vokA f M) (sep (blk p (.cells (amC b1 b2) 92 (0, 0))) (sep (gmap bkv b2 (hmF M) n2) (sep (blk (x + 1 + 1) (.cells #[.slice none 0 0, .slice none 0 0, .slice none 0 0] 40 (0, 0))) (sep (blk (x + 1) (.cells #[.int .i64 a] 3 (0, 0))) (sep (blk x (.cells #[.pointer (some ⟨p, 0, none⟩)] 25 (0, 0))) A))))))))))))
          by simpa only [sep_comm, sep_lcomm, sep_assoc] using h8) HV.out.2.1
        have h10 := (h9.alloc (.cells #[.int .i64 k, .slice a' vl c'] 84))
        have hsrc : Src (w6.alloc (.cells #[.int .i64 k, .slice a' vl c'] 84)) (some ⟨w6.heap.size, 0, none⟩) [.int .i64 k, .slice a' vl c'] := (h10.osl_mk 1 1 2 [.int .i64 k, .slice a' vl c'] rfl (Nat.le_refl _) (by unfold maxLen; omega) rfl rfl).osl_Src
        have h11 : Sat W (w6.alloc (.cells #[.int .i64 k, .slice a' vl c'] 84)) (sep (osl 84 2 pa pl pc cells) (sep ((rPair.rows 2).is cells (pairsL M a b (ks.take i))) (sep (kn J2) (sep (osl 3 1 (some ⟨g, 0, none⟩) kn0 kc (ks.map iv)) (sep (bmap b1 f nk) (sep (vokA f M) (sep (blk p (.cells (amC b1 b2) 92 (0, 0))) (sep (gmap bkv b2 (hmF M) n2) (sep (blk (x + 1 + 1) (.cells #[.slice none 0 0, .slice none 0 0, .slice none 0 0] 40 (0, 0))) (sep (blk (x + 1) (.cells #[.int .i64 a] 3 (0, 0))) (sep (blk x (.cells #[.pointer (some ⟨p, 0, none⟩)] 25 (0, 0))) A))))))))))) := by
          have := h10.drop
          simpa only [sep_comm, sep_lcomm, sep_assoc] using this
        have HSRC := Lib.hid hsrc
        have HR := Lib.hid (And.intro hJ2 hrv)
        have H11 := Lib.hid h11
        clear h8 h9 h10 h11 hsrc hJ2 hrv
        go_wp2_with (at_builtin; refine wpl_append_osl rfl (.tmp 40) (.tmp 50) 37 rfl 84 2 32 (.agg #[.int .i64 0, .slice none 0 0]) Tryd.underlying37 infoPair rfl rfl H11.out rfl [.int .i64 k, .slice a' vl c'] rfl (fun e => by cases e) HSRC.out (by intro u hu; simp at hu; rcases hu with rfl | rfl <;> rfl) (by omega) (by unfold maxLen; omega) ?_)
        intro a5 c5 w7 h12
        have h13 := rowsk_snoc (show Sat W w7 (sep ((rPair.rows 2).is cells (pairsL M a b (ks.take i))) (sep (kn J2) (sep (osl 84 2 a5 (pl + 1) c5 (cells ++ [.int .i64 k, .slice a' vl c'])) (sep (osl 3 1 (some ⟨g, 0, none⟩) kn0 kc (ks.map iv)) (sep (bmap b1 f nk) (sep (vokA f M) (sep (blk p (.cells (amC b1 b2) 92 (0, 0))) (sep (gmap bkv b2 (hmF M) n2) (sep (blk (x + 1 + 1) (.cells #[.slice none 0 0, .slice none 0 0, .slice none 0 0] 40 (0, 0))) (sep (blk (x + 1) (.cells #[.int .i64 a] 3 (0, 0))) (sep (blk x (.cells #[.pointer (some ⟨p, 0, none⟩)] 25 (0, 0))) A))))))))))) by have := h12; simpa only [sep_comm, sep_lcomm, sep_assoc] using this) (show rPair.rel J2 [.int .i64 k, .slice a' vl c'] (k, v) from ⟨a', c', by dsimp only; rw [← HV.out.2.1], by dsimp only; rw [← HV.out.2.1]; exact HR.out.2⟩) rfl
        have hpe : pairsL M a b (ks.take (i + 1)) = pairsL M a b (ks.take i) ++ [(k, v)] := by rw [HTK.out.1, pairsL_snoc, if_pos HV.out.2.2.2, HV.out.1]; rfl
        have hle : pl + 1 = (pairsL M a b (ks.take (i + 1))).length := by rw [hpe, List.length_append, ← HPL.out]; rfl
        have H13 := Lib.hid h13
        have HPE := Lib.hid (And.intro hpe hle)
        clear h12 h13 H11 HSRC hpe hle
        go_wp2_with fail
        go_roundw
        case rel =>
          refine ⟨i + 1, a5, c5, cells ++ [.int .i64 k, .slice a' vl c'], J2, by omega, rfl, ?_, Lib.hid (Mem.le_trans hIJ.out HR.out.1), ?_⟩
          · rw [← HPE.out.2]
          · rw [← HPE.out.2, HPE.out.1]
            have := H13.out
            simpa only [sep_comm, sep_lcomm, sep_assoc] using this
        case measure => simp only [intOf]; omega
      · have hr0 : (decide (a ≤ k) && decide (k ≤ b)) = false := by
          have : inR a b k = false := by simpa using hr
          exact this
        have hpe : pairsL M a b (ks.take (i + 1)) = pairsL M a b (ks.take i) := by rw [HTK.out.1, pairsL_snoc, if_neg hr]
        have HPE := Lib.hid hpe
        have HS := Lib.hid hS
        clear hr hpe hS
        cases hd1 : decide (a ≤ k) with
        | false =>
          clear hr0
          go_wp2_with fail
          go_roundw
          case rel =>
            refine ⟨i + 1, pa, pc, cells, J, by omega, rfl, ?_, hIJ, ?_⟩
            · rw [HPE.out, ← HPL.out]
            · rw [HPE.out, ← HPL.out]; exact HS.out
          case measure => simp only [intOf]; omega
        | true =>
          have hd2 : decide (k ≤ b) = false := by rw [hd1] at hr0; simpa using hr0
          clear hr0
          go_wp2_with fail
          go_roundw
          case rel =>
            refine ⟨i + 1, pa, pc, cells, J, by omega, rfl, ?_, hIJ, ?_⟩
            · rw [HPE.out, ← HPL.out]
            · rw [HPE.out, ← HPL.out]; exact HS.out
          case measure => simp only [intOf]; omega
      /-VED1-/
    · obtain rfl : i = kn0 := by omega
      have htk : ks.take i = ks := by rw [HK.out.2.1]; exact List.take_length
      rw [htk] at hS HPL
      obtain ⟨P, hP⟩ : ∃ P, P = pairsL M a b ks := ⟨_, rfl⟩
      rw [← hP] at hS HPL
      have h7 : Sat W wr (sep (blk (x + 1) (.cells #[.int .i64 a] 3 (0, 0))) (sep (blk x (.cells #[.pointer (some ⟨p, 0, none⟩)] 25 (0, 0))) (sep (blk (x + 1 + 1) (.cells #[.slice none 0 0, .slice none 0 0, .slice none 0 0] 40 (0, 0))) (sep (osl 84 2 pa pl pc cells) (sep ((rPair.rows 2).is cells P) (sep (bmap b1 f nk) (sep (vokA f M) (sep (kn J) (sep (blk p (.cells (amC b1 b2) 92 (0, 0))) (sep (gmap bkv b2 (hmF M) n2) A)))))))))) := by
        have := (show Sat W wr (sep (osl 3 1 ka i kc (ks.map iv)) _) from hS.p2).forget_osl
        simpa only [sep_comm, sep_lcomm, sep_assoc] using this
      have c3 : wr.cell? ⟨x + 1, 0, none⟩ = some (.int .i64 a) := h7.cell 0
      have h8 := h7.alloc (.cells #[.slice none 0 0, .slice none 0 0, .slice none 0 0] 40)
      obtain ⟨q, hq⟩ : ∃ q, q = wr.heap.size := ⟨_, rfl⟩
      obtain ⟨w8, hw8⟩ : ∃ w8, w8 = wr.alloc (.cells #[.slice none 0 0, .slice none 0 0, .slice none 0 0] 40) := ⟨_, rfl⟩
      rw [← hw8, ← hq] at h8
      have HQ8 := Lib.hid (And.intro hq hw8)
      have HP := Lib.hid hP
      have hout := outside_spec a b h8
      have c4 : w8.cell? ⟨x + 1, 0, none⟩ = some (.int .i64 a) := h8.p1.cell 0
      have HOUT := Lib.hid hout
      clear hS h7 h8 hq hw8 hP htk hin hout
      go_upto_region 11 with (fail)
      rw [← HQ8.out.1, ← HQ8.out.2]
      go_wp2_with fail
      refine HOUT.out.mono ?_
      rintro e w9 ⟨ba, bb, rfl, h9⟩
      clear HOUT c3 c4
      obtain ⟨RS, hRS⟩ : ∃ RS, RS = sep (blk (x + 1) (.cells #[.int .i64 a] 3 (0, 0))) (sep (blk x (.cells #[.pointer (some ⟨p, 0, none⟩)] 25 (0, 0))) (sep (blk (x + 1 + 1) (.cells #[.slice none 0 0, .slice none 0 0, .slice none 0 0] 40 (0, 0))) (sep (osl 84 2 pa pl pc cells) (sep ((rPair.rows 2).is cells P) (sep (bmap b1 f nk) (sep (vokA f M) (sep (kn J) (sep (blk p (.cells (amC b1 b2) 92 (0, 0))) (sep (gmap bkv b2 (hmF M) n2) A))))))))) := ⟨_, rfl⟩
      rw [← hRS] at h9
      have h10 : Sat W w9 (sep (sep (prfA q (leftL M a []) (rightL M a []) (shapeL M [])) RS) (sep (blk ba (.cells #[.int .i64 a] 3 (0, 0))) (sep (blk bb (.cells #[.int .i64 b] 3 (0, 0))) emp))) := by
        have e0 := ((h9.osl_nil 43 1).osl_nil 43 1).osl_nil 5 1
        have e1 : Sat W w9 (sep (prfA q [] [] []) (sep RS (sep (blk ba (.cells #[.int .i64 a] 3 (0, 0))) (blk bb (.cells #[.int .i64 b] 3 (0, 0)))))) := by
          refine prfA_mk (la := none) (ra := none) (sa := none) (lc := 0) (rc := 0) (sc := 0) (nl := 0) (nr := 0) (ns := 0) rfl rfl rfl ?_
          simpa only [List.map_nil, sep_comm, sep_lcomm, sep_assoc] using e0
        rw [sep_emp]
        have e2 : Sat W w9 (sep (sep (prfA q [] [] []) RS) (sep (blk ba (.cells #[.int .i64 a] 3 (0, 0))) (blk bb (.cells #[.int .i64 b] 3 (0, 0))))) := by rw [sep_assoc]; exact e1
        exact e2
      have hrf : ∀ (w' : World) (X : Assn), Sat W w' (sep RS X) → w'.cell? ⟨x + 1, 0, none⟩ = some (.int .i64 a) ∧ w'.cell? ⟨x, 0, none⟩ = some (.pointer (some ⟨p, 0, none⟩)) ∧ w'.cell? ⟨p, 1, none⟩ = some (.map (some b2)) ∧
          ∀ (y : Nat × Int), (Instr.lookup 90 (.map (some b2)) (bkv y) true).run Tryd.prog w' = .ok (.tuple #[(hmF M y).getD (.int .u64 0), .bool (hmF M y).isSome]) w' := by
        intro w' X hX
        rw [hRS] at hX
        simp only [sep_assoc] at hX
        exact ⟨hX.cell 0, hX.p1.cell 0, hX.p8.cell 1, fun y => run_lookup_gmap (P := Tryd.prog) (T := 90) Tryd.underlying90 blk_key zeroU64 hX.p9 y true⟩
      have HRF := Lib.hid hrf
      clear hrf
      have HRS := Lib.hid hRS
      clear h9 hRS
      have eg := enters_of (P := Tryd.prog) Tryd.func86 (by kernel_rfl) rfl
      go_wp2_with fail
      refine (wpIn_wide (n := 5)).1 ?_
      refine wpIn_range3 (F := Fence.wide) (W := W) rfl (by omega) (gf := 86) (lb := #[.pointer (some ⟨ba, 0, none⟩), .pointer (some ⟨bb, 0, none⟩)]) rfl trivial eg (encs := encB) (fun _ => rfl) (outside1_gives (A := emp) HW.out.2.2 (5 - 1) a b ba bb)
        (fun xs => sep (prfA q (leftL M a xs) (rightL M a xs) (shapeL M xs)) RS) h10
        (fun y g t => (t.setIfInBounds 56 (bkv y)).setIfInBounds 13 (.pointer (some ⟨g, 0, none⟩)))
        (fun pre y g => sep (fact (inT y.1 y.2)) (sep (blk g (.cells #[.int .i64 (y.1 : Nat), .int .i64 y.2] 106 (0, 0))) (sep (prfA q (leftL M a pre) (rightL M a pre) (shapeL M pre)) RS))) ?assign ?body ?done
      case assign =>
       as_aux_lemma =>
        /-DEV2-/
        intro lp pre y w' B K hlen hS hK
        obtain ⟨l, n⟩ := y
        simp only [List.setIfInBounds_toArray, List.set_cons_zero, List.set_cons_succ] at hK
        have h1 : Sat W w' (sep (fact (inT l n)) (sep (sep (prfA q (leftL M a pre) (rightL M a pre) (shapeL M pre)) RS) B)) := by
          unfold noB at hS
          simpa only [sep_comm, sep_lcomm, sep_assoc] using hS
        obtain ⟨hT, h2⟩ := Sat.fact.1 h1
        have h3 := h2.alloc (.cells #[.int .i64 (l : Nat), .int .i64 n] 106)
        have h4 : Sat W (w'.alloc (.cells #[.int .i64 (l : Nat), .int .i64 n] 106)) (sep (sep (fact (inT l n)) (sep (blk w'.heap.size (.cells #[.int .i64 (l : Nat), .int .i64 n] 106 (0, 0))) (sep (prfA q (leftL M a pre) (rightL M a pre) (shapeL M pre)) RS))) B) := by
          rw [sep_assoc]
          exact Sat.fact.2 ⟨hT, by simpa only [sep_comm, sep_lcomm, sep_assoc] using h3⟩
        have h5 := hK _ _ h4
        have H5 := Lib.hid h5
        clear hK hS h1 h2 h3 h4 h5 h10 HRS HRF
        dsimp only [encB, bkv] at *
        gi_wp2_with fail
        exact H5.out
        /-VED2-/
      case body =>
       as_aux_lemma =>
        /-DEV3-/
        intro lp pre y g w' B hlen hS
        obtain ⟨l, n⟩ := y
        simp only [List.setIfInBounds_toArray, List.set_cons_zero, List.set_cons_succ]
        rw [sep_assoc] at hS
        obtain ⟨hT, hS⟩ := Sat.fact.1 hS
        have hl12 := hT.1
        obtain ⟨o, ho⟩ : ∃ o, o = hbN M l n := ⟨_, rfl⟩
        obtain ⟨hh, hhh⟩ : ∃ hh : Nat, hh = o.getD 0 := ⟨_, rfl⟩
        obtain ⟨sm, hsm⟩ : ∃ sm, sm = o.isSome := ⟨_, rfl⟩
        obtain ⟨L1, hL1⟩ : ∃ L1, L1 = leftL M a pre := ⟨_, rfl⟩
        obtain ⟨R1, hR1⟩ : ∃ R1, R1 = rightL M a pre := ⟨_, rfl⟩
        obtain ⟨S1, hS1⟩ : ∃ S1, S1 = shapeL M pre := ⟨_, rfl⟩
        rw [← hL1, ← hR1, ← hS1] at hS
        have hl1 : L1.length ≤ 4096 := by rw [hL1]; have := leftL_len M a pre; omega
        have hr1 : R1.length ≤ 4096 := by rw [hR1]; have := rightL_len M a pre; omega
        have hs1 : S1.length ≤ 4096 := by rw [hS1, shapeL, List.length_map]; omega
        obtain ⟨⟨la, lc⟩, ⟨ra, rc⟩, ⟨sa, sc⟩, h1⟩ := prfA_open (show Sat W w' (sep (prfA q L1 R1 S1) (sep RS (sep (blk g (.cells #[.int .i64 (l : Nat), .int .i64 n] 106 (0, 0))) B))) by simpa only [sep_comm, sep_lcomm, sep_assoc] using hS)
        dsimp only at h1
        obtain ⟨nl, hnl⟩ : ∃ nl, nl = L1.length := ⟨_, rfl⟩
        obtain ⟨nr, hnr⟩ : ∃ nr, nr = R1.length := ⟨_, rfl⟩
        obtain ⟨ns, hns⟩ : ∃ ns, ns = S1.length := ⟨_, rfl⟩
        rw [← hnl, ← hnr, ← hns] at h1
        rw [← hnl] at hl1
        rw [← hnr] at hr1
        rw [← hns] at hs1
        have h2 : Sat W w' (sep RS (sep (blk g (.cells #[.int .i64 (l : Nat), .int .i64 n] 106 (0, 0))) (sep (blk q (.cells #[.slice la nl lc, .slice ra nr rc, .slice sa ns sc] 40 (0, 0))) (sep (osl 43 1 la nl lc (L1.map uv)) (sep (osl 43 1 ra nr rc (R1.map uv)) (sep (osl 5 1 sa ns sc (S1.map bv)) B)))))) := by
          simpa only [sep_comm, sep_lcomm, sep_assoc] using h1
        have h3 := h2.drew
        obtain ⟨wd, hwd⟩ : ∃ wd, wd = w'.drew := ⟨_, rfl⟩
        rw [← hwd] at h3
        obtain ⟨-, d2, d3, d4⟩ := HRF.out wd _ h3
        have d0 : wd.cell? ⟨g, 0, none⟩ = some (.int .i64 (l : Nat)) := h3.p1.cell 0
        have d1 : wd.cell? ⟨g, 1, none⟩ = some (.int .i64 n) := h3.p1.cell 1
        have hlk : (Instr.lookup 90 (.map (some b2)) (.agg #[.int .i64 (l : Nat), .int .i64 n]) true).run Tryd.prog wd = .ok (.tuple #[.int .u64 (hh : Int), .bool sm]) wd := by
          have hlk0 := d4 (l, n)
          have e0 : hmF M (l, n) = o.map hv := by rw [hmF, if_pos hl12, ho]
          have e : (Value.tuple #[(hmF M (l, n)).getD (.int .u64 0), .bool (hmF M (l, n)).isSome]) = .tuple #[.int .u64 (hh : Int), .bool sm] := by
            rw [e0, hhh, hsm]; cases o <;> rfl
          rw [e] at hlk0
          exact hlk0
        have HH := Lib.hid (And.intro ho (And.intro hhh (And.intro hsm (And.intro hL1 (And.intro hR1 (And.intro hS1 (And.intro hnl (And.intro hnr (And.intro hns hT)))))))))
        have H3 := Lib.hid h3
        clear d4 h1 h2 h3 hS hhh hsm hL1 hR1 hS1 hnl hnr hns hT h10 hl12
        gi_wp2_with fail
        refine wp_region_round rfl (fun _ => True) [(0, .t), (1, .p), (2, .p), (3, .t), (4, .t), (5, .t), (6, .p), (7, .p), (8, .p), (9, .p), (10, .p)] (by kernel_rfl) ?_ ?_
        · exact fun ⟨_, _, h⟩ => h
        rw [← hwd]
        clear hwd
        have hS0 : True := trivial
        (repeat ((first | (refine C_p (v := ?_) rfl rfl (fun w' => ?_) ?_; rotate_left; (go_simp; with_reducible rfl)) | (refine C_s (v := ?_) rfl rfl hS0 (fun w' hS => ?_) ?_; rotate_left; ((try dsimp only at hS); go_simp; with_reducible rfl)) | (refine C_t (v := ?_) rfl rfl ?_ ?_; rotate_left; (go_simp; with_reducible rfl)) | (refine C_po rfl rfl ?_) | (refine C_so rfl rfl hS0 ?_) | (refine C_to rfl rfl ?_)); simp only [Act.put, List.setIfInBounds_toArray, List.set_cons_zero, List.set_cons_succ]))
        refine C_nil ?_
        clear d0 d1 d2 d3 hlk
        cases sm with
        | false =>
          have h4 := H3.out.alloc (.cells #[.int .u8 0] 5)
          have h5 : Sat W (wd.alloc (.cells #[.int .u8 0] 5)) (sep (osl 5 1 sa ns sc (S1.map bv)) (sep RS (sep (blk g (.cells #[.int .i64 (l : Nat), .int .i64 n] 106 (0, 0))) (sep (blk q (.cells #[.slice la nl lc, .slice ra nr rc, .slice sa ns sc] 40 (0, 0))) (sep (osl 43 1 la nl lc (L1.map uv)) (sep (osl 43 1 ra nr rc (R1.map uv)) B)))))) := by
            have := h4.drop
            simpa only [sep_comm, sep_lcomm, sep_assoc] using this
          have c2 : wd.cell? ⟨q, 2, none⟩ = some (.slice sa ns sc) := H3.out.p2.cell 2
          have H5 := Lib.hid h5
          clear h4 h5
          gi_wp2_with (gi_at_builtin; refine wpli_append_osl rfl (.tmp 69) (.tmp 70) 32 rfl 5 1 1 (.int .u8 0) Tryd.underlying32 infoU8c rfl rfl H5.out rfl [.int .u8 0] rfl (by simp) (by intro b hb; cases hb; exact new_src _ [_] _) (by simp [Value.oneCell']) (by omega) (by unfold maxLen; omega) ?_)
          intro sa2 sc2 w2 h6
          have f2 : w2.frozen? ⟨q, 2, none⟩ = false := h6.p3.unfrozen 2
          have c2' : w2.cell? ⟨q, 2, none⟩ = some (.slice sa ns sc) := h6.p3.cell 2
          have h7 : Sat W (w2.setCell ⟨q, 2, none⟩ (.slice sa2 (ns + 1) sc2)) (sep (blk q (.cells #[.slice la nl lc, .slice ra nr rc, .slice sa2 (ns + 1) sc2] 40 (0, 0))) (sep (osl 5 1 sa2 (ns + 1) sc2 (S1.map bv ++ [.int .u8 0])) (sep RS (sep (blk g (.cells #[.int .i64 (l : Nat), .int .i64 n] 106 (0, 0))) (sep (osl 43 1 la nl lc (L1.map uv)) (sep (osl 43 1 ra nr rc (R1.map uv)) B)))))) := h6.p3.setCell 2 _
          have H7 := Lib.hid h7
          clear h6 h7 c2 H5
          gi_wp2_with fail
          show Sat W _ _
          have eo : o = none := by
            have h2 := HH.out.2.2.1
            cases o with
            | none => rfl
            | some z => cases h2
          have e1 : shapeL M (pre ++ [(l, n)]) = S1 ++ [0] := by rw [shapeL_snoc, ← HH.out.2.2.2.2.2.1, someB, ← HH.out.1, eo]; rfl
          have e2 : leftL M a (pre ++ [(l, n)]) = L1 := by rw [leftL_no pre (by rw [leftF, ← HH.out.1, eo, ite_self]), ← HH.out.2.2.2.1]
          have e3 : rightL M a (pre ++ [(l, n)]) = R1 := by rw [rightL_no pre (by rw [rightF, ← HH.out.1, eo, ite_self]), ← HH.out.2.2.2.2.1]
          rw [e1, e2, e3, sep_assoc]
          refine prfA_mk HH.out.2.2.2.2.2.2.1 HH.out.2.2.2.2.2.2.2.1 (by rw [List.length_append, ← HH.out.2.2.2.2.2.2.2.2.1, List.length_singleton]) (nl := nl) (nr := nr) (ns := ns + 1) (la := la) (ra := ra) (sa := sa2) (lc := lc) (rc := rc) (sc := sc2) ?_
          have hb := (show Sat W _ (sep (blk g (.cells #[.int .i64 (l : Nat), .int .i64 n] 106 (0, 0))) (sep (blk q (.cells #[.slice la nl lc, .slice ra nr rc, .slice sa2 (ns + 1) sc2] 40 (0, 0))) (sep (osl 5 1 sa2 (ns + 1) sc2 (S1.map bv ++ [.int .u8 0])) (sep RS (sep (osl 43 1 la nl lc (L1.map uv)) (sep (osl 43 1 ra nr rc (R1.map uv)) B)))))) by
            have := H7.out
            simpa only [sep_comm, sep_lcomm, sep_assoc] using this).drop
          rw [show List.map bv (S1 ++ [(0 : UInt8)]) = List.map bv S1 ++ [Value.int .u8 0] by rw [List.map_append]; rfl]
          simpa only [sep_comm, sep_lcomm, sep_assoc] using hb
        | true =>
          have h4 := H3.out.alloc (.cells #[.int .u8 1] 5)
          have h5 : Sat W (wd.alloc (.cells #[.int .u8 1] 5)) (sep (osl 5 1 sa ns sc (S1.map bv)) (sep RS (sep (blk g (.cells #[.int .i64 (l : Nat), .int .i64 n] 106 (0, 0))) (sep (blk q (.cells #[.slice la nl lc, .slice ra nr rc, .slice sa ns sc] 40 (0, 0))) (sep (osl 43 1 la nl lc (L1.map uv)) (sep (osl 43 1 ra nr rc (R1.map uv)) B)))))) := by
            have := h4.drop
            simpa only [sep_comm, sep_lcomm, sep_assoc] using this
          have c2 : wd.cell? ⟨q, 2, none⟩ = some (.slice sa ns sc) := H3.out.p2.cell 2
          have H5 := Lib.hid h5
          clear h4 h5
          gi_wp2_with (gi_at_builtin; refine wpli_append_osl rfl (.tmp 74) (.tmp 75) 32 rfl 5 1 1 (.int .u8 0) Tryd.underlying32 infoU8c rfl rfl H5.out rfl [.int .u8 1] rfl (by simp) (by intro b hb; cases hb; exact new_src _ [_] _) (by simp [Value.oneCell']) (by omega) (by unfold maxLen; omega) ?_)
          intro sa2 sc2 w2 h6
          have f2 : w2.frozen? ⟨q, 2, none⟩ = false := h6.p3.unfrozen 2
          have c2' : w2.cell? ⟨q, 2, none⟩ = some (.slice sa ns sc) := h6.p3.cell 2
          have h7 : Sat W (w2.setCell ⟨q, 2, none⟩ (.slice sa2 (ns + 1) sc2)) (sep (blk q (.cells #[.slice la nl lc, .slice ra nr rc, .slice sa2 (ns + 1) sc2] 40 (0, 0))) (sep (osl 5 1 sa2 (ns + 1) sc2 (S1.map bv ++ [.int .u8 1])) (sep RS (sep (blk g (.cells #[.int .i64 (l : Nat), .int .i64 n] 106 (0, 0))) (sep (osl 43 1 la nl lc (L1.map uv)) (sep (osl 43 1 ra nr rc (R1.map uv)) B)))))) := h6.p3.setCell 2 _
          have H7 := Lib.hid h7
          clear h6 h7 c2 H5
          obtain ⟨w4, hw4⟩ : ∃ w4, w4 = w2.setCell ⟨q, 2, none⟩ (.slice sa2 (ns + 1) sc2) := ⟨_, rfl⟩
          have H7' := H7.out
          rw [← hw4] at H7'
          have h8 := H7'.drew
          have HW4 := Lib.hid hw4
          obtain ⟨wv, hwv⟩ : ∃ wv, wv = w4.drew := ⟨_, rfl⟩
          rw [← hwv] at h8
          clear H7' hw4 H7
          gi_wp2_with fail
          rw [← HW4.out]
          refine wp_region_round rfl (fun w' => w'.cell? ⟨x + 1, 0, none⟩ = some (.int .i64 a)) [(0, .t), (2, .s), (1, .e true), (3, .p)] (by kernel_rfl) ?_ ?_
          · exact fun ⟨_, _, h⟩ => h
          rw [← hwv]
          clear hwv f2 c2'
          have d0 : wv.cell? ⟨g, 0, none⟩ = some (.int .i64 (l : Nat)) := h8.p3.cell 0
          have d1 : wv.cell? ⟨g, 1, none⟩ = some (.int .i64 n) := h8.p3.cell 1
          have hS0 : wv.cell? ⟨x + 1, 0, none⟩ = some (.int .i64 a) := (HRF.out wv _ h8.p2).1
          have hla := alast_spec l n HH.out.2.2.2.2.2.2.2.2.2 h8
          obtain ⟨bl, hbl⟩ : ∃ bl, bl = bLast (l, n) := ⟨_, rfl⟩
          rw [← hbl] at hla
          have HLA := Lib.hid hla
          have HBLe := Lib.hid hbl
          clear h8 hla hbl
          (repeat ((first | (refine C_p (v := ?_) rfl rfl (fun w' => ?_) ?_; rotate_left; (go_simp; with_reducible rfl)) | (refine C_s (v := ?_) rfl rfl hS0 (fun w' hS => ?_) ?_; rotate_left; ((try dsimp only at hS); go_simp; with_reducible rfl)) | (refine C_t (v := ?_) rfl rfl ?_ ?_; rotate_left; (go_simp; with_reducible rfl)) | (refine C_po rfl rfl ?_) | (refine C_so rfl rfl hS0 ?_) | (refine C_to rfl rfl ?_)); simp only [Act.put, List.setIfInBounds_toArray, List.set_cons_zero, List.set_cons_succ]))
          (refine C_e rfl rfl (fun K hK => ?_); go_simp)
          refine HLA.out.mono ?_
          rintro e wx ⟨rfl, hx⟩
          have H8 := Lib.hid hx
          clear HLA d0 d1 hS0
          have hS1 : wx.cell? ⟨x + 1, 0, none⟩ = some (.int .i64 a) := (HRF.out wx _ hx.p2).1
          clear hx
          (refine hK _ _ (fun _ => hS1) ?_; clear hK K; (try simp only [Act.put, List.setIfInBounds_toArray, List.set_cons_zero, List.set_cons_succ]))
          clear hS1
          by_cases hba : bl < a
          · have HBL : Hid (bLast (l, n) < a) := Lib.hid (by rw [← HBLe.out]; exact hba)
            have hbaB : decide (bl < a) = true := decide_eq_true hba
            clear hba
            (repeat ((first | (refine C_p (v := ?_) rfl rfl (fun w' => ?_) ?_; rotate_left; (go_simp; with_reducible rfl)) | (refine C_s (v := ?_) rfl rfl hS0 (fun w' hS => ?_) ?_; rotate_left; ((try dsimp only at hS); go_simp; with_reducible rfl)) | (refine C_t (v := ?_) rfl rfl ?_ ?_; rotate_left; (go_simp; with_reducible rfl)) | (refine C_po rfl rfl ?_) | (refine C_so rfl rfl hS0 ?_) | (refine C_to rfl rfl ?_)); simp only [Act.put, List.setIfInBounds_toArray, List.set_cons_zero, List.set_cons_succ]))
            refine C_nil ?_
            have h8 := H8.out.alloc (.cells #[.int .u64 (hh : Nat)] 43)
            have h9 : Sat W (wx.alloc (.cells #[.int .u64 (hh : Nat)] 43)) (sep (osl 43 1 la nl lc (L1.map uv)) (sep RS (sep (blk g (.cells #[.int .i64 (l : Nat), .int .i64 n] 106 (0, 0))) (sep (blk q (.cells #[.slice la nl lc, .slice ra nr rc, .slice sa2 (ns + 1) sc2] 40 (0, 0))) (sep (osl 5 1 sa2 (ns + 1) sc2 (S1.map bv ++ [.int .u8 1])) (sep (osl 43 1 ra nr rc (R1.map uv)) B)))))) := by
              have := h8.drop
              simpa only [sep_comm, sep_lcomm, sep_assoc] using this
            have c0 : wx.cell? ⟨q, 0, none⟩ = some (.slice la nl lc) := H8.out.cell 0
            have H9 := Lib.hid h9
            clear h8 h9
            gi_wp2_with (gi_at_builtin; refine wpli_append_osl rfl (.tmp 83) (.tmp 85) 38 rfl 43 1 8 (.int .u64 0) Tryd.underlying38 infoU64q rfl rfl H9.out rfl [.int .u64 (hh : Nat)] rfl (by simp) (by intro b hb; cases hb; exact new_src _ [_] _) (by simp [Value.oneCell']) (by omega) (by unfold maxLen; omega) ?_)
            intro la2 lc2 w3 ha
            have f0 : w3.frozen? ⟨q, 0, none⟩ = false := ha.p3.unfrozen 0
            have c0' : w3.cell? ⟨q, 0, none⟩ = some (.slice la nl lc) := ha.p3.cell 0
            have hb := ha.p3.setCell 0 (.slice la2 (nl + 1) lc2)
            have HB := Lib.hid hb
            clear ha hb c0 H9
            gi_wp2_with fail
            show Sat W _ _
            have e1 : shapeL M (pre ++ [(l, n)]) = S1 ++ [1] := by rw [shapeL_snoc, ← HH.out.2.2.2.2.2.1, someB, ← HH.out.1, ← HH.out.2.2.1]; rfl
            have eo : o = some hh := by
              have h1 := HH.out.2.1
              have h2 := HH.out.2.2.1
              cases o with
              | none => cases h2
              | some z => rw [h1]; rfl
            have e2 : leftL M a (pre ++ [(l, n)]) = L1 ++ [hh] := by rw [leftL_so pre (v := hh) (by rw [leftF, if_pos HBL.out, ← HH.out.1, eo]), ← HH.out.2.2.2.1]
            have e3 : rightL M a (pre ++ [(l, n)]) = R1 := by rw [rightL_no pre (by rw [rightF, if_pos HBL.out]), ← HH.out.2.2.2.2.1]
            rw [e1, e2, e3, sep_assoc]
            refine prfA_mk (by rw [List.length_append, ← HH.out.2.2.2.2.2.2.1, List.length_singleton]) HH.out.2.2.2.2.2.2.2.1 (by rw [List.length_append, ← HH.out.2.2.2.2.2.2.2.2.1, List.length_singleton]) (nl := nl + 1) (nr := nr) (ns := ns + 1) (la := la2) (ra := ra) (sa := sa2) (lc := lc2) (rc := rc) (sc := sc2) ?_
            have hb := (show Sat W _ (sep (blk g (.cells #[.int .i64 (l : Nat), .int .i64 n] 106 (0, 0))) (sep (blk q (.cells #[.slice la2 (nl + 1) lc2, .slice ra nr rc, .slice sa2 (ns + 1) sc2] 40 (0, 0))) (sep (osl 5 1 sa2 (ns + 1) sc2 (S1.map bv ++ [.int .u8 1])) (sep (osl 43 1 la2 (nl + 1) lc2 (L1.map uv ++ [.int .u64 (hh : Nat)])) (sep RS (sep (osl 43 1 ra nr rc (R1.map uv)) B)))))) by
              have := HB.out
              simpa only [sep_comm, sep_lcomm, sep_assoc, List.setIfInBounds_toArray, List.set_cons_zero, List.set_cons_succ] using this).drop
            rw [show List.map bv (S1 ++ [(1 : UInt8)]) = List.map bv S1 ++ [Value.int .u8 1] by rw [List.map_append]; rfl, show List.map uv (L1 ++ [hh]) = List.map uv L1 ++ [Value.int .u64 (hh : Nat)] by rw [List.map_append]; rfl]
            simpa only [sep_comm, sep_lcomm, sep_assoc] using hb
          · have HBL : Hid (¬ bLast (l, n) < a) := Lib.hid (by rw [← HBLe.out]; exact hba)
            have hbaB : decide (bl < a) = false := decide_eq_false hba
            clear hba
            (repeat ((first | (refine C_p (v := ?_) rfl rfl (fun w' => ?_) ?_; rotate_left; (go_simp; with_reducible rfl)) | (refine C_s (v := ?_) rfl rfl hS0 (fun w' hS => ?_) ?_; rotate_left; ((try dsimp only at hS); go_simp; with_reducible rfl)) | (refine C_t (v := ?_) rfl rfl ?_ ?_; rotate_left; (go_simp; with_reducible rfl)) | (refine C_po rfl rfl ?_) | (refine C_so rfl rfl hS0 ?_) | (refine C_to rfl rfl ?_)); simp only [Act.put, List.setIfInBounds_toArray, List.set_cons_zero, List.set_cons_succ]))
            refine C_nil ?_
            have h8 := H8.out.alloc (.cells #[.int .u64 (hh : Nat)] 43)
            have h9 : Sat W (wx.alloc (.cells #[.int .u64 (hh : Nat)] 43)) (sep (osl 43 1 ra nr rc (R1.map uv)) (sep RS (sep (blk g (.cells #[.int .i64 (l : Nat), .int .i64 n] 106 (0, 0))) (sep (blk q (.cells #[.slice la nl lc, .slice ra nr rc, .slice sa2 (ns + 1) sc2] 40 (0, 0))) (sep (osl 5 1 sa2 (ns + 1) sc2 (S1.map bv ++ [.int .u8 1])) (sep (osl 43 1 la nl lc (L1.map uv)) B)))))) := by
              have := h8.drop
              simpa only [sep_comm, sep_lcomm, sep_assoc] using this
            have c0 : wx.cell? ⟨q, 1, none⟩ = some (.slice ra nr rc) := H8.out.cell 1
            have H9 := Lib.hid h9
            clear h8 h9
            gi_wp2_with (gi_at_builtin; refine wpli_append_osl rfl (.tmp 89) (.tmp 91) 38 rfl 43 1 8 (.int .u64 0) Tryd.underlying38 infoU64q rfl rfl H9.out rfl [.int .u64 (hh : Nat)] rfl (by simp) (by intro b hb; cases hb; exact new_src _ [_] _) (by simp [Value.oneCell']) (by omega) (by unfold maxLen; omega) ?_)
            intro ra2 rc2 w3 ha
            have f0 : w3.frozen? ⟨q, 1, none⟩ = false := ha.p3.unfrozen 1
            have c0' : w3.cell? ⟨q, 1, none⟩ = some (.slice ra nr rc) := ha.p3.cell 1
            have hb := ha.p3.setCell 1 (.slice ra2 (nr + 1) rc2)
            have HB := Lib.hid hb
            clear ha hb c0 H9
            gi_wp2_with fail
            show Sat W _ _
            have e1 : shapeL M (pre ++ [(l, n)]) = S1 ++ [1] := by rw [shapeL_snoc, ← HH.out.2.2.2.2.2.1, someB, ← HH.out.1, ← HH.out.2.2.1]; rfl
            have eo : o = some hh := by
              have h1 := HH.out.2.1
              have h2 := HH.out.2.2.1
              cases o with
              | none => cases h2
              | some z => rw [h1]; rfl
            have e2 : leftL M a (pre ++ [(l, n)]) = L1 := by rw [leftL_no pre (by rw [leftF, if_neg (by have := HBL.out; omega)]), ← HH.out.2.2.2.1]
            have e3 : rightL M a (pre ++ [(l, n)]) = R1 ++ [hh] := by rw [rightL_so pre (v := hh) (by rw [rightF, if_neg (by have := HBL.out; omega), ← HH.out.1, eo]), ← HH.out.2.2.2.2.1]
            rw [e1, e2, e3, sep_assoc]
            refine prfA_mk HH.out.2.2.2.2.2.2.1 (by rw [List.length_append, ← HH.out.2.2.2.2.2.2.2.1, List.length_singleton]) (by rw [List.length_append, ← HH.out.2.2.2.2.2.2.2.2.1, List.length_singleton]) (nl := nl) (nr := nr + 1) (ns := ns + 1) (la := la) (ra := ra2) (sa := sa2) (lc := lc) (rc := rc2) (sc := sc2) ?_
            have hb := (show Sat W _ (sep (blk g (.cells #[.int .i64 (l : Nat), .int .i64 n] 106 (0, 0))) (sep (blk q (.cells #[.slice la nl lc, .slice ra2 (nr + 1) rc2, .slice sa2 (ns + 1) sc2] 40 (0, 0))) (sep (osl 5 1 sa2 (ns + 1) sc2 (S1.map bv ++ [.int .u8 1])) (sep (osl 43 1 ra2 (nr + 1) rc2 (R1.map uv ++ [.int .u64 (hh : Nat)])) (sep RS (sep (osl 43 1 la nl lc (L1.map uv)) B)))))) by
              have := HB.out
              simpa only [sep_comm, sep_lcomm, sep_assoc, List.setIfInBounds_toArray, List.set_cons_zero, List.set_cons_succ] using this).drop
            rw [show List.map bv (S1 ++ [(1 : UInt8)]) = List.map bv S1 ++ [Value.int .u8 1] by rw [List.map_append]; rfl, show List.map uv (R1 ++ [hh]) = List.map uv R1 ++ [Value.int .u64 (hh : Nat)] by rw [List.map_append]; rfl]
            simpa only [sep_comm, sep_lcomm, sep_assoc] using hb
        /-VED3-/
      case done =>
        intro D xs w' hxs hS
        subst hxs
        obtain ⟨OL, hOL⟩ : ∃ OL, OL = outL a b 12 0 := ⟨_, rfl⟩
        rw [← hOL] at hS
        have HOL := Lib.hid hOL
        rw [sep_emp] at hS
        obtain ⟨L1, hL1⟩ : ∃ L1, L1 = leftL M a OL := ⟨_, rfl⟩
        obtain ⟨R1, hR1⟩ : ∃ R1, R1 = rightL M a OL := ⟨_, rfl⟩
        obtain ⟨S1, hS1⟩ : ∃ S1, S1 = shapeL M OL := ⟨_, rfl⟩
        rw [← hL1, ← hR1, ← hS1] at hS
        obtain ⟨⟨la, lc⟩, ⟨ra, rc⟩, ⟨sa, sc⟩, h1⟩ := prfA_open (show Sat W w' (sep (prfA q L1 R1 S1) (sep RS (blk D (.deferred (some []))))) by simpa only [sep_comm, sep_lcomm, sep_assoc] using hS)
        dsimp only at h1
        obtain ⟨nl, hnl⟩ : ∃ nl, nl = L1.length := ⟨_, rfl⟩
        obtain ⟨nr, hnr⟩ : ∃ nr, nr = R1.length := ⟨_, rfl⟩
        obtain ⟨ns, hns⟩ : ∃ ns, ns = S1.length := ⟨_, rfl⟩
        rw [← hnl, ← hnr, ← hns] at h1
        have HL := Lib.hid (And.intro (And.intro hL1 (And.intro hR1 hS1)) (And.intro hnl (And.intro hnr hns)))
        have h2 := h1.drew
        obtain ⟨wd, hwd⟩ : ∃ wd, wd = w'.drew := ⟨_, rfl⟩
        rw [← hwd] at h2
        obtain ⟨XX, hXX⟩ : ∃ XX, XX = sep (osl 43 1 la nl lc (L1.map uv)) (sep (osl 43 1 ra nr rc (R1.map uv)) (osl 5 1 sa ns sc (S1.map bv))) := ⟨_, rfl⟩
        obtain ⟨YY, hYY⟩ : ∃ YY, YY = sep (osl 84 2 pa pl pc cells) (sep ((rPair.rows 2).is cells P) (sep (bmap b1 f nk) (sep (vokA f M) (sep (kn J) (sep (blk p (.cells (amC b1 b2) 92 (0, 0))) (sep (gmap bkv b2 (hmF M) n2) A)))))) := ⟨_, rfl⟩
        have hr2 := HRS.out
        rw [← hYY] at hr2
        have h3 : Sat W wd (sep (blk q (.cells #[.slice la nl lc, .slice ra nr rc, .slice sa ns sc] 40 (0, 0))) (sep XX (sep RS (blk D (.deferred (some [])))))) := by
          rw [hXX]
          simpa only [sep_assoc] using h2
        rw [hr2] at h3
        have h4 : Sat W wd (sep (blk (x + 1 + 1) (.cells #[.slice none 0 0, .slice none 0 0, .slice none 0 0] 40 (0, 0))) (sep (blk q (.cells #[.slice la nl lc, .slice ra nr rc, .slice sa ns sc] 40 (0, 0))) (sep XX (sep YY (sep (blk D (.deferred (some []))) (sep (blk (x + 1) (.cells #[.int .i64 a] 3 (0, 0))) (blk x (.cells #[.pointer (some ⟨p, 0, none⟩)] 25 (0, 0))))))))) := by
          simpa only [sep_comm, sep_lcomm, sep_assoc] using h3
        have c0 : wd.cell? ⟨q, 0, none⟩ = some (.slice la nl lc) := h4.p1.cell 0
        have c1 : wd.cell? ⟨q, 1, none⟩ = some (.slice ra nr rc) := h4.p1.cell 1
        have c2 : wd.cell? ⟨q, 2, none⟩ = some (.slice sa ns sc) := h4.p1.cell 2
        have s0 : wd.cell? ⟨x + 1 + 1, 0, none⟩ = some (.slice none 0 0) := h4.cell 0
        have s1 : wd.cell? ⟨x + 1 + 1, 1, none⟩ = some (.slice none 0 0) := h4.cell 1
        have s2 : wd.cell? ⟨x + 1 + 1, 2, none⟩ = some (.slice none 0 0) := h4.cell 2
        have v0 : wd.frozen? ⟨x + 1 + 1, 0, none⟩ = false := h4.unfrozen 0
        have v1 : wd.frozen? ⟨x + 1 + 1, 1, none⟩ = false := h4.unfrozen 1
        have v2 : wd.frozen? ⟨x + 1 + 1, 2, none⟩ = false := h4.unfrozen 2
        have h5 := ((h4.setCell 0 (.slice la nl lc)).setCell 1 (.slice ra nr rc)).setCell 2 (.slice sa ns sc)
        have h6 : Sat W (((wd.setCell ⟨x + 1 + 1, 0, none⟩ (.slice la nl lc)).setCell ⟨x + 1 + 1, 1, none⟩ (.slice ra nr rc)).setCell ⟨x + 1 + 1, 2, none⟩ (.slice sa ns sc)) (sep (blk D (.deferred (some []))) (sep (blk (x + 1 + 1) (.cells #[.slice la nl lc, .slice ra nr rc, .slice sa ns sc] 40 (0, 0))) (sep XX YY))) := by
          have e2 : Sat W (((wd.setCell ⟨x + 1 + 1, 0, none⟩ (.slice la nl lc)).setCell ⟨x + 1 + 1, 1, none⟩ (.slice ra nr rc)).setCell ⟨x + 1 + 1, 2, none⟩ (.slice sa ns sc)) (sep (blk (x + 1) (.cells #[.int .i64 a] 3 (0, 0))) (sep (blk x (.cells #[.pointer (some ⟨p, 0, none⟩)] 25 (0, 0))) (sep (blk q (.cells #[.slice la nl lc, .slice ra nr rc, .slice sa ns sc] 40 (0, 0))) (sep (blk D (.deferred (some []))) (sep (blk (x + 1 + 1) (.cells #[.slice la nl lc, .slice ra nr rc, .slice sa ns sc] 40 (0, 0))) (sep XX YY)))))) := by simpa only [sep_comm, sep_lcomm, sep_assoc, List.setIfInBounds_toArray, List.set_cons_zero, List.set_cons_succ] using h5
          exact e2.drop.drop.drop
        have H5 := Lib.hid h6
        have HXY := Lib.hid (And.intro hXX hYY)
        clear hS h1 h2 h3 h4 h5 h6 hr2 hXX hYY hL1 hR1 hS1 hnl hnr hns hOL h10 HRF eg
        go_upto_region 20 with (fail)
        refine wp_region_canon rfl (fun _ => True) [(0, .p), (1, .t), (2, .p), (3, .e false), (4, .p)] (by kernel_rfl) ?_
        rw [← hwd]
        clear hwd
        have hS0 : True := trivial
        (repeat ((first | (refine C_p (v := ?_) rfl rfl (fun w' => ?_) ?_; rotate_left; (go_simp; with_reducible rfl)) | (refine C_s (v := ?_) rfl rfl hS0 (fun w' hS => ?_) ?_; rotate_left; ((try dsimp only at hS); go_simp; with_reducible rfl)) | (refine C_t (v := ?_) rfl rfl ?_ ?_; rotate_left; (go_simp; with_reducible rfl)) | (refine C_po rfl rfl ?_) | (refine C_so rfl rfl hS0 ?_) | (refine C_to rfl rfl ?_)); simp only [Act.put, List.setIfInBounds_toArray, List.set_cons_zero, List.set_cons_succ]))
        (refine C_e rfl rfl (fun K hK => ?_); go_simp)
        (refine hK _ _ (fun h => by cases h) ?_; clear hK K; (try simp only [Act.put, List.setIfInBounds_toArray, List.set_cons_zero, List.set_cons_succ]))
        (repeat ((first | (refine C_p (v := ?_) rfl rfl (fun w' => ?_) ?_; rotate_left; (go_simp; with_reducible rfl)) | (refine C_s (v := ?_) rfl rfl hS0 (fun w' hS => ?_) ?_; rotate_left; ((try dsimp only at hS); go_simp; with_reducible rfl)) | (refine C_t (v := ?_) rfl rfl ?_ ?_; rotate_left; (go_simp; with_reducible rfl)) | (refine C_po rfl rfl ?_) | (refine C_so rfl rfl hS0 ?_) | (refine C_to rfl rfl ?_)); simp only [Act.put, List.setIfInBounds_toArray, List.set_cons_zero, List.set_cons_succ]))
        refine C_nil ?_
        go_wp2_with fail
        have hD := H5.out.blk_heap
        have h8 := H5.out.putObj (.deferred none)
        have r0 := h8.p1.cell 0
        have r1 := h8.p1.cell 1
        have r2 := h8.p1.cell 2
        have H8 := Lib.hid h8
        clear h8 c0 c1 c2 s0 s1 s2 v0 v1 v2
        refine ⟨by simp, .inl ⟨_, _, rfl, run_takeDeferred hD, ?_⟩⟩
        refine ⟨.tuple #[.slice pa pl pc, .agg #[.slice la nl lc, .slice ra nr rc, .slice sa ns sc], .int .i64 0], ?_, ?_⟩
        · simp [results, Tryd.results17, go_sem, r0, r1, r2]
        · refine ⟨pa, pc, cells, ks, la, lc, ra, rc, sa, sc, J, HK.out.1, hIJ.out, ?_, ?_⟩
          · rw [← HP.out, ← HPL.out, ← HOL.out, ← HL.out.1.1, ← HL.out.1.2.1, ← HL.out.1.2.2, ← HL.out.2.1, ← HL.out.2.2.1, ← HL.out.2.2.2]
          · rw [← HP.out, ← HPL.out, ← HOL.out, ← HL.out.1.1, ← HL.out.1.2.1, ← HL.out.1.2.2, ← HL.out.2.1, ← HL.out.2.2.1, ← HL.out.2.2.2]
            have h9 := H8.out.drop.drop
            rw [HXY.out.1, HXY.out.2, HNK.out.1] at h9
            have h10 := isAM_mk (p := p) (M := M) (b1 := b1) (b2 := b2) (n2 := n2) (f := f) (show Sat W _ (sep (blk p (.cells (amC b1 b2) 92 (0, 0))) (sep (bmap b1 f (nkeys M)) (sep (gmap bkv b2 (hmF M) n2) (sep (vokA f M) (sep (osl 84 2 pa pl pc cells) (sep ((rPair.rows 2).is cells P) (sep (osl 43 1 la nl lc (L1.map uv)) (sep (osl 43 1 ra nr rc (R1.map uv)) (sep (osl 5 1 sa ns sc (S1.map bv)) (sep (kn J) A)))))))))) by simpa only [sep_comm, sep_lcomm, sep_assoc] using h9)
            simpa only [sep_comm, sep_lcomm, sep_assoc] using h10
end Go.Proofs.YtcmjbjlliehdiaaDoor
