/- SealRuns, the walk. -/
import Derived.Test.YtcnonbhhlbplpaaS25
import Derived.Test.YtcnonbhhlbplpaaS13
import Derived.Test.YtcnonbhhlbplpaaS10
namespace Go.Proofs.Ytcnonbhhlbplpaa
open Go.RowKit PA
def salR (s j : Nat) : Nat := (s + j) % 18446744073709551616
def EOK (L : EntL) : Prop := Asc L ∧ ∀ x ∈ L, x.2.b.length ≤ 65536
def putL (L : EntL) (k : Int) (x : List UInt8) (s : Nat) : EntL := if putE (lkL L) L.length k x = 0 then insL L k ⟨x, s, false⟩ else L
theorem putE_zero {L : EntL} {k : Int} {x : List UInt8} (h : putE (lkL L) L.length k x = 0) : ¬ (k < 0 ∨ 65535 < k) ∧ x.length ≤ 65536 ∧ lkL L k = none := by
  unfold putE at h
  split at h
  · cases h
  · rename_i h1
    split at h
    · cases h
    · split at h
      · cases h
      · rename_i h2 h3
        refine ⟨h1, by omega, ?_⟩
        cases hh : lkL L k with
        | none => rfl
        | some e => rw [hh] at h3; simp at h3
theorem putL_facts {L : EntL} (h : EOK L) (k : Int) (x : List UInt8) (s : Nat) :
    EOK (putL L k x s) ∧ lkL (putL L k x s) = putM (lkL L) L.length k x s ∧ (putL L k x s).length = putN (lkL L) L.length k x := by
  unfold putL putM putN
  split
  · rename_i h0
    obtain ⟨h1, h2, h3⟩ := putE_zero h0
    refine ⟨⟨insL_asc _ _ h.1 h3, fun y hy => ?_⟩, insL_lk _ _ _, insL_len _ _ _⟩
    rcases insL_mem _ _ _ _ hy with rfl | hy
    · exact h2
    · exact h.2 y hy
  · exact ⟨h, rfl, rfl⟩
theorem opnL_ok {L : EntL} (h : EOK L) (k : Int) : EOK (opnL L k) := by
  refine ⟨opnL_asc h.1 k, fun y hy => ?_⟩
  unfold opnL at hy
  obtain ⟨i, hi, e⟩ := List.mem_iff_getElem.1 hy
  rw [List.getElem_modify] at e
  rw [List.length_modify] at hi
  have hb : y.2.b = L[i].2.b := by rw [← e]; split <;> rfl
  rw [hb]; exact h.2 _ (List.getElem_mem _)
theorem osl_learn26 {W w : World} {A : Assn} {I : Mem} {a : Option Addr} {l c : Nat} {gb : List UInt8} (h : Sat W w (sep (osl 5 1 a l c (gb.map bv)) (sep (kn I) A))) (hl : l = gb.length) : ∃ J, Mem.le I J ∧ rBytes.rel J [.slice a l c] gb ∧ Sat W w (sep (kn J) A) := by
  subst hl
  exact h.bytes_of_osl.2.learn
theorem same_kn26 {W w : World} {A : Assn} {J : Mem} (v u : Value) (x : List UInt8) (h : Sat W w (sep (kn J) A)) (h1 : rBytes.rel J [v] x) (h2 : rBytes.rel J [u] x) :
    Calls Try.prog 17 #[v, u] w fun e w' => e = .returned (.bool true) ∧ Sat W w' (sep (kn J) A) := by
  have := sameBytes_spec v u x x ((h.tell h2).p1.tell h1).p2.p1
  rw [decide_eq_true rfl] at this
  exact this.mono fun e w' ⟨h1, h2⟩ => ⟨h1, h2.drop.drop⟩
def opB : Option Ent → List UInt8 | none => [] | some e => e.b
def opS : Option Ent → Nat | none => 0 | some e => e.s
def opX : Option Ent → Nat | none => 7 | some _ => 0
def opM (M : Int → Option Ent) (k : Int) : Int → Option Ent := match M k with | none => M | some e => eset M k { e with o := true }
def opL (L : EntL) (k : Int) : EntL := if (lkL L k).isSome then opnL L k else L
theorem opL_facts {L : EntL} (h : EOK L) (k : Int) : EOK (opL L k) ∧ lkL (opL L k) = opM (lkL L) k ∧ (opL L k).length = L.length := by
  unfold opL opM
  cases hm : lkL L k with
  | none => exact ⟨h, rfl, rfl⟩
  | some e => exact ⟨opnL_ok h k, opnL_lk k e L h.1 hm, opnL_len L k⟩
theorem sopen_any {W w : World} {A : Assn} {I : Mem} (p : Nat) (M : Int → Option Ent) (n : Nat) (k : Int) (h : Sat W w (sep (isBox p M n) (sep (kn I) A))) :
    Calls Try.prog 16 #[.pointer (some ⟨p, 0, none⟩), .int .i64 k] w fun e w' => ∃ v J, Mem.le I J ∧ rBytes.rel J [v] (opB (M k)) ∧ e = .returned (.tuple #[v, .int .u64 (opS (M k) : Nat), .int .i64 (opX (M k) : Nat)]) ∧ Sat W w' (sep (kn J) (sep (isBox p (opM M k) n) A)) := by
  cases hm : M k with
  | none =>
    refine (sopen_no p M n k h hm).mono ?_
    rintro e w' ⟨rfl, h1⟩
    refine ⟨_, I, Mem.le_refl _, nil_rel I, rfl, ?_⟩
    rw [opM, hm]
    simpa only [sep_comm, sep_lcomm, sep_assoc] using h1
  | some en =>
    refine (sopen_ok p M n k en h hm).mono ?_
    rintro e w' ⟨a, c, rfl, h1⟩
    obtain ⟨J, h2, h3, h4⟩ := osl_learn26 (show Sat W w' (sep (osl 5 1 a en.b.length c (en.b.map bv)) (sep (kn I) (sep (isBox p (eset M k { en with o := true }) n) A))) by simpa only [sep_comm, sep_lcomm, sep_assoc] using h1) rfl
    refine ⟨_, J, h2, h3, rfl, ?_⟩
    rw [opM, hm]
    exact h4
theorem rsopen_any {W w : World} {A : Assn} {I : Mem} (q : Nat) (L : EntL) (k : Int) (h : Sat W w (sep (isRBox q L) (sep (kn I) A))) (hl : L.length ≤ 4000) (ha : Asc L) :
    Calls Try.prog 25 #[.pointer (some ⟨q, 0, none⟩), .int .i64 k] w fun e w' => ∃ v J, Mem.le I J ∧ rBytes.rel J [v] (opB (lkL L k)) ∧ e = .returned (.tuple #[v, .int .u64 (opS (lkL L k) : Nat), .int .i64 (opX (lkL L k) : Nat)]) ∧ Sat W w' (sep (kn J) (sep (isRBox q (opL L k)) A)) := by
  cases hm : lkL L k with
  | none =>
    refine (rsopen_no q L k h hl ha hm).mono ?_
    rintro e w' ⟨rfl, h1⟩
    refine ⟨_, I, Mem.le_refl _, nil_rel I, rfl, ?_⟩
    rw [opL, hm]
    simpa only [Option.isSome_none, Bool.false_eq_true, if_false, sep_comm, sep_lcomm, sep_assoc] using h1
  | some en =>
    refine (rsopen_ok q L k en h hl ha hm).mono ?_
    rintro e w' ⟨a, c, J, h2, h3, rfl, h4⟩
    refine ⟨_, J, h2, h3, rfl, ?_⟩
    rw [opL, hm]
    simpa only [Option.isSome_some, if_true, sep_comm, sep_lcomm, sep_assoc] using h4
theorem rsput_any {W w : World} {A : Assn} {I : Mem} (q : Nat) (L : EntL) (k : Int) (v : Value) (x : List UInt8) (s : Nat) (h : Sat W w (sep (isRBox q L) (sep (kn I) A))) (hv : rBytes.rel I [v] x) (hx : x.length ≤ 1000) (hl : L.length ≤ 4000) (ha : Asc L) :
    Calls Try.prog 24 #[.pointer (some ⟨q, 0, none⟩), .int .i64 k, v, .int .u64 (s : Nat)] w fun e w' => e = .returned (.tuple #[.int .u64 (putC (lkL L) L.length k x s : Nat), .int .i64 (putE (lkL L) L.length k x : Nat)]) ∧ Sat W w' (sep (isRBox q (putL L k x s)) (sep (kn I) A)) := by
  by_cases hk : k < 0 ∨ 65535 < k
  · have e := putE_rk (L := L) (x := x) hk
    rw [putL, putC, e, if_neg (by decide), if_neg (by decide)]
    exact (rsput_arg q L k v s h hk).mono fun e w' hh => hh
  · cases hm : lkL L k with
    | some en =>
      have e := putE_r8 (L := L) (x := x) hk hx (by rw [hm]; rfl)
      rw [putL, putC, e, if_neg (by decide), if_neg (by decide)]
      exact (rsput_twice q L k v x s h hv hx hl ha hk hm).mono fun e w' hh => hh
    | none =>
      have e := putE_r0 (L := L) (x := x) hk hx hm hl
      rw [putL, putC, e, if_pos rfl, if_pos rfl]
      exact (rsput_ok q L k v x s h hv hx hl ha hk hm).mono fun e w' hh => hh
theorem ssealed_L {W w : World} {A : Assn} (p : Nat) (L : EntL) (ha : Asc L) (h : Sat W w (sep (isBox p (lkL L) L.length) A)) :
    Calls Try.prog 13 #[.pointer (some ⟨p, 0, none⟩)] w fun e w' => ∃ a c, e = .returned (.slice a (sldL L).length c) ∧ Sat W w' (sep (osl 3 1 a (sldL L).length c ((sldL L).map iv)) (sep (isBox p (lkL L) L.length) A)) := by
  refine (ssealed_spec p (lkL L) L.length h).mono ?_
  rintro e w' ⟨a, c, ks, rfl, hk, -, h1⟩
  obtain rfl := hk.uniq (mkeys_L ha)
  rw [sld_eq ha] at h1 ⊢
  exact ⟨a, c, rfl, h1⟩
theorem scommit_L {W w : World} {A : Assn} (p : Nat) (L : EntL) (ha : Asc L) (h : Sat W w (sep (isBox p (lkL L) L.length) A)) :
    Calls Try.prog 12 #[.pointer (some ⟨p, 0, none⟩)] w fun e w' => ∃ a c, e = .returned (.slice a (cmsL L).length c) ∧ Sat W w' (sep (osl 22 1 a (cmsL L).length c ((cmsL L).map uv)) (sep (isBox p (lkL L) L.length) A)) := by
  refine (scommitments_spec p (lkL L) L.length h).mono ?_
  rintro e w' ⟨a, c, ks, rfl, hk, -, h1⟩
  obtain rfl := hk.uniq (mkeys_L ha)
  have e : (cmsL L).length = (L.map (·.1)).length := by rw [cmsL, List.length_map, List.length_map]
  rw [cms_eq ha, ← e] at h1
  rw [← e]
  exact ⟨a, c, rfl, h1⟩
set_option maxRecDepth 100000 in
set_option maxHeartbeats 16000000 in
theorem sealRuns_walk (a0 : Option Addr) (len0 cap0 : Nat) (z0 : List Int) (a1 a2 : Int) (w : World)
    (w0 : IsArg w a0 len0 cap0 z0) (w1 : (Lit.int .u64 a1).wf = true) (w2 : (Lit.int .i64 a2).wf = true) :
    Calls Try.prog 7 #[.slice a0 len0 cap0, .int .u64 a1, .int .i64 a2] w fun e w' => e = .returned (.bool true) ∧ Below w.heap.size w w' := by
  obtain ⟨N, hN, hrel, h64⟩ := argI w0
  obtain ⟨s, rfl, hs⟩ := u64_nat w1
  obtain ⟨a', c', e1, hsw, hcells⟩ := ints_rel.1 hrel
  simp only [Value.slice.injEq] at e1
  obtain ⟨rfl, -, rfl⟩ := e1
  have hl64 : (len0 : Int) ≤ 9223372036854775807 := by rw [hN]; have := hsw.1; have := hsw.2.1; unfold maxLen at this; omega
  have HC := Lib.hid (And.intro hN (And.intro hcells h64))
  have HA2 := Lib.hid (i64_of_wf w2)
  have HS := Lib.hid hs
  have HNEW := Lib.hid (snew_spec (Sat.startKn w))
  clear w0 w1 w2 hrel h64 hcells hsw hN hs
  go_enter Try.func7, Try.ntmps7
  go_wp2_with fail
  refine HNEW.out.mono ?_
  rintro e w1 ⟨px, rfl, h1⟩
  have h2 := (h1.alloc (.cells (rbC none 0 0) 52)).osl_nil 79 4
  obtain ⟨q, hq⟩ : ∃ q, q = w1.heap.size := ⟨_, rfl⟩
  obtain ⟨w2, hw2⟩ : ∃ w2, w2 = w1.alloc (.cells #[.slice none 0 0] 52) := ⟨_, rfl⟩
  have h3 : Sat w w2 (sep (isBox px (lkL []) 0) (sep (isRBox q []) (sep (kn (wm w)) emp))) := by
    have h4 : Sat w w2 (sep ((rEnt.rows 4).is [] []) (sep (osl 79 4 none 0 0 []) (sep (blk q (.cells (rbC none 0 0) 52 (0, 0))) (sep (isBox px (fun _ => none) 0) (sep (kn (wm w)) emp))))) := by
      have h5 : Sat w w2 (sep (osl 79 4 none 0 0 []) (sep (blk q (.cells (rbC none 0 0) 52 (0, 0))) (sep (isBox px (fun _ => none) 0) (sep (kn (wm w)) emp)))) := by rw [hq, hw2]; exact h2
      exact Sat.startPers w (fun I => (rEnt.rows 4).rel I [] []) (fun I J hl h => (rEnt.rows 4).mono hl h) h5 ⟨[], rfl, trivial⟩
    have h6 := isRBox_mk (q := q) (L := []) rfl (show Sat w w2 (sep (blk q (.cells (rbC none 0 0) 52 (0, 0))) (sep (osl 79 4 none 0 0 []) (sep ((rEnt.rows 4).is [] []) (sep (isBox px (fun _ => none) 0) (sep (kn (wm w)) emp))))) by simpa only [sep_comm, sep_lcomm, sep_assoc] using h4)
    exact h6.p1
  have HW := Lib.hid (And.intro hq hw2)
  have H3 := Lib.hid h3
  clear HNEW h1 h2 h3 hq hw2
  go_upto_region 3 with (fail)
  rw [← HW.out.1, ← HW.out.2]
  go_wp2_with fail
  go_loopw [7, 9] (fun pv iv' wr => ∃ (i px : Nat) (L : EntL), i ≤ 30 ∧ L.length ≤ i ∧ iv' = .int .i64 (i : Nat) ∧ pv = .pointer (some ⟨px, 0, none⟩) ∧ Hid (EOK L) ∧ Sat w wr (sep (isBox px (lkL L) L.length) (sep (isRBox q L) (sep (kn (wm w)) emp)))) (fun _ iv' _ => 30 - (intOf iv').toNat)
  case atStart => exact ⟨0, px, [], by omega, by simp, rfl, rfl, Lib.hid ⟨by simp [Asc], by simp⟩, H3.out⟩
  case round =>
    clear H3
    obtain ⟨i, px, L, hi, hLi, rfl, rfl, HE, hS⟩ := hrel
    by_cases hil : i < len0 ∧ i < 30
    · obtain ⟨hi1, hi2⟩ := hil
      have hiL : i < N.length := by rw [← HC.out.1]; exact hi1
      obtain ⟨b, o, rfl, hcell⟩ := cells_ext HC.out.2.1 (by intro e; rw [List.map_eq_nil_iff] at e; rw [e] at hiL; simp at hiL)
      obtain ⟨x, hx⟩ : ∃ x, x = N[i] := ⟨_, rfl⟩
      have hcx : ∀ w', Ext (wm w) w' → w'.cell? ⟨b, o + i, none⟩ = some (.int .i64 x) := fun w' he => hcell w' he i _ (by rw [List.getElem?_map, List.getElem?_eq_getElem hiL, ← hx]; rfl)
      have hx64 : I64' x := by rw [hx]; exact HC.out.2.2 _ (List.getElem_mem hiL)
      have g0 := hcx wr hS.p2.ext
      have hq := aroundI_lt x 1048576 (by omega)
      have har := around_spec x 1048576 wr hx64.1 hx64.2 (by omega) (by omega)
      obtain ⟨k, hk⟩ : ∃ k : Nat, aroundI x 1048576 = (k : Int) := ⟨(aroundI x 1048576).toNat, by omega⟩
      rw [hk] at hq har
      have hk20 : k < 1048576 := by omega
      have HAR := Lib.hid har
      have HSat := Lib.hid hS
      have hi1I : (i : Int) < (len0 : Int) := by omega
      have hi2I : (i : Int) < 30 := by omega
      clear hiL hcell hx hcx hx64 hq har hk hS
      go_wp2_with fail
      refine HAR.out.mono ?_
      rintro e w' ⟨rfl, rfl⟩
      clear HAR g0
      have HK := Lib.hid hk20
      clear hk20
      go_upto_if 48 with (fail)
      go_cut [11] (fun nv wx => ∃ z : Int, nv = .int .i64 z ∧ wx = wr)
      case first =>
        by_cases h29 : (k : Int) % 29 = 3
        · go_wp2_with fail
          go_meet
          exact ⟨_, rfl, rfl⟩
        · go_wp2_with fail
          go_meet
          exact ⟨_, rfl, rfl⟩
      case rest =>
       obtain ⟨z, rfl, rfl⟩ := hcut
       have hsw : IntKind.u64.wrap ((s : Int) + (i : Int)) = ((salR s i : Nat) : Int) := by rw [IntKind.wrap_u64]; unfold salR; omega
       have hwi : IntKind.u64.wrap (i : Int) = (i : Int) := by rw [IntKind.wrap_u64]; omega
       obtain ⟨si, hsi⟩ : ∃ si, si = salR s i := ⟨_, rfl⟩
       rw [← hsi] at hsw
       clear hsi
       go_upto_if 52 with (fail)
       go_cut [] (fun wx => ∃ L2 : EntL, L2.length ≤ i + 1 ∧ Hid (EOK L2) ∧ Sat w wx (sep (isBox px (lkL L2) L2.length) (sep (isRBox q L2) (sep (kn (wm w)) emp))))
       case first =>
         by_cases h4 : (k : Int) % 4 < 2
         · as_aux_lemma =>
             /-DEV1-/
             obtain ⟨kk, hkk⟩ : ∃ kk : Int, kk = (k : Int) / 50 := ⟨_, rfl⟩
             have hkb : -9223372036854775808 ≤ kk ∧ kk ≤ 9223372036854775807 := by have := HK.out; omega
             have hb1 := rsbytes_spec kk hkb.1 hkb.2 HSat.out
             obtain ⟨gb, hgb⟩ : ∃ gb, gb = genB kk := ⟨_, rfl⟩
             have hgl : gb.length ≤ 8 := by rw [hgb]; exact genB_len _
             rw [← hgb] at hb1
             rw [hkk] at hb1
             obtain ⟨l, hl⟩ : ∃ l, l = gb.length := ⟨_, rfl⟩
             rw [← hl] at hb1
             have HB1 := Lib.hid hb1
             have HGB := Lib.hid (And.intro hkk (And.intro hkb (And.intro hgb (And.intro hgl hl))))
             clear hb1 hkb hgb hgl hl hkk
             have hwk : wrap64 ((k : Int) / 50) = (k : Int) / 50 := by have := HK.out; unfold wrap64; omega
             go_wp2_with fail
             refine HB1.out.mono ?_
             rintro e w3 ⟨ab, cb, rfl, h5⟩
             obtain ⟨J, hJ, hb, h6⟩ := osl_learn26 (show Sat w w3 (sep (osl 5 1 ab l cb (gb.map bv)) (sep (kn (wm w)) (sep (isBox px (lkL L) L.length) (sep (isRBox q L) emp)))) by
               simpa only [sep_comm, sep_lcomm, sep_assoc] using h5) HGB.out.2.2.2.2
             have hp := sput_any px (lkL L) L.length z _ gb si h6.p1 hb
             obtain ⟨f1, f2, f3⟩ := putL_facts HE.out z gb si
             rw [← f2, ← f3] at hp
             obtain ⟨cm, hcm⟩ : ∃ cm, cm = putC (lkL L) L.length z gb si := ⟨_, rfl⟩
             obtain ⟨pe, hpe⟩ : ∃ pe, pe = putE (lkL L) L.length z gb := ⟨_, rfl⟩
             rw [← hcm, ← hpe] at hp
             have hL2 : (putL L z gb si).length ≤ i + 1 := by rw [f3, putN]; split <;> omega
             obtain ⟨L2, hL2e⟩ : ∃ L2, L2 = putL L z gb si := ⟨_, rfl⟩
             rw [← hL2e] at hp f1 hL2
             have HP := Lib.hid hp
             have HF := Lib.hid (And.intro f1 (And.intro hJ (And.intro hb (And.intro hcm (And.intro hpe hL2e)))))
             clear HB1 h5 h6 hp f1 f2 f3 hcm hpe hL2e hJ hb
             go_wp2_with fail
             refine HP.out.mono ?_
             rintro e w4 ⟨rfl, h7⟩
             have hb1 := rsbytes_spec kk HGB.out.2.1.1 HGB.out.2.1.2 h7
             rw [← HGB.out.2.2.1, ← HGB.out.2.2.2.2, HGB.out.1] at hb1
             have HB1 := Lib.hid hb1
             clear HP h7 hb1
             go_wp2_with fail
             refine HB1.out.mono ?_
             rintro e w5 ⟨ab2, cb2, rfl, h8⟩
             obtain ⟨J2, hJ2, hb2, h9⟩ := osl_learn26 (show Sat w w5 (sep (osl 5 1 ab2 l cb2 (gb.map bv)) (sep (kn J) (sep (isBox px (lkL L2) L2.length) (sep (isRBox q L) emp)))) by
               simpa only [sep_comm, sep_lcomm, sep_assoc] using h8) HGB.out.2.2.2.2
             have hp := rsput_any q L z _ gb si (show Sat w w5 (sep (isRBox q L) (sep (kn J2) (sep (isBox px (lkL L2) L2.length) emp))) by simpa only [sep_comm, sep_lcomm, sep_assoc] using h9) hb2 (by have := HGB.out.2.2.2.1; omega) (by omega) HE.out.1
             rw [← HF.out.2.2.2.1, ← HF.out.2.2.2.2.1, ← HF.out.2.2.2.2.2] at hp
             have HP := Lib.hid hp
             have HJ2 := Lib.hid (Mem.le_trans HF.out.2.1 hJ2)
             clear HB1 h8 h9 hp hb2 hJ2
             go_wp2_with fail
             refine HP.out.mono ?_
             rintro e w6 ⟨rfl, h10⟩
             have h11 : Sat w w6 (sep (isBox px (lkL L2) L2.length) (sep (isRBox q L2) (sep (kn (wm w)) emp))) := by
               have := (show Sat w w6 (sep (kn J2) (sep (isRBox q L2) (sep (isBox px (lkL L2) L2.length) emp))) by simpa only [sep_comm, sep_lcomm, sep_assoc] using h10).kn_mono HJ2.out
               simpa only [sep_comm, sep_lcomm, sep_assoc] using this
             have H11 := Lib.hid h11
             clear HP h10 h11
             go_wp2_with fail
             go_meet
             exact ⟨L2, hL2, Lib.hid HF.out.1, H11.out⟩
             /-VED1-/
         · as_aux_lemma =>
             /-DEV2-/
             have ho := sopen_any px (lkL L) L.length z (show Sat w _ (sep (isBox px (lkL L) L.length) (sep (kn (wm w)) (sep (isRBox q L) emp))) by simpa only [sep_comm, sep_lcomm, sep_assoc] using HSat.out)
             obtain ⟨f1, f2, f3⟩ := opL_facts HE.out z
             rw [← f2] at ho
             obtain ⟨ob, hob⟩ : ∃ ob, ob = opB (lkL L z) := ⟨_, rfl⟩
             obtain ⟨os, hos⟩ : ∃ os, os = opS (lkL L z) := ⟨_, rfl⟩
             obtain ⟨ox, hox⟩ : ∃ ox, ox = opX (lkL L z) := ⟨_, rfl⟩
             obtain ⟨L2, hL2e⟩ : ∃ L2, L2 = opL L z := ⟨_, rfl⟩
             rw [← hob, ← hos, ← hox, ← hL2e] at ho
             rw [← hL2e] at f1 f3
             have HO := Lib.hid ho
             have HF := Lib.hid (And.intro f1 (And.intro f3 (And.intro hob (And.intro hos (And.intro hox hL2e)))))
             clear ho f1 f2 f3 hob hos hox hL2e
             go_wp2_with fail
             refine HO.out.mono ?_
             rintro e w3 ⟨v1, J, hJ, hb, rfl, h5⟩
             have hr := rsopen_any q L z (show Sat w w3 (sep (isRBox q L) (sep (kn J) (sep (isBox px (lkL L2) L.length) emp))) by simpa only [sep_comm, sep_lcomm, sep_assoc] using h5) (by omega) HE.out.1
             rw [← HF.out.2.2.1, ← HF.out.2.2.2.1, ← HF.out.2.2.2.2.1, ← HF.out.2.2.2.2.2] at hr
             have HR := Lib.hid hr
             have HB := Lib.hid (And.intro hJ hb)
             clear HO h5 hr hJ hb
             go_wp2_with fail
             refine HR.out.mono ?_
             rintro e w4 ⟨v2, J2, hJ2, hb2, rfl, h6⟩
             have hs := same_kn26 v1 v2 ob h6 (rBytes.mono hJ2 HB.out.2) hb2
             have HSM := Lib.hid hs
             have HJ2 := Lib.hid (Mem.le_trans HB.out.1 hJ2)
             clear HR h6 hs hJ2 hb2
             go_wp2_with fail
             refine HSM.out.mono ?_
             rintro e w5 ⟨rfl, h7⟩
             have h8 : Sat w w5 (sep (isBox px (lkL L2) L2.length) (sep (isRBox q L2) (sep (kn (wm w)) emp))) := by
               have := h7.kn_mono HJ2.out
               rw [HF.out.2.1]
               simpa only [sep_comm, sep_lcomm, sep_assoc] using this
             have H8 := Lib.hid h8
             clear HSM h7 h8
             go_wp2_with fail
             go_meet
             exact ⟨L2, by rw [HF.out.2.1]; omega, Lib.hid HF.out.1, H8.out⟩
             /-VED2-/
       case rest =>
        obtain ⟨L2, hL2, HE2, h5⟩ := hcut
        have H5 := Lib.hid h5
        clear h5
        go_upto_if 117 with (fail)
        go_cut [7] (fun pv wx => ∃ p2 : Nat, pv = .pointer (some ⟨p2, 0, none⟩) ∧ Sat w wx (sep (isBox p2 (lkL L2) L2.length) (sep (isRBox q L2) (sep (kn (wm w)) emp))))
        case first =>
          by_cases h3 : (k : Int) % 4 = 3
          · as_aux_lemma =>
              /-DEV3-/
              have HCP := Lib.hid (scopy_spec px (lkL L2) L2.length H5.out)
              go_wp2_with fail
              refine HCP.out.mono ?_
              rintro e w6 ⟨py, rfl, h6⟩
              have hp := sput_any px (lkL L2) L2.length 13 (.slice none 0 0) [] 1 (show Sat w w6 (sep (isBox px (lkL L2) L2.length) (sep (kn (wm w)) (sep (isBox py (lkL L2) L2.length) (sep (isRBox q L2) emp)))) by simpa only [sep_comm, sep_lcomm, sep_assoc] using h6) (nil_rel _)
              rw [show ((1 : Nat) : Int) = 1 from rfl] at hp
              obtain ⟨M3, hM3⟩ : ∃ M3, M3 = putM (lkL L2) L2.length 13 [] 1 := ⟨_, rfl⟩
              obtain ⟨n3, hn3⟩ : ∃ n3, n3 = putN (lkL L2) L2.length 13 [] := ⟨_, rfl⟩
              rw [← hM3, ← hn3] at hp
              have HP := Lib.hid hp
              clear HCP h6 hp hM3 hn3
              go_wp2_with fail
              refine HP.out.mono ?_
              rintro e w7 ⟨rfl, h7⟩
              have HO := Lib.hid (sopen_any px M3 n3 1 h7)
              clear HP h7
              go_wp2_with fail
              refine HO.out.mono ?_
              rintro e w8 ⟨v1, J, hJ, -, rfl, h8⟩
              have h9 : Sat w w8 (sep (isBox py (lkL L2) L2.length) (sep (isRBox q L2) (sep (kn (wm w)) emp))) := by
                have := (h8.kn_mono hJ).p1.drop
                simpa only [sep_comm, sep_lcomm, sep_assoc] using this
              have H9 := Lib.hid h9
              clear HO h8 h9 hJ
              go_wp2_with fail
              go_meet
              exact ⟨py, rfl, H9.out⟩
              /-VED3-/
          · go_wp2_with fail
            go_meet
            exact ⟨px, rfl, H5.out⟩
        case rest =>
         as_aux_lemma =>
           /-DEV4-/
           obtain ⟨p2, rfl, h6⟩ := hcut
           have HSE := Lib.hid (ssealed_L p2 L2 HE2.out.1 h6)
           clear H5 HSat h6
           go_wp2_with fail
           refine HSE.out.mono ?_
           rintro e w7 ⟨a7, c7, rfl, h7⟩
           have hrs := rssealed_spec q L2 (show Sat w w7 (sep (isRBox q L2) (sep (osl 3 1 a7 (sldL L2).length c7 ((sldL L2).map iv)) (sep (isBox p2 (lkL L2) L2.length) (sep (kn (wm w)) emp)))) by simpa only [sep_comm, sep_lcomm, sep_assoc] using h7) (by omega)
           have HRS := Lib.hid hrs
           clear HSE h7 hrs
           go_wp2_with fail
           refine HRS.out.mono ?_
           rintro e w8 ⟨a8, c8, rfl, h8⟩
           have hsi := sameInts_sat a7 a8 c7 c8 (sldL L2) (sldL L2) (show Sat w w8 (sep (osl 3 1 a7 (sldL L2).length c7 ((sldL L2).map iv)) (sep (osl 3 1 a8 (sldL L2).length c8 ((sldL L2).map iv)) (sep (isRBox q L2) (sep (isBox p2 (lkL L2) L2.length) (sep (kn (wm w)) emp))))) by simpa only [sep_comm, sep_lcomm, sep_assoc] using h8)
           rw [decide_eq_true rfl] at hsi
           have HSI := Lib.hid hsi
           clear HRS h8 hsi
           go_wp2_with fail
           refine HSI.out.mono ?_
           rintro e w9 ⟨rfl, h9⟩
           have HCM := Lib.hid (scommit_L p2 L2 HE2.out.1 (show Sat w w9 (sep (isBox p2 (lkL L2) L2.length) (sep (isRBox q L2) (sep (kn (wm w)) emp))) by simpa only [sep_comm, sep_lcomm, sep_assoc] using h9))
           clear HSI h9
           go_wp2_with fail
           refine HCM.out.mono ?_
           rintro e wa ⟨aa, ca, rfl, ha⟩
           have hrc := rscommitments_spec q L2 (show Sat w wa (sep (isRBox q L2) (sep (osl 22 1 aa (cmsL L2).length ca ((cmsL L2).map uv)) (sep (isBox p2 (lkL L2) L2.length) (sep (kn (wm w)) emp)))) by simpa only [sep_comm, sep_lcomm, sep_assoc] using ha) (by omega) HE2.out.2
           have HRC := Lib.hid hrc
           clear HCM ha hrc
           go_wp2_with fail
           refine HRC.out.mono ?_
           rintro e wb ⟨ab, cb, rfl, hb⟩
           have hsi := same31_sat aa ab ca cb (cmsL L2) (cmsL L2) (show Sat w wb (sep (osl 22 1 aa (cmsL L2).length ca ((cmsL L2).map uv)) (sep (osl 22 1 ab (cmsL L2).length cb ((cmsL L2).map uv)) (sep (isRBox q L2) (sep (isBox p2 (lkL L2) L2.length) (sep (kn (wm w)) emp))))) by simpa only [sep_comm, sep_lcomm, sep_assoc] using hb)
           rw [decide_eq_true rfl] at hsi
           have HSI := Lib.hid hsi
           clear HRC hb hsi
           go_wp2_with fail
           refine HSI.out.mono ?_
           rintro e wd ⟨rfl, hd⟩
           have HD := Lib.hid (show Sat w wd (sep (isBox p2 (lkL L2) L2.length) (sep (isRBox q L2) (sep (kn (wm w)) emp))) by simpa only [sep_comm, sep_lcomm, sep_assoc] using hd)
           clear HSI hd
           go_wp2_with fail
           go_roundw
           case rel => exact ⟨i + 1, p2, L2, by omega, hL2, rfl, rfl, HE2, HD.out⟩
           case measure => simp only [intOf]; omega
           /-VED4-/
    · have HSX := Lib.hid hS
      clear hS
      by_cases hi1 : i < len0
      · have hi1I : (i : Int) < (len0 : Int) := by omega
        obtain rfl : i = 30 := by omega
        clear hil hi
        go_wp2_with fail
        refine (lives31_spec HSX.out).mono ?_
        rintro e w3 ⟨rfl, h4⟩
        go_wp2_with fail
        go_ret
        exact ⟨rfl, h4.below⟩
      · have hi1I : ¬ (i : Int) < (len0 : Int) := by omega
        clear hil
        go_wp2_with fail
        refine (lives31_spec HSX.out).mono ?_
        rintro e w3 ⟨rfl, h4⟩
        go_wp2_with fail
        go_ret
        exact ⟨rfl, h4.below⟩
end Go.Proofs.Ytcnonbhhlbplpaa
