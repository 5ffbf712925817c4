/- Package acts: Files, of acts whose filings have files of their own. -/
import Derived.Test.YtfapiopnjllnnaaGreatDoorGTitleApartSUf
import Derived.Test.YtfapiopnjllnnaaGreatDoorGTitleApart24
namespace PA
open Go
def filsP (xs : List Ac) : List Int := (xs.filter fun x => x.k == 0).map Ac.f
theorem filsP_snoc (xs : List Ac) (x : Ac) : filsP (xs ++ [x]) = filsP xs ++ if x.k = 0 then [x.f] else [] := by
  unfold filsP
  rw [List.filter_append, List.map_append]
  by_cases h : x.k = 0 <;> simp [h]
theorem filsP_le (xs : List Ac) : (filsP xs).length ≤ xs.length := by
  unfold filsP
  rw [List.length_map]
  exact List.length_filter_le _ _
theorem mem_filsP {xs : List Ac} {f : Int} : f ∈ filsP xs ↔ ∃ x ∈ xs, x.k = 0 ∧ x.f = f := by
  unfold filsP
  simp only [List.mem_map, List.mem_filter, beq_iff_eq]
  constructor
  · rintro ⟨x, ⟨h1, h2⟩, h3⟩; exact ⟨x, h1, h2, h3⟩
  · rintro ⟨x, h1, h2, h3⟩; exact ⟨x, ⟨h1, h2⟩, h3⟩
end PA
namespace Go.Proofs.YtfapiopnjllnnaaGreatDoor
open Go.RowKit PA
theorem acts_at {J : Mem} {a : Option Addr} {xs : List Ac} (hc : cellsAt a (acs xs) J) (hne : xs ≠ []) : ∃ b o, a = some ⟨b, o, none⟩ ∧ ∀ w', Ext J w' → ∀ (i : Nat) (hi : i < xs.length), Sem.run Tryz.prog (ldAct (.pointer (some ⟨b, o + i * 19, none⟩))) w' = .ok (.agg xs[i].cells.toArray) w' := by
  have hne2 : acs xs ≠ [] := fun e => by
    have h1 := congrArg List.length e
    rw [acs_len, List.length_nil] at h1
    exact hne (List.eq_nil_of_length_eq_zero (by omega))
  obtain ⟨b, o, rfl, hcell⟩ := cells_ext hc hne2
  refine ⟨b, o, rfl, fun w' he i hi => run_ldAct_at fun j v hj => ?_⟩
  have hjl : j < 19 := (List.getElem?_eq_some_iff.1 hj).1
  have h2 := hcell w' he (i * 19 + j) v (by rw [acs_at xs i hi j hjl]; exact hj)
  rwa [show o + i * 19 + j = o + (i * 19 + j) by omega]
/-- Compact of numbers of which no two neighbours are alike. -/
theorem compact_ok {W w : World} {A : Assn} (a : Option Addr) (n c : Nat) (ys : List Int) (hn : ys.length = n) (hn6 : n ≤ 65536) (hd : ∀ (i : Nat) (u v : Int), ys[i + 1]? = some u → ys[i]? = some v → u ≠ v) (h : Sat W w (sep (osl 3 1 a n c (ys.map PA.iv)) A)) :
    Calls Tryz.prog 45 #[.slice a n c] w fun e w' => e = .returned (.slice a n c) ∧ Sat W w' (sep (osl 3 1 a n c (ys.map PA.iv)) A) := by
  have hnz : (n : Int) ≤ 65536 := by omega
  by_cases h2 : n < 2
  · have h2z : (n : Int) < 2 := by omega
    clear hd
    go_enter Tryz.func45, Tryz.ntmps45
    go_wp2
    go_ret
    exact ⟨rfl, h⟩
  · have h2z : ¬ (n : Int) < 2 := by omega
    obtain ⟨g, rfl⟩ : ∃ g, a = some ⟨g, 0, none⟩ := by
      rcases h.osl_cases with ⟨-, h0, -⟩ | ⟨g, cur, rfl, -⟩
      · omega
      · exact ⟨g, rfl⟩
    have HN := Lib.hid hn
    have HD := Lib.hid hd
    have H := Lib.hid h
    have H2 := Lib.hid h2
    clear hn hd h h2
    go_enter Tryz.func45, Tryz.ntmps45
    go_wp2
    go_loopw [3] (fun iv wr => ∃ k : Nat, iv = .int .i64 k ∧ 1 ≤ k ∧ k ≤ n ∧ Sat W wr (sep (osl 3 1 (some ⟨g, 0, none⟩) n c (ys.map PA.iv)) A)) (fun iv _ => n - (intOf iv).toNat)
    case atStart => exact ⟨1, rfl, Nat.le_refl _, by have := H2.out; omega, H.out⟩
    case round =>
      obtain ⟨k, rfl, hk1, hkn, hS⟩ := hrel
      by_cases hlt : k < n
      · have hltz : (k : Int) < (n : Int) := by omega
        obtain ⟨k0, hk0⟩ : ∃ k0, k = k0 + 1 := ⟨k - 1, by omega⟩
        have hkl : k < ys.length := by rw [HN.out]; exact hlt
        have hd := hS.drew
        have x1 : wr.drew.cell? ⟨g, k, none⟩ = some (.int .i64 ys[k]) := by
          have h9 := hd.osl_settle.rsl_src (k) (PA.iv ys[k]) (by rw [List.getElem?_map, List.getElem?_eq_getElem hkl]; rfl)
          have e : (⟨g, 0, none⟩ : Addr).add (k) = ⟨g, k, none⟩ := by unfold Addr.add; split <;> simp_all
          rw [e] at h9; exact h9
        have x0 : wr.drew.cell? ⟨g, k0, none⟩ = some (.int .i64 ys[k0]) := by
          have h9 := hd.osl_settle.rsl_src k0 (PA.iv ys[k0]) (by rw [List.getElem?_map, List.getElem?_eq_getElem (by omega)]; rfl)
          have e : (⟨g, 0, none⟩ : Addr).add k0 = ⟨g, k0, none⟩ := by unfold Addr.add; split <;> simp_all
          rw [e] at h9; exact h9
        have hne := HD.out k0 ys[k] ys[k0] (by rw [← hk0]; exact List.getElem?_eq_getElem hkl) (List.getElem?_eq_getElem (by omega))
        obtain ⟨u, hu⟩ : ∃ u, u = ys[k] := ⟨_, rfl⟩
        obtain ⟨v, hv⟩ : ∃ v, v = ys[k0] := ⟨_, rfl⟩
        rw [← hu] at x1 hne
        rw [← hv] at x0 hne
        have hne2 : (u == v) = false := by simpa using hne
        have hk0z : IntKind.i64.wrap ((k : Int) - 1) = (k0 : Int) := by
          have : (k : Int) - 1 = (k0 : Int) := by omega
          rw [this]; exact IntWalk.i64_in _ (by omega)
        have hk0n : (k0 : Int) < (n : Int) := by omega
        have HS := Lib.hid hS
        have HK := Lib.hid (And.intro hk1 (And.intro hkn hlt))
        clear hd hne hu hv hS hkl hk1 hkn hlt hk0
        go_upto_region 6 with (fail)
        refine wp_region_canon rfl (fun _ => True) [(0, .p), (1, .p), (2, .p), (3, .t), (4, .p), (5, .p), (6, .p), (7, .p), (8, .t), (9, .p)] (by kernel_rfl) ?_
        have hS0 : True := trivial
        (repeat ((first | (refine C_p (v := ?_) rfl rfl (fun w' => ?_) ?_; rotate_left; (go_simp; with_reducible rfl)) | (refine C_s (v := ?_) rfl rfl hS0 (fun w' hS => ?_) ?_; rotate_left; ((try dsimp only at hS); go_simp; with_reducible rfl)) | (refine C_t (v := ?_) rfl rfl ?_ ?_; rotate_left; (go_simp; with_reducible rfl)) | (refine C_po rfl rfl ?_) | (refine C_so rfl rfl hS0 ?_) | (refine C_to rfl rfl ?_)); simp only [Act.put, List.setIfInBounds_toArray, List.set_cons_zero, List.set_cons_succ]))
        refine C_nil ?_
        go_wp2
        go_roundw
        case rel => exact ⟨k + 1, by go_num, by omega, by have := HK.out; omega, HS.out.drew⟩
        case measure => simp [intOf]; have := HK.out; omega
      · have hltz : ¬ (k : Int) < (n : Int) := by omega
        clear hk1 hkn hlt
        go_wp2
        go_ret
        exact ⟨rfl, hS⟩
attribute [local go_sem ↓] storeAt_act loadAt_act
set_option maxRecDepth 100000 in
set_option maxHeartbeats 4000000 in
theorem files_ok {W w : World} {A : Assn} {I : Mem} (v : Value) (xs : List Ac) (h40 : xs.length ≤ 1000) (hnd : (filsP xs).Nodup) (hv : ActL I v xs) (h : Sat W w (sep (kn I) A)) :
    Calls Tryz.prog 28 #[v] w fun e w' => ∃ (a : Option Addr) (c : Nat) (ys : List Int), e = .returned (.slice a ys.length c) ∧ ys.Perm (filsP xs) ∧ Sat W w' (sep (osl 3 1 a ys.length c (ys.map PA.iv)) (sep (kn I) A)) := by
  obtain ⟨a, n, c, rfl, hn, hsw, hc⟩ := hv
  have HN := Lib.hid hn
  have HC := Lib.hid hc
  have H := Lib.hid h
  have HND := Lib.hid hnd
  have hnz : (n : Int) ≤ 1000 := by omega
  have H40 := Lib.hid h40
  clear hn hc h hnd h40 hsw
  go_enter Tryz.func28, Tryz.ntmps28
  go_upto_block 0 with (fail)
  go_cut [3] from 4 (fun ov wx => ∃ (b : Option Addr) (m d : Nat) (fs : List Int), ov = .slice b m d ∧ Hid (fs = filsP xs ∧ m = fs.length ∧ Sat W wx (sep (osl 3 1 b m d (fs.map PA.iv)) (sep (kn I) A))))
  case first =>
   as_aux_lemma =>
    go_wp2_with fail
    go_loopw [3, 8] (fun ov iv wr => ∃ (k m d : Nat) (b : Option Addr) (fs : List Int), ov = .slice b m d ∧ iv = .int .i64 k ∧ k ≤ n ∧ m ≤ k ∧ Hid (fs = filsP (xs.take k) ∧ m = fs.length ∧ Sat W wr (sep (osl 3 1 b m d (fs.map PA.iv)) (sep (kn I) A)))) (fun _ iv _ => n - (intOf iv).toNat)
    case atStart => exact ⟨0, 0, 0, none, [], rfl, rfl, Nat.zero_le _, Nat.le_refl _, Lib.hid ⟨by simp [filsP], rfl, H.out.osl_nil 3 1⟩⟩
    case round =>
      obtain ⟨k, m, d, b, fs, rfl, rfl, hkn, hmk, HL⟩ := hrel
      by_cases hlt : k < n
      · have hltz : (k : Int) < (n : Int) := by omega
        have hkl : k < xs.length := by have := HN.out; omega
        obtain ⟨bb, o, rfl, hld⟩ := acts_at HC.out (fun e => by rw [e] at hkl; simp at hkl)
        obtain ⟨x, hx⟩ : ∃ x, x = xs[k] := ⟨_, rfl⟩
        have l1 := hld wr HL.out.2.2.p1.ext k hkl
        rw [← hx] at l1
        have ha := HL.out.2.2.alloc (.cells #[.int .i64 0, .int .i64 0, .int .i64 0, .int .i64 0, .int .i64 0, .int .i64 0, .int .i64 0, .int .i64 0, .int .i64 0, .int .i64 0, .int .i64 0, .slice none 0 0, .slice none 0 0, .slice none 0 0, .slice none 0 0, .int .i64 0, .int .i64 0, .slice none 0 0, .slice none 0 0] 57)
        have hst := run_stAct ha.blk_heap rfl x
        have hb := ha.setRow x.cells.toArray
        obtain ⟨w2, hw2⟩ : ∃ z, z = (wr.alloc (.cells #[.int .i64 0, .int .i64 0, .int .i64 0, .int .i64 0, .int .i64 0, .int .i64 0, .int .i64 0, .int .i64 0, .int .i64 0, .int .i64 0, .int .i64 0, .slice none 0 0, .slice none 0 0, .slice none 0 0, .slice none 0 0, .int .i64 0, .int .i64 0, .slice none 0 0, .slice none 0 0] 57)).setRow wr.heap.size x.cells.toArray := ⟨_, rfl⟩
        rw [← hw2] at hst hb
        obtain ⟨kx, hkx⟩ : ∃ z, z = x.k := ⟨_, rfl⟩
        obtain ⟨fx, hfx⟩ : ∃ z, z = x.f := ⟨_, rfl⟩
        have q0 : w2.cell? ⟨wr.heap.size, 0, none⟩ = some (.int .i64 kx) := by rw [hkx]; exact (act_fr hb 0 _ rfl).1
        have q3 : w2.cell? ⟨wr.heap.size, 3, none⟩ = some (.int .i64 fx) := by rw [hfx]; exact (act_fr hb 3 _ rfl).1
        obtain ⟨t, ht⟩ : ∃ b, (kx == 0) = b := ⟨_, rfl⟩
        have HX := Lib.hid (And.intro hx (And.intro hkx hfx))
        have HB := Lib.hid hb.forget
        have HK := Lib.hid (And.intro hkn (And.intro hmk hkl))
        clear ha hb hw2 hx hkx hfx hld hkn
        have hmz : m ≤ 1000 := by omega
        have HMZ := Lib.hid hmz
        clear hlt hmz hmk
        go_upto_region 5 with (fail)
        go_upto_if 14 with (fail)
        cases t with
        | true =>
          have hk0 : x.k = 0 := by rw [← HX.out.2.1]; simpa using ht
          have hal := HB.out.alloc0 (.cells #[.int .i64 fx] 3)
          have HAL := Lib.hid hal
          have HBX := Lib.hid (new_src w2 [.int .i64 fx] 3)
          have HK0 := Lib.hid hk0
          clear hal hk0 ht
          go_wp2_with (at_builtin; go_loud (refine wpl_append_osl rfl _ _ 22 rfl 3 1 8 (.int .i64 0) Tryz.underlying22 infoInt rfl rfl HAL.out rfl [.int .i64 fx] rfl (by simp) (by intro b' hb; cases hb; exact HBX.out) (by simp [Value.oneCell']) (by have := HMZ.out; omega) (by unfold maxLen; have := HMZ.out; omega) ?_))
          intro a2 c2 w3 h3
          have H3 := Lib.hid h3
          clear h3 HAL HBX
          go_wp2
          go_roundw
          case rel =>
            have hk3 := HK.out
            refine ⟨k + 1, m + 1, c2, a2, fs ++ [fx], rfl, by go_num, by omega, by omega, Lib.hid ⟨?_, by rw [List.length_append, ← HL.out.2.1]; rfl, ?_⟩⟩
            · rw [List.take_add_one, List.getElem?_eq_getElem hk3.2.2, ← HX.out.1]
              show _ = filsP (xs.take k ++ [x])
              rw [filsP_snoc, if_pos HK0.out, HL.out.1, HX.out.2.2]
            · have h9 := H3.out
              rw [show fs.map PA.iv ++ [Value.int .i64 fx] = (fs ++ [fx]).map PA.iv by simp [PA.iv]] at h9
              exact h9
          case measure => simp [intOf]; have := HK.out; omega
        | false =>
          have hk0 : ¬ x.k = 0 := by rw [← HX.out.2.1]; simpa using ht
          have HK0 := Lib.hid hk0
          clear hk0 ht
          go_wp2
          go_roundw
          case rel =>
            have hk3 := HK.out
            refine ⟨k + 1, m, d, b, fs, rfl, by go_num, by omega, by omega, Lib.hid ⟨?_, HL.out.2.1, HB.out⟩⟩
            rw [List.take_add_one, List.getElem?_eq_getElem hk3.2.2, ← HX.out.1]
            show _ = filsP (xs.take k ++ [x])
            rw [filsP_snoc, if_neg HK0.out, HL.out.1, List.append_nil]
          case measure => simp [intOf]; have := HK.out; omega
      · have hltz : ¬ (k : Int) < (n : Int) := by omega
        have hkn2 : k = n := by omega
        have HKN := Lib.hid hkn2
        clear hkn2 hlt hkn hmk
        go_wp2
        go_meet
        case rel => exact ⟨b, m, d, fs, rfl, Lib.hid ⟨by rw [HL.out.1, HKN.out, HN.out, List.take_length], HL.out.2.1, HL.out.2.2⟩⟩
  case rest =>
   as_aux_lemma =>
    obtain ⟨b, m, d, fs, rfl, HL⟩ := hcut
    obtain ⟨hfs, hm, hS⟩ := HL.out
    subst hm
    have hlen : fs.length ≤ 1000 := by rw [hfs]; have := filsP_le xs; have := H40.out; omega
    have hso := sortI_spec b d fs (by omega) hS
    have hperm : (sortZ fs).Perm fs := by unfold sortZ; exact List.mergeSort_perm _ _
    have hnd : (sortZ fs).Nodup := hperm.nodup_iff.2 (by rw [hfs]; exact HND.out)
    have hl2 : (sortZ fs).length = fs.length := hperm.length_eq
    obtain ⟨ys, hys⟩ : ∃ ys, ys = sortZ fs := ⟨_, rfl⟩
    rw [← hys] at hso hperm hnd hl2
    obtain ⟨m, hm⟩ : ∃ m, m = fs.length := ⟨_, rfl⟩
    rw [← hm] at hso hl2 hlen ⊢
    have HSO := Lib.hid hso
    have HCP := Lib.hid (fun w' (h' : Sat W w' (sep (osl 3 1 b m d (ys.map PA.iv)) (sep (kn I) A))) => compact_ok b m d ys hl2 (by omega) (fun i u v h1 h2 => by
      obtain ⟨l1, rfl⟩ := List.getElem?_eq_some_iff.1 h1
      obtain ⟨l2, rfl⟩ := List.getElem?_eq_some_iff.1 h2
      exact fun e => by have := (List.getElem_inj hnd).1 e; omega) h')
    have HP := Lib.hid (And.intro (hperm.trans (by rw [hfs])) hl2)
    clear hfs hS hlen hso hperm hnd hl2 hys hm HL
    go_wp2_with fail
    refine HSO.out.mono ?_
    rintro e w2 ⟨rfl, h2⟩
    have H2 := Lib.hid h2
    clear h2 HSO
    go_wp2_with fail
    refine (HCP.out _ H2.out).mono ?_
    rintro e w3 ⟨rfl, h3⟩
    go_wp2
    go_ret
    exact ⟨b, d, ys, by rw [HP.out.2]; rfl, HP.out.1, by rw [HP.out.2]; exact h3⟩
end Go.Proofs.YtfapiopnjllnnaaGreatDoor
