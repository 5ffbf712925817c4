/- Package title: Owners (no error). -/
import Derived.Test.YtfapiopnjllnnaaGreatDoorGTitleChain35
namespace Go.Proofs.YtfapiopnjllnnaaGreatDoor
open Go.RowKit PA
theorem infoTOwner : (Tryz.prog.info? 46).map (fun i => (i.zero, i.size, i.bytes)) = some (some (.agg #[.int .i64 0, .int .i64 0, .int .i64 0]), 3, 24) := by kernel_rfl
def finT (file day : Int) (f : Ac) (xs : List Ac) : Shs := (walkT file f.d day (fun (s : Unit) _ _ _ => s) 0 (sortK xs) (first1 f.p) ()).1
set_option maxRecDepth 100000 in
set_option maxHeartbeats 4000000 in
theorem owners_ok {W w : World} {A : Assn} {I : Mem} (file day : Int) (f : Ac) (b : Addr) (n c : Nat) (xs : List Ac) (hn : xs.length = n) (h0 : 0 < n) (h40 : n < 40) (hD : xs.Pairwise KeyNe) (hfine : ActsFine xs) (hw : Swf (some b) n c) (hc : cellsAt (some b) (acs xs) I)
    (hf : filedT file (sortK xs) = some f) (hr : titleErr file day (sortK xs) = 0) (hsup : ∀ k, (finT file day f xs k).isSome = true → 0 ≤ k ∧ k < (10001 : Nat)) (h : Sat W w (sep (kn I) A)) :
    Calls Tryz.prog 16 #[.int .i64 file, .int .i64 day, .slice (some b) n c] w fun e w' => ∃ own a c' J, e = .returned (.tuple #[.slice a own.length c', .int .i64 0]) ∧ OwnOf (finT file day f xs) own ∧ Mem.le I J ∧ Sat W w' (sep (osl 46 3 a own.length c' (ownC own)) (sep (kn J) A)) := by
  have hwk := Lib.hid (walkNil_spec file day f b n c xs hn h0 h40 hD hfine hw hc hf hr h)
  obtain ⟨S, hS⟩ : ∃ S, S = finT file day f xs := ⟨_, rfl⟩
  rw [show (walkT file f.d day (fun (s : Unit) _ _ _ => s) 0 (sortK xs) (first1 f.p) ()).1 = S from hS.symm] at hwk
  rw [← hS] at hsup ⊢
  have HSUP := Lib.hid hsup
  clear hn h0 h40 hD hfine hw hc hf hr hsup h hS
  go_enter Tryz.func16, Tryz.ntmps16
  go_wp2_with fail
  refine hwk.out.mono ?_
  rintro e w2 ⟨p, J, rfl, hle, h2⟩
  obtain ⟨m, nf, h3⟩ := isT_open h2
  have hb := bmap_bound (N := 10001) h3.p1 (fun k hk => HSUP.out k (by unfold shV at hk; simpa using hk))
  have cp : w2.cell? ⟨p, 1, none⟩ = some (.map (some m)) := h3.cell 1
  have hks := Lib.hid (tkeys_spec m (shV S) nf (by omega) h3.p1)
  have HLE := Lib.hid hle
  clear hwk h2 h3 hle
  go_wp2_with fail
  refine hks.out.mono ?_
  rintro e w3 ⟨ak, ck, ks, rfl, hko, hkl, h4⟩
  clear cp hks
  have hsw := h4.swf_of_osl
  obtain ⟨nk, hnk⟩ : ∃ nk, nk = ks.length := ⟨_, rfl⟩
  rw [← hnk] at h4 ⊢
  have HKO := Lib.hid hko
  have HNK := Lib.hid hnk
  have H4 := Lib.hid h4
  have hnk1 : nk ≤ 10001 := by omega
  clear hko hkl h4 hnk hsw
  go_wp2
  go_loopw [30, 10] (fun kv ov wr => ∃ (k : Nat) (a : Option Addr) (n1 c1 : Nat) (vs : List Value), kv = .int .i64 k ∧ k ≤ nk ∧ ov = .slice a n1 c1 ∧ n1 ≤ k ∧ Hid (n1 = (ownsP S (ks.take k)).length ∧ vs = ownC (ownsP S (ks.take k))) ∧ Sat W wr (sep (osl 46 3 a n1 c1 vs) (sep (osl 3 1 ak nk ck (ks.map iv)) (sep (bmap m (shV S) nf) (sep (blk p (.cells #[.int .i64 f.p, .map (some m)] 90 (0, 0))) (sep (kn J) A)))))) (fun kv _ _ => nk - (intOf kv).toNat)
  case atStart => exact ⟨0, none, 0, 0, [], rfl, by omega, rfl, by omega, Lib.hid ⟨rfl, rfl⟩, H4.out.osl_nil _ _⟩
  case round =>
    obtain ⟨k, a, n1, c1, vs, rfl, hk, rfl, hn1, HV, hS⟩ := hrel
    by_cases hlt : k < nk
    · have hltz : (k : Int) < (nk : Int) := by omega
      have hkl : k < ks.length := by rw [← HNK.out]; exact hlt
      obtain ⟨x, hx⟩ : ∃ x, x = ks[k] := ⟨_, rfl⟩
      obtain ⟨gk, rfl, hcell⟩ := hS.p1.osl_at (fun e => by have := congrArg List.length e; simp at this; rw [this] at hkl; simp at hkl)
      have ck0 := hcell k (iv x) (by rw [List.getElem?_map, List.getElem?_eq_getElem hkl, hx]; rfl)
      unfold iv at ck0
      have hsome : (S x).isSome = true := by
        have := (HKO.out.2 x).1 (by rw [hx]; exact List.getElem_mem hkl)
        unfold shV at this; simpa using this
      obtain ⟨⟨rn, rd⟩, hsx⟩ := Option.isSome_iff_exists.1 hsome
      have hlk := run_lookup_bmap (P := Tryz.prog) (T := 88) Tryz.underlying88 Tryz.underlying3 zeroRatio hS.p2 x false
      have hval : shV S x = some (.agg #[.int .i64 rn, .int .i64 rd]) := by unfold shV; rw [hsx]; rfl
      rw [hval] at hlk
      have hlk2 : (Instr.lookup 88 (.map (some m)) (.int .i64 x) false).run Tryz.prog wr = .ok (.agg #[.int .i64 rn, .int .i64 rd]) wr := hlk
      have cp : wr.cell? ⟨p, 1, none⟩ = some (.map (some m)) := hS.p3.cell 1
      have htk : ks.take (k + 1) = ks.take k ++ [x] := by rw [List.take_succ_eq_append_getElem hkl, hx]
      have howns : ownsP S (ks.take (k + 1)) = ownsP S (ks.take k) ++ (if 0 < rn then [(x, ⟨rn, rd⟩)] else []) := by
        rw [htk]
        unfold ownsP
        rw [List.filterMap_append]
        congr 1
        simp only [List.filterMap_cons, hsx, List.filterMap_nil]
        split <;> simp_all
      have h2 := hS.alloc (.cells #[.int .i64 rn, .int .i64 rd] 44)
      obtain ⟨d0, d1, -, -⟩ := rt2 h2
      have hk65 : (k : Int) ≤ 10001 := by omega
      have HOW := Lib.hid howns
      have HS := Lib.hid h2
      clear hcell hsome hsx hlk hval htk howns hS h2 hx
      by_cases hp : 0 < rn
      · go_upto_region 10 with (fail)
        clear hlk2 ck0 cp
        have hB : Sat W (wr.alloc (.cells #[.int .i64 rn, .int .i64 rd] 44)) (sep (osl 46 3 a n1 c1 vs) (sep (osl 3 1 (some ⟨gk, 0, none⟩) nk ck (ks.map iv)) (sep (bmap m (shV S) nf) (sep (blk p (.cells #[.int .i64 f.p, .map (some m)] 90 (0, 0))) (sep (kn J) A))))) := HS.out.forget
        obtain ⟨wz, hwz⟩ : ∃ wz, wz = wr.alloc (.cells #[.int .i64 rn, .int .i64 rd] 44) := ⟨_, rfl⟩
        obtain ⟨gz, hgz⟩ : ∃ gz, gz = wr.heap.size := ⟨_, rfl⟩
        rw [← hwz, ← hgz] at d0 d1
        rw [← hwz] at hB
        rw [← hwz, ← hgz]
        have hB2 := hB.alloc0 (.cells #[.int .i64 x, .int .i64 rn, .int .i64 rd] 46)
        have hsrc := new_src wz [.int .i64 x, .int .i64 rn, .int .i64 rd] 46
        have HSRC := Lib.hid hsrc
        clear hwz hgz hB HS hsrc
        go_wp2_with (at_builtin; refine wpl_append_osl rfl _ _ 31 rfl 46 3 24 _ Tryz.underlying31 infoTOwner rfl rfl hB2 rfl [.int .i64 x, .int .i64 rn, .int .i64 rd] rfl (by simp) (by intro b' hb; cases hb; exact HSRC.out) (by simp [Value.oneCell']) (by omega) (by unfold maxLen; omega) ?_)
        intro a2 c2 w4 h5
        have H5 := Lib.hid h5
        clear h5 hB2 HSRC d0 d1
        go_wp2
        go_roundw
        case rel =>
          refine ⟨k + 1, a2, n1 + 1, c2, vs ++ [.int .i64 x, .int .i64 rn, .int .i64 rd], by go_num, by omega, rfl, by omega, Lib.hid ?_, H5.out⟩
          rw [HOW.out, if_pos hp, List.length_append, ← HV.out.1, HV.out.2]
          refine ⟨rfl, ?_⟩
          unfold ownC
          rw [List.flatMap_append]; rfl
        case measure => simp [intOf]; omega
      · go_wp2
        go_roundw
        case rel =>
          refine ⟨k + 1, a, n1, c1, vs, by go_num, by omega, rfl, by omega, Lib.hid ?_, HS.out.forget⟩
          rw [HOW.out, if_neg hp, List.append_nil]
          exact HV.out
        case measure => simp [intOf]; omega
    · obtain rfl : k = nk := by omega
      have HS := Lib.hid hS
      clear hS
      go_wp2
      go_ret2
      have e1 : ks.take k = ks := List.take_of_length_le (by rw [HNK.out]; exact Nat.le_refl _)
      have hv := HV.out
      rw [e1] at hv
      refine ⟨ownsP S ks, a, c1, J, by rw [← hv.1]; rfl, ownsP_of HKO.out.1 (fun z => by rw [HKO.out.2 z]; unfold shV; simp), HLE.out, ?_⟩
      rw [← hv.1, ← hv.2]
      have := HS.out.p1.drop.p1.drop.p1.drop
      simpa only [sep_comm, sep_lcomm, sep_assoc] using this
end Go.Proofs.YtfapiopnjllnnaaGreatDoor
