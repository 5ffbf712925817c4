/- Package title: Owners (no error). -/
import Derived.Test.YtfapiopnjllnnaaGreatDoorGTitleApart24
namespace Go.Proofs.YtfapiopnjllnnaaGreatDoor
open Go.RowKit PA
theorem infoTOwner : (Tryz.prog.info? 46).map (fun i => (i.zero, i.size, i.bytes)) = some (some (.agg #[.int .i64 0, .int .i64 0, .int .i64 0]), 3, 24) := by kernel_rfl
def finT (file day : Int) (f : Ac) (xs : List Ac) : Shs := (walkT file f.d day (fun (s : Unit) _ _ _ => s) 0 (sortK xs) (first1 f.p) ()).1
set_option maxRecDepth 100000 in
set_option maxHeartbeats 4000000 in
theorem owners_ok {W w : World} {A : Assn} {I : Mem} (file day : Int) (f : Ac) (b : Addr) (n c : Nat) (xs : List Ac) (hn : xs.length = n) (h0 : 0 < n) (h40 : n < 40) (hD : xs.Pairwise KeyNe) (hfine : ActsFine xs) (hw : Swf (some b) n c) (hc : cellsAt (some b) (acs xs) I)
    (hf : filedT file (sortK xs) = some f) (hr : titleErr file day (sortK xs) = 0) (hsup : ∀ k, (finT file day f xs k).isSome = true → 0 ≤ k ∧ k < (10001 : Nat)) (h : Sat W w (sep (kn I) A)) :
    Calls Tryz.prog 16 #[.int .i64 file, .int .i64 day, .slice (some b) n c] w fun e w' => ∃ own a c' J, e = .returned (.tuple #[.slice a own.length c', .int .i64 0]) ∧ OwnOf (finT file day f xs) own ∧ Mem.le I J ∧ Sat W w' (sep (osl 46 3 a own.length c' (ownC own)) (sep (kn J) A)) := by
  have hwk := Lib.hid (walkNil_spec file day f b n c xs hn h0 h40 hD hfine hw hc hf hr h)
  obtain ⟨S, hS⟩ : ∃ S, S = finT file day f xs := ⟨_, rfl⟩
  rw [show (walkT file f.d day (fun (s : Unit) _ _ _ => s) 0 (sortK xs) (first1 f.p) ()).1 = S from hS.symm] at hwk
  rw [← hS] at hsup ⊢
  have HSUP := Lib.hid hsup
  clear hn h0 h40 hD hfine hw hc hf hr hsup h hS
  go_enter Tryz.func16, Tryz.ntmps16
  go_wp2_with fail
  refine hwk.out.mono ?_
  rintro e w2 ⟨p, J, rfl, hle, h2⟩
  obtain ⟨m, nf, h3⟩ := isT_open h2
  have hb := bmap_bound (N := 10001) h3.p1 (fun k hk => HSUP.out k (by unfold shV at hk; simpa using hk))
  have cp : w2.cell? ⟨p, 1, none⟩ = some (.map (some m)) := h3.cell 1
  have hks := Lib.hid (tkeys_spec m (shV S) nf (by omega) h3.p1)
  have HLE := Lib.hid hle
  clear hwk h2 h3 hle
  go_wp2_with fail
  refine hks.out.mono ?_
  rintro e w3 ⟨ak, ck, ks, rfl, hko, hkl, h4⟩
  clear cp hks
  have hsw := h4.swf_of_osl
  obtain ⟨nk, hnk⟩ : ∃ nk, nk = ks.length := ⟨_, rfl⟩
  rw [← hnk] at h4 ⊢
  have HKO := Lib.hid hko
  have HNK := Lib.hid hnk
  have H4 := Lib.hid h4
  have hnk1 : nk ≤ 10001 := by omega
  clear hko hkl h4 hnk hsw
  go_wp2
  go_loopw [30, 10] (fun kv ov wr => ∃ (k : Nat) (a : Option Addr) (n1 c1 : Nat) (vs : List Value), kv = .int .i64 k ∧ k ≤ nk ∧ ov = .slice a n1 c1 ∧ n1 ≤ k ∧ Hid (n1 = (ownsP S (ks.take k)).length ∧ vs = ownC (ownsP S (ks.take k))) ∧ Sat W wr (sep (osl 46 3 a n1 c1 vs) (sep (osl 3 1 ak nk ck (ks.map iv)) (sep (bmap m (shV S) nf) (sep (blk p (.cells #[.int .i64 f.p, .map (some m)] 90 (0, 0))) (sep (kn J) A)))))) (fun kv _ _ => nk - (intOf kv).toNat)
  case atStart => exact ⟨0, none, 0, 0, [], rfl, by omega, rfl, by omega, Lib.hid ⟨rfl, rfl⟩, H4.out.osl_nil _ _⟩
  case round =>
    obtain ⟨k, a, n1, c1, vs, rfl, hk, rfl, hn1, HV, hS⟩ := hrel
    by_cases hlt : k < nk
    · have hltz : (k : Int) < (nk : Int) := by omega
      have hkl : k < ks.length := by rw [← HNK.out]; exact hlt
      obtain ⟨x, hx⟩ : ∃ x, x = ks[k] := ⟨_, rfl⟩
      obtain ⟨gk, rfl, hcell⟩ := hS.p1.osl_at (fun e => by have := congrArg List.length e; simp at this; rw [this] at hkl; simp at hkl)
      have ck0 := hcell k (iv x) (by rw [List.getElem?_map, List.getElem?_eq_getElem hkl, hx]; rfl)
      unfold iv at ck0
      have hsome : (S x).isSome = true := by
        have := (HKO.out.2 x).1 (by rw [hx]; exact List.getElem_mem hkl)
        unfold shV at this; simpa using this
      obtain ⟨⟨rn, rd⟩, hsx⟩ := Option.isSome_iff_exists.1 hsome
      have hlk := run_lookup_bmap (P := Tryz.prog) (T := 88) Tryz.underlying88 Tryz.underlying3 zeroRatio hS.p2 x false
      have hval : shV S x = some (.agg #[.int .i64 rn, .int .i64 rd]) := by unfold shV; rw [hsx]; rfl
      rw [hval] at hlk
      have hlk2 : (Instr.lookup 88 (.map (some m)) (.int .i64 x) false).run Tryz.prog wr = .ok (.agg #[.int .i64 rn, .int .i64 rd]) wr := hlk
      have cp : wr.cell? ⟨p, 1, none⟩ = some (.map (some m)) := hS.p3.cell 1
      have htk : ks.take (k + 1) = ks.take k ++ [x] := by rw [List.take_succ_eq_append_getElem hkl, hx]
      have howns : ownsP S (ks.take (k + 1)) = ownsP S (ks.take k) ++ (if 0 < rn then [(x, ⟨rn, rd⟩)] else []) := by
        rw [htk]
        unfold ownsP
        rw [List.filterMap_append]
        congr 1
        simp only [List.filterMap_cons, hsx, List.filterMap_nil]
        split <;> simp_all
      have h2 := hS.alloc (.cells #[.int .i64 rn, .int .i64 rd] 44)
      obtain ⟨d0, d1, -, -⟩ := rt2 h2
      have hk65 : (k : Int) ≤ 10001 := by omega
      have HOW := Lib.hid howns
      have HS := Lib.hid h2
      clear hcell hsome hsx hlk hval htk howns hS h2 hx
      by_cases hp : 0 < rn
      · go_upto_region 10 with (fail)
        clear hlk2 ck0 cp
        have hB : Sat W (wr.alloc (.cells #[.int .i64 rn, .int .i64 rd] 44)) (sep (osl 46 3 a n1 c1 vs) (sep (osl 3 1 (some ⟨gk, 0, none⟩) nk ck (ks.map iv)) (sep (bmap m (shV S) nf) (sep (blk p (.cells #[.int .i64 f.p, .map (some m)] 90 (0, 0))) (sep (kn J) A))))) := HS.out.forget
        obtain ⟨wz, hwz⟩ : ∃ wz, wz = wr.alloc (.cells #[.int .i64 rn, .int .i64 rd] 44) := ⟨_, rfl⟩
        obtain ⟨gz, hgz⟩ : ∃ gz, gz = wr.heap.size := ⟨_, rfl⟩
        rw [← hwz, ← hgz] at d0 d1
        rw [← hwz] at hB
        rw [← hwz, ← hgz]
        have hB2 := hB.alloc0 (.cells #[.int .i64 x, .int .i64 rn, .int .i64 rd] 46)
        have hsrc := new_src wz [.int .i64 x, .int .i64 rn, .int .i64 rd] 46
        have HSRC := Lib.hid hsrc
        clear hwz hgz hB HS hsrc
        go_wp2_with (at_builtin; refine wpl_append_osl rfl _ _ 31 rfl 46 3 24 _ Tryz.underlying31 infoTOwner rfl rfl hB2 rfl [.int .i64 x, .int .i64 rn, .int .i64 rd] rfl (by simp) (by intro b' hb; cases hb; exact HSRC.out) (by simp [Value.oneCell']) (by omega) (by unfold maxLen; omega) ?_)
        intro a2 c2 w4 h5
        have H5 := Lib.hid h5
        clear h5 hB2 HSRC d0 d1
        go_wp2
        go_roundw
        case rel =>
          refine ⟨k + 1, a2, n1 + 1, c2, vs ++ [.int .i64 x, .int .i64 rn, .int .i64 rd], by go_num, by omega, rfl, by omega, Lib.hid ?_, H5.out⟩
          rw [HOW.out, if_pos hp, List.length_append, ← HV.out.1, HV.out.2]
          refine ⟨rfl, ?_⟩
          unfold ownC
          rw [List.flatMap_append]; rfl
        case measure => simp [intOf]; omega
      · go_wp2
        go_roundw
        case rel =>
          refine ⟨k + 1, a, n1, c1, vs, by go_num, by omega, rfl, by omega, Lib.hid ?_, HS.out.forget⟩
          rw [HOW.out, if_neg hp, List.append_nil]
          exact HV.out
        case measure => simp [intOf]; omega
    · obtain rfl : k = nk := by omega
      have HS := Lib.hid hS
      clear hS
      go_wp2
      go_ret2
      have e1 : ks.take k = ks := List.take_of_length_le (by rw [HNK.out]; exact Nat.le_refl _)
      have hv := HV.out
      rw [e1] at hv
      refine ⟨ownsP S ks, a, c1, J, by rw [← hv.1]; rfl, ownsP_of HKO.out.1 (fun z => by rw [HKO.out.2 z]; unfold shV; simp), HLE.out, ?_⟩
      rw [← hv.1, ← hv.2]
      have := HS.out.p1.drop.p1.drop.p1.drop
      simpa only [sep_comm, sep_lcomm, sep_assoc] using this
end Go.Proofs.YtfapiopnjllnnaaGreatDoor
/- Package title: Failed (no error), its closure. -/
namespace Go.Proofs.YtfapiopnjllnnaaGreatDoor
open Go.RowKit PA
theorem infoIntT : (Tryz.prog.info? 3).map (fun i => (i.zero, i.size, i.bytes)) = some (some (.int .i64 0), 1, 8) := by kernel_rfl
/-- The transfers without effect, told one by one. -/
def evF (s : List Int) (i : Nat) (x : Ac) (dn : Bool) : List Int := if x.k = 16 ∧ dn = false then s ++ [(i : Int)] else s
/-- A captured slice of numbers. -/
def capI (V : Nat) (s : List Int) : Assn := ex fun ac : Option Addr × Nat => sep (blk V (.cells #[.slice ac.1 s.length ac.2] 22 (0, 0))) (osl 3 1 ac.1 s.length ac.2 (s.map iv))
theorem capI_open {W w : World} {A : Assn} {V : Nat} {s : List Int} (h : Sat W w (sep (capI V s) A)) : ∃ a c, Sat W w (sep (blk V (.cells #[.slice a s.length c] 22 (0, 0))) (sep (osl 3 1 a s.length c (s.map iv)) A)) := by
  rw [capI, ex_sep, Sat.ex] at h
  obtain ⟨⟨a, c⟩, h⟩ := h
  rw [sep_assoc] at h
  exact ⟨a, c, h⟩
theorem capI_mk {W w : World} {A : Assn} {V : Nat} {s : List Int} {a : Option Addr} {c : Nat} (h : Sat W w (sep (blk V (.cells #[.slice a s.length c] 22 (0, 0))) (sep (osl 3 1 a s.length c (s.map iv)) A))) : Sat W w (sep (capI V s) A) := by
  rw [capI, ex_sep, Sat.ex]
  exact ⟨(a, c), by rw [sep_assoc]; exact h⟩
theorem evF_len {s : List Int} {i : Nat} {x : Ac} {dn : Bool} (h : s.length ≤ i) : (evF s i x dn).length ≤ i + 1 := by
  unfold evF
  split
  · rw [List.length_append, List.length_singleton]; omega
  · omega
set_option maxHeartbeats 1000000 in
theorem failed1_spec {W w : World} {B : Assn} (V : Nat) (s : List Int) (i : Nat) (x : Ac) (dn : Bool) (pt : Value) (hi : i < 40) (hs : s.length ≤ i) (h : Sat W w (sep (capI V s) B)) :
    Calls Tryz.prog 34 #[pt, .int .i64 i, .agg x.cells.toArray, .bool dn, .pointer (some ⟨V, 0, none⟩)] w fun e w' => e = .returned (.tuple #[]) ∧ Sat W w' (sep (capI V (evF s i x dn)) B) := by
  obtain ⟨a, c, h0⟩ := capI_open h
  have h1 := h0.alloc0 (.cells x.cells.toArray 57)
  obtain ⟨w1, hw1⟩ : ∃ w1, w1 = w.alloc (.cells x.cells.toArray 57) := ⟨_, rfl⟩
  have b0 : (w.alloc (.cells x.cells.toArray 57)).cell? ⟨w.heap.size, 0, none⟩ = some (.int .i64 x.k) := act_box w x 0
  obtain ⟨Bx, hBx⟩ : ∃ Bx, Bx = w.heap.size := ⟨_, rfl⟩
  rw [← hw1, ← hBx] at b0
  rw [← hw1] at h1
  obtain ⟨n, hn⟩ : ∃ n, n = s.length := ⟨_, rfl⟩
  rw [← hn] at h1
  have H1 := Lib.hid h1
  have HW1 := Lib.hid hw1
  have HBX := Lib.hid hBx
  have HN := Lib.hid hn
  have hn40 : n ≤ 40 := by omega
  clear h h0 h1 hw1 hBx hn hs
  by_cases hc : x.k = 16 ∧ dn = false
  · obtain ⟨hk, rfl⟩ := hc
    have bz : (x.k == 16) = true := by simp [hk]
    have HE : Hid (evF s i x false = s ++ [(i : Int)]) := Lib.hid (by unfold evF; rw [if_pos ⟨hk, rfl⟩])
    have v0 : w1.cell? ⟨V, 0, none⟩ = some (.slice a n c) := H1.out.cell 0
    obtain ⟨w2, hw2⟩ : ∃ w2, w2 = w1.alloc (.cells #[.int .i64 i] 3) := ⟨_, rfl⟩
    have hB : Sat W w2 (sep (osl 3 1 a n c (s.map iv)) (sep (blk V (.cells #[.slice a n c] 22 (0, 0))) B)) := by rw [hw2]; exact (H1.out.alloc0 _).p1
    have hsrc := new_src w1 [.int .i64 i] 3
    have HSRC := Lib.hid hsrc
    rw [hw2] at hB
    clear hk hsrc hw2
    go_enter Tryz.func34, Tryz.ntmps34
    go_upto_region 1 with (fail)
    rw [← HBX.out, ← HW1.out]
    go_wp2_with (at_builtin; refine wpl_append_osl rfl _ _ 22 rfl 3 1 8 _ Tryz.underlying22 infoIntT rfl rfl hB rfl [.int .i64 i] rfl (by simp) (by intro b' hb; cases hb; exact HSRC.out) (by simp [Value.oneCell']) (by omega) (by unfold maxLen; omega) ?_)
    intro a2 c2 w4 h5
    have h6 := h5.p1
    have u0 := h6.unfrozen 0
    have v1 : w4.cell? ⟨V, 0, none⟩ = some (.slice a n c) := h6.cell 0
    have H7 := Lib.hid (h6.setCell 0 (.slice a2 (n + 1) c2))
    clear h5 h6 hB
    go_wp2
    go_end0
    refine ⟨rfl, ?_⟩
    rw [HE.out]
    have hl : (s ++ [(i : Int)]).length = n + 1 := by rw [List.length_append, ← HN.out]; rfl
    refine capI_mk (a := a2) (c := c2) ?_
    rw [hl, List.map_append]
    exact H7.out
  · have HE : Hid (evF s i x dn = s) := Lib.hid (by unfold evF; rw [if_neg hc])
    have HFIN : Hid (Sat W w1 (sep (capI V s) B)) := Lib.hid (capI_mk (a := a) (c := c) (by rw [← HN.out]; exact H1.out))
    by_cases hk : x.k = 16
    · have bz : (x.k == 16) = true := by simp [hk]
      have hdn : dn = true := by cases dn <;> simp_all
      subst hdn
      clear hc hk
      go_enter Tryz.func34, Tryz.ntmps34
      go_upto_region 1 with (fail)
      rw [← HBX.out, ← HW1.out]
      go_wp2
      go_end0
      exact ⟨rfl, by rw [HE.out]; exact HFIN.out⟩
    · have bz : (x.k == 16) = false := by simp [hk]
      clear hc hk
      go_enter Tryz.func34, Tryz.ntmps34
      go_upto_region 1 with (fail)
      rw [← HBX.out, ← HW1.out]
      go_wp2
      go_end0
      exact ⟨rfl, by rw [HE.out]; exact HFIN.out⟩
/-- The indices of the transfers that fail. -/
def failT (file : Int) (f : Ac) (xs : List Ac) : List Int := (walkT file f.d 131072 evF 0 (sortK xs) (first1 f.p) []).2
set_option maxRecDepth 100000 in
set_option maxHeartbeats 2000000 in
theorem failed_ok {W w : World} {A : Assn} {I : Mem} (file : Int) (f : Ac) (b : Addr) (n c : Nat) (xs : List Ac) (hn : xs.length = n) (h0 : 0 < n) (h40 : n < 40) (hD : xs.Pairwise KeyNe) (hfine : ActsFine xs) (hw : Swf (some b) n c) (hc : cellsAt (some b) (acs xs) I)
    (hf : filedT file (sortK xs) = some f) (hr : titleErr file 131072 (sortK xs) = 0) (h : Sat W w (sep (kn I) A)) :
    Calls Tryz.prog 13 #[.int .i64 file, .slice (some b) n c] w fun e w' => ∃ a c' J, e = .returned (.tuple #[.slice a (failT file f xs).length c', .int .i64 0]) ∧ Mem.le I J ∧ Sat W w' (sep (osl 3 1 a (failT file f xs).length c' ((failT file f xs).map iv)) (sep (kn J) A)) := by
  have hmf : ∀ (fn : Fn) (first cap : Array Value) (w : World), (Instr.makeFunc fn first cap).run Tryz.prog w = .ok (.func fn first cap) w := fun _ _ _ _ => rfl
  have eg : ∀ args w, (callFunc 34 args).run Tryz.prog w = .ok (.enter 34 args) w := enters_of Tryz.func34 (by kernel_rfl) rfl
  have h1 : Sat W (w.alloc (.cells #[.slice none 0 0] 22)) (sep (capI w.heap.size []) (sep (kn I) A)) := capI_mk (a := none) (c := 0) ((h.osl_nil 3 1).alloc (.cells #[.slice none 0 0] 22))
  obtain ⟨V, hV⟩ : ∃ V, V = w.heap.size := ⟨_, rfl⟩
  obtain ⟨w1, hw1⟩ : ∃ w1, w1 = w.alloc (.cells #[.slice none 0 0] 22) := ⟨_, rfl⟩
  rw [← hw1, ← hV] at h1
  have hwk := Lib.hid (walkFn_spec (fun s => capI V s) evF [] 34 #[.pointer (some ⟨V, 0, none⟩)] eg (fun k s => s.length ≤ k) (Nat.zero_le _) (fun k s x dn hk => evF_len hk) (fun k s hk => by omega)
    (fun s i x dn pt w B q1 q2 q3 => failed1_spec V s i x dn pt q1 q2 q3) file 131072 f b n c xs hn h0 h40 hD hfine hw hc hf hr h1.p1)
  obtain ⟨R, hR⟩ : ∃ R, R = failT file f xs := ⟨_, rfl⟩
  rw [show (walkT file f.d 131072 evF 0 (sortK xs) (first1 f.p) []).2 = R from hR.symm] at hwk
  rw [← hR]
  have HV := Lib.hid hV
  have HW1 := Lib.hid hw1
  clear hn h0 h40 hD hfine hw hc hf hr h h1 hV hw1 hR eg
  go_enter Tryz.func13, Tryz.ntmps13
  go_upto_region 2 with (fail)
  rw [← HV.out, ← HW1.out]
  go_wp2_with fail
  refine hwk.out.mono ?_
  rintro e w2 ⟨p, J, rfl, hle, h2⟩
  obtain ⟨a, c', h3⟩ := capI_open (show Sat W w2 (sep (capI V R) (sep (isT p f.p _) (sep (kn J) A))) from h2.p2)
  have v0 : w2.cell? ⟨V, 0, none⟩ = some (.slice a R.length c') := h3.cell 0
  have H3 := Lib.hid h3
  have HLE := Lib.hid hle
  clear hwk h2 h3 hle
  go_wp2
  go_ret2
  refine ⟨a, c', J, rfl, HLE.out, ?_⟩
  have := H3.out.forget.p1.drop
  exact this
end Go.Proofs.YtfapiopnjllnnaaGreatDoor
