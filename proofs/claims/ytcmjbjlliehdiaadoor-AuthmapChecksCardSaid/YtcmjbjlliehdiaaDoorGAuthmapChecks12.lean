/- Package authmap: Delete, Root, Len, Get. -/
import Derived.Test.YtcmjbjlliehdiaaDoorGAuthmapChecks11
import Derived.RangeFuncSeq
import Derived.RangeFuncRecord
import Derived.RangeFuncIn
import Derived.OwnWalkIn
import Derived.Test.YtcmjbjlliehdiaaDoorGAuthmapChecks7
import Derived.Test.YtcmjbjlliehdiaaDoorGAuthmapChecksSReg
import Derived.OrdersIn
import Derived.TacticsIn
import Derived.RangeFuncCalls
namespace Go.Proofs.YtcmjbjlliehdiaaDoor
open Go.RowKit PA
theorem adel_range {W w : World} {A : Assn} (p : Nat) (k : Int) (h : Sat W w A) (hk : k < 0 ∨ 4095 < k) :
    Calls Tryd.prog 15 #[.pointer (some ⟨p, 0, none⟩), .int .i64 k] w fun e w' => e = .returned (.int .i64 5) ∧ Sat W w' A := by
  have hi := aiskey_spec k w
  rw [decide_eq_false (by omega)] at hi
  have HI := Lib.hid hi
  clear hi
  go_enter Tryd.func15, Tryd.ntmps15
  go_wp2_with fail
  refine HI.out.mono ?_
  rintro e w' ⟨rfl, rfl⟩
  go_wp2_with fail
  go_ret
  exact ⟨rfl, h⟩
theorem adel_none {W w : World} {A : Assn} (p : Nat) (M : KVs) (k : Int) (h : Sat W w (sep (isAM p M) A)) (hk : 0 ≤ k ∧ k ≤ 4095) (hm : M k = none) :
    Calls Tryd.prog 15 #[.pointer (some ⟨p, 0, none⟩), .int .i64 k] w fun e w' => e = .returned (.int .i64 7) ∧ Sat W w' (sep (isAM p M) A) := by
  have hi := aiskey_spec k w
  rw [decide_eq_true hk] at hi
  have HI := Lib.hid hi
  obtain ⟨b1, f, b2, n2, h0⟩ := isAM_open h
  have c0 : w.cell? ⟨p, 0, none⟩ = some (.map (some b1)) := h0.cell 0
  have hlk := run_lookup_bmap (P := Tryd.prog) (T := 89) Tryd.underlying89 Tryd.underlying3 zeroBs h0.p1 k true
  rw [h0.p3.pers_heap.1 k hm] at hlk
  have hlk2 : (Instr.lookup 89 (.map (some b1)) (.int .i64 k) true).run Tryd.prog w = .ok (.tuple #[.slice none 0 0, .bool false]) w := hlk
  have H := Lib.hid h
  clear hi h h0 hlk
  go_enter Tryd.func15, Tryd.ntmps15
  go_wp2_with fail
  refine HI.out.mono ?_
  rintro e w' ⟨rfl, rfl⟩
  go_wp2_with fail
  go_ret
  exact ⟨rfl, H.out⟩
set_option maxRecDepth 100000 in
set_option maxHeartbeats 4000000 in
theorem adel_ok {W w : World} {A : Assn} {I : Mem} (hw : WholeOK W) (p : Nat) (M : KVs) (k : Int) (h : Sat W w (sep (isAM p M) (sep (kn I) A))) (hk : 0 ≤ k ∧ k ≤ 4095) (hm : (M k).isSome = true) :
    Calls Tryd.prog 15 #[.pointer (some ⟨p, 0, none⟩), .int .i64 k] w fun e w' => e = .returned (.int .i64 0) ∧ Sat W w' (sep (isAM p (fset M k none)) (sep (kn I) A)) := by
  have hi := aiskey_spec k w
  rw [decide_eq_true hk] at hi
  have HI := Lib.hid hi
  obtain ⟨b1, f, b2, n2, h0⟩ := isAM_open h
  have c0 : w.cell? ⟨p, 0, none⟩ = some (.map (some b1)) := h0.cell 0
  have hlk := run_lookup_bmap (P := Tryd.prog) (T := 89) Tryd.underlying89 Tryd.underlying3 zeroBs h0.p1 k true
  have hfs := h0.p3.pers_heap.isSome k
  rw [hm] at hfs
  rw [hfs] at hlk
  obtain ⟨u, hu⟩ : ∃ u, u = (f k).getD (.slice none 0 0) := ⟨_, rfl⟩
  rw [← hu] at hlk
  have hlk2 : (Instr.lookup 89 (.map (some b1)) (.int .i64 k) true).run Tryd.prog w = .ok (.tuple #[u, .bool true]) w := hlk
  obtain ⟨w2, hrun, h4⟩ := run_delete_bmap (P := Tryd.prog) (T := 89) (ty := 0) (u := 3) Tryd.underlying89 Tryd.underlying3 h0.p1 k hfs
  obtain ⟨M', hM'⟩ : ∃ M', M' = fset M k none := ⟨_, rfl⟩
  rw [← hM']
  have hn2 : nkeys M - 1 = nkeys M' := by
    have := nkeys_del hk.1 hk.2 hm
    rw [hM']; omega
  rw [hn2] at h4
  have h5 := vokA_step (M' := M') (f' := fset f k none) (show Sat W w2 (sep (vokA f M) (sep (kn I) (sep (bmap b1 (fset f k none) (nkeys M')) (sep (blk p (.cells (amC b1 b2) 92 (0, 0))) (sep (gmap bkv b2 (hmF M) n2) A))))) by simpa only [sep_comm, sep_lcomm, sep_assoc] using h4) (fun K hK hvk => by
    rw [hM']; exact hvk.del k)
  have hpt := aput_spec hw p b1 b2 n2 M k none hk.1 hk.2 (show Sat W w2 (sep (blk p (.cells (amC b1 b2) 92 (0, 0))) (sep (gmap bkv b2 (hmF M) n2) (sep (kn I) (sep (vokA (fset f k none) M') (sep (bmap b1 (fset f k none) (nkeys M')) A))))) by simpa only [sep_comm, sep_lcomm, sep_assoc] using h5)
  have e1 : hbN (fset M k none) 0 k = none := by rw [hbN, fset, if_pos rfl, Option.map_none]
  rw [e1, sumV, Option.getD_none, Option.isSome_none, ← hM'] at hpt
  have hpt2 : Calls Tryd.prog 49 #[.pointer (some ⟨p, 0, none⟩), .int .i64 k, .agg #[.int .u64 0, .bool false]] w2 fun e w' => e = .returned (.tuple #[]) ∧ ∃ n2', Sat W w' (sep (blk p (.cells (amC b1 b2) 92 (0, 0))) (sep (gmap bkv b2 (hmF M') n2') (sep (kn I) (sep (vokA (fset f k none) M') (sep (bmap b1 (fset f k none) (nkeys M')) A))))) := hpt
  have HPT := Lib.hid hpt2
  clear hi h h0 hlk hpt hpt2 h4 h5 e1 hn2 hM' hfs hu hm hw
  go_enter Tryd.func15, Tryd.ntmps15
  go_wp2_with fail
  refine HI.out.mono ?_
  rintro e w' ⟨rfl, rfl⟩
  go_wp2_with fail
  refine HPT.out.mono ?_
  rintro e w4 ⟨rfl, n4, h7⟩
  have h8 := isAM_mk (M := M') (p := p) (show Sat W w4 (sep (blk p (.cells (amC b1 b2) 92 (0, 0))) (sep (bmap b1 (fset f k none) (nkeys M')) (sep (gmap bkv b2 (hmF M') n4) (sep (vokA (fset f k none) M') (sep (kn I) A))))) by simpa only [sep_comm, sep_lcomm, sep_assoc] using h7)
  have H9 := Lib.hid h8
  clear HPT h7 h8
  go_wp2_with fail
  go_ret
  exact ⟨rfl, H9.out⟩
def rootN (M : KVs) : Nat := (hbN M 12 0).getD 0
set_option maxHeartbeats 2000000 in
theorem aroot_spec {W w : World} {A : Assn} (hw : WholeOK W) (p : Nat) (M : KVs) (h : Sat W w (sep (isAM p M) A)) :
    Calls Tryd.prog 18 #[.pointer (some ⟨p, 0, none⟩)] w fun e w' => e = .returned (.int .u64 (rootN M : Nat)) ∧ Sat W w' (sep (isAM p M) A) := by
  obtain ⟨wd, hwd⟩ : ∃ wd, wd = w.drew := ⟨_, rfl⟩
  have h1 := h.drew
  rw [← hwd] at h1
  obtain ⟨b1, f, b2, n2, h0⟩ := isAM_open h1
  obtain ⟨q0, q1⟩ := hw.now h0
  have c1 : wd.cell? ⟨p, 1, none⟩ = some (.map (some b2)) := h0.cell 1
  have hlk := run_lookup_gmap (P := Tryd.prog) (T := 90) Tryd.underlying90 blk_key zeroU64 h0.p2 (12, 0) false
  obtain ⟨r, hr⟩ : ∃ r, r = rootN M := ⟨_, rfl⟩
  have e1 : (hmF M (12, 0)).getD (.int .u64 0) = .int .u64 (r : Nat) := by
    rw [hr, hmF, if_pos (Nat.le_refl _), rootN]
    cases hbN M 12 0 <;> rfl
  rw [e1] at hlk
  have hlk2 : (Instr.lookup 90 (.map (some b2)) (.agg #[.int .i64 12, .int .i64 0]) false).run Tryd.prog wd = .ok (.int .u64 (r : Nat)) wd := hlk
  rw [← hr]
  have H := Lib.hid h1
  clear h h0 h1 hlk e1 hr hw
  go_enter Tryd.func18, Tryd.ntmps18
  go_wp2_with fail
  refine wp_region_canon rfl (fun _ => True) [(0, .p), (1, .p), (2, .p), (3, .t), (4, .t), (5, .t), (6, .p)] (by kernel_rfl) ?_
  rw [← hwd]
  clear hwd
  have hS0 : True := trivial
  (repeat ((first | (refine C_p (v := ?_) rfl rfl (fun w' => ?_) ?_; rotate_left; (go_simp; with_reducible rfl)) | (refine C_s (v := ?_) rfl rfl hS0 (fun w' hS => ?_) ?_; rotate_left; ((try dsimp only at hS); go_simp; with_reducible rfl)) | (refine C_t (v := ?_) rfl rfl ?_ ?_; rotate_left; (go_simp; with_reducible rfl)) | (refine C_po rfl rfl ?_) | (refine C_so rfl rfl hS0 ?_) | (refine C_to rfl rfl ?_)); simp only [Act.put, List.setIfInBounds_toArray, List.set_cons_zero, List.set_cons_succ]))
  refine C_nil ?_
  go_wp2_with fail
  go_ret
  exact ⟨rfl, H.out⟩
theorem alen_spec {W w : World} {A : Assn} (p : Nat) (M : KVs) (h : Sat W w (sep (isAM p M) A)) :
    Calls Tryd.prog 19 #[.pointer (some ⟨p, 0, none⟩)] w fun e w' => e = .returned (.int .i64 (nkeys M : Nat)) ∧ Sat W w' (sep (isAM p M) A) := by
  obtain ⟨b1, f, b2, n2, h0⟩ := isAM_open h
  have c0 : w.cell? ⟨p, 0, none⟩ = some (.map (some b1)) := h0.cell 0
  obtain ⟨es, clock, hm1, hm2, -, hm3⟩ := h0.p1.bmap_open
  have hln := run_len_map (P := Tryd.prog) w 89 3 b1 es clock (by kernel_rfl) hm3.blk_heap
  rw [hm2] at hln
  obtain ⟨nk, hnk⟩ : ∃ nk, nk = nkeys M := ⟨_, rfl⟩
  rw [← hnk] at hln
  rw [← hnk]
  have H := Lib.hid h
  clear h h0 hm1 hm2 hm3 hnk
  go_enter Tryd.func19, Tryd.ntmps19
  go_wp2_with fail
  go_ret
  exact ⟨rfl, H.out⟩
set_option maxHeartbeats 2000000 in
theorem aget_spec {W w : World} {A : Assn} (p : Nat) (M : KVs) (k : Int) (h : Sat W w (sep (isAM p M) A)) :
    Calls Tryd.prog 46 #[.pointer (some ⟨p, 0, none⟩), .int .i64 k] w fun e w' => ∃ a c, e = .returned (.tuple #[.slice a ((M k).getD []).length c, .bool (M k).isSome]) ∧ Sat W w' (sep (osl 5 1 a ((M k).getD []).length c (((M k).getD []).map bv)) (sep (isAM p M) A)) := by
  obtain ⟨b1, f, b2, n2, h0⟩ := isAM_open h
  have c0 : w.cell? ⟨p, 0, none⟩ = some (.map (some b1)) := h0.cell 0
  have hlk := run_lookup_bmap (P := Tryd.prog) (T := 89) Tryd.underlying89 Tryd.underlying3 zeroBs h0.p1 k true
  have hvk := h0.p3.pers_heap
  rw [hvk.isSome k] at hlk
  obtain ⟨x, hx⟩ : ∃ x, x = (M k).getD [] := ⟨_, rfl⟩
  rw [← hx]
  have hv0 : ∃ a c, (f k).getD (.slice none 0 0) = .slice a x.length c ∧ x.length ≤ 65536 ∧ rBytes.rel (fun b => w.heap[b]?) [.slice a x.length c] x := by
    cases hm : M k with
    | none =>
      rw [hm] at hx
      subst hx
      rw [hvk.1 k hm]
      exact ⟨none, 0, rfl, by simp, bytes_rel.2 ⟨none, 0, rfl, ⟨Nat.le_refl _, Nat.zero_le _, fun _ => rfl⟩, .inl rfl⟩⟩
    | some y =>
      rw [hm] at hx
      subst hx
      obtain ⟨h1, a, c, e1, hr⟩ := hvk.2 k _ hm
      rw [e1]
      exact ⟨a, c, rfl, h1.2.2, hr⟩
  obtain ⟨a0, c1, e0, hxl, hr⟩ := hv0
  rw [e0] at hlk
  obtain ⟨hr1, hr2, hr3⟩ := rel_src' hr
  have hcl := clone_any a0 x.length c1 (x.map bv) h (hr3 w (fun b o ho => ho)) (by simp) hr2 (bv_one x) (by omega)
  obtain ⟨xl, hxe⟩ : ∃ xl, xl = x.length := ⟨_, rfl⟩
  obtain ⟨sm, hsm⟩ : ∃ sm, sm = (M k).isSome := ⟨_, rfl⟩
  rw [← hxe] at hcl hlk
  rw [← hsm] at hlk
  rw [← hxe, ← hsm]
  have hlk2 : (Instr.lookup 89 (.map (some b1)) (.int .i64 k) true).run Tryd.prog w = .ok (.tuple #[.slice a0 xl c1, .bool sm]) w := hlk
  have HCL := Lib.hid hcl
  clear h h0 hvk hlk hcl e0 hr hr1 hr2 hr3 hxl hx hxe hsm
  go_enter Tryd.func46, Tryd.ntmps46
  go_wp2_with fail
  refine HCL.out.mono ?_
  rintro e w' ⟨a', c', rfl, h1⟩
  go_wp2_with fail
  go_ret2
  exact ⟨a', c', rfl, h1⟩
end Go.Proofs.YtcmjbjlliehdiaaDoor
/- The reference's Key; the law's filled. -/
namespace Go.Proofs.YtcmjbjlliehdiaaDoor
open Go.RowKit PA
def rPairQ : Rep (Int × List UInt8) := ⟨fun I cs x => ∃ a c, cs = [.int .i64 x.1, .slice a x.2.length c] ∧ rBytes.rel I [.slice a x.2.length c] x.2, fun hl ⟨a, c, h1, h2⟩ => ⟨a, c, h1, rBytes.mono hl h2⟩⟩
def keyK (k : Int) : Int := if k % 5 = 0 then k % 9 else if k % 5 = 1 then 4095 - k / 9 % 5 else if k % 5 = 2 then 1000 + k / 9 % 70 else if k % 5 = 3 then k % 4096 else 2046 + k / 9 % 5
def keyQ (n : Int) : Int := keyK (aroundI n 1048576)
theorem keyQ_range (n : Int) : 0 ≤ keyQ n ∧ keyQ n ≤ 4095 := by
  have h := aroundI_lt n 1048576 (by omega)
  unfold keyQ keyK
  generalize aroundI n 1048576 = k at *
  split
  · omega
  · split
    · omega
    · split
      · omega
      · split
        · omega
        · omega
set_option maxHeartbeats 4000000 in
theorem qkey_spec {W w : World} {A : Assn} (n : Int) (hn : -9223372036854775808 ≤ n ∧ n ≤ 9223372036854775807) (h : Sat W w A) :
    Calls Tryd.prog 16 #[.int .i64 n] w fun e w' => e = .returned (.int .i64 (keyQ n)) ∧ Sat W w' A := by
  have har := around_spec n 1048576 w hn.1 hn.2 (by omega) (by omega)
  have hlt := aroundI_lt n 1048576 (by omega)
  unfold keyQ
  obtain ⟨k, hk⟩ : ∃ k : Nat, aroundI n 1048576 = (k : Int) := ⟨(aroundI n 1048576).toNat, by omega⟩
  rw [hk] at har hlt ⊢
  have HA := Lib.hid har
  have hk20 : k < 1048576 := by omega
  have h1 := Lib.hid h
  clear har hlt hk h hn
  have h5 : (k : Int) % 5 = 0 ∨ (k : Int) % 5 = 1 ∨ (k : Int) % 5 = 2 ∨ (k : Int) % 5 = 3 ∨ (k : Int) % 5 = 4 := by omega
  have hw1 : wrap64 ((k : Int) / 9) = (k : Int) / 9 := by unfold wrap64; omega
  unfold keyK
  rcases h5 with h5 | h5 | h5 | h5 | h5
  all_goals
    go_enter Tryd.func16, Tryd.ntmps16
    go_wp2_with fail
    refine HA.out.mono ?_
    rintro e w' ⟨rfl, rfl⟩
    go_wp2_with fail
    go_ret
    refine ⟨?_, h1.out.alloc0 _⟩
    first | rfl | (simp [h5]; done) | (simp [h5]; rfl)
def fillM (M : KVs) (l : List (Int × List UInt8)) : KVs := l.foldl (fun M x => fset M x.1 (some x.2)) M
theorem fillM_snoc (M : KVs) (l : List (Int × List UInt8)) (x : Int × List UInt8) : fillM M (l ++ [x]) = fset (fillM M l) x.1 (some x.2) := by simp [fillM]
theorem pair_at {W w : World} {A : Assn} {I : Mem} {a : Option Addr} {n c : Nat} {l : List (Int × List UInt8)} (h : Sat W w (sep (kn I) A)) (hv : (rPairQ.slice 2).rel I [.slice a n c] l) (i : Nat) (hi : i < l.length) :
    ∃ b o va vc, a = some ⟨b, o, none⟩ ∧ w.cell? ⟨b, o + i * 2, none⟩ = some (.int .i64 l[i].1) ∧ w.cell? ⟨b, o + i * 2 + 1, none⟩ = some (.slice va l[i].2.length vc) ∧ ∃ J, Mem.le I J ∧ rBytes.rel J [.slice va l[i].2.length vc] l[i].2 ∧ Sat W w (sep (kn J) A) := by
  have h1 := h.tell hv (hp := fun _ _ hl => (rPairQ.slice 2).mono hl)
  obtain ⟨b, o, cv, rfl, hcv, hc, h2⟩ := Sat.slice_get (R := rPairQ) h1 i hi (by omega)
  obtain ⟨J, hJ, ⟨va, vc, rfl, hr⟩, h3⟩ := (show Sat W w (sep (rPairQ.is cv l[i]) (sep (kn I) (sep ((rPairQ.slice 2).is [.slice (some ⟨b, o, none⟩) n c] l) A))) by simpa only [sep_comm, sep_lcomm, sep_assoc] using h2).learn
  refine ⟨b, o, va, vc, rfl, hc 0 _ rfl, hc 1 _ rfl, J, hJ, hr, ?_⟩
  have := h3.p1.drop
  simpa only [sep_comm, sep_lcomm, sep_assoc] using this
set_option maxRecDepth 100000 in
set_option maxHeartbeats 8000000 in
theorem filled_spec {W w : World} {A : Assn} {I : Mem} (hw : WholeOK W) (a : Option Addr) (n c : Nat) (l : List (Int × List UInt8)) (h : Sat W w (sep (kn I) A)) (hv : (rPairQ.slice 2).rel I [.slice a n c] l) (hn : n = l.length) (hn9 : n ≤ 1000000)
    (hl : ∀ x ∈ l, (0 ≤ x.1 ∧ x.1 ≤ 4095) ∧ x.2.length ≤ 65536) :
    Calls Tryd.prog 12 #[.slice a n c] w fun e w' => ∃ p, e = .returned (.pointer (some ⟨p, 0, none⟩)) ∧ Sat W w' (sep (isAM p (fillM (fun _ => none) l)) (sep (kn I) A)) := by
  have HNEW := Lib.hid (anew_spec h)
  have HH := Lib.hid (And.intro hw (And.intro hv (And.intro hn hl)))
  have hnI : (n : Int) ≤ 1000000 := by omega
  clear h hw hv hn hl
  go_enter Tryd.func12, Tryd.ntmps12
  go_wp2_with fail
  refine HNEW.out.mono ?_
  rintro e w1 ⟨p, rfl, h1⟩
  clear HNEW
  go_wp2_with fail
  go_loopw [4] (fun iv' wr => ∃ i : Nat, i ≤ n ∧ iv' = .int .i64 (i : Nat) ∧ Sat W wr (sep (isAM p (fillM (fun _ => none) (l.take i))) (sep (kn I) A))) (fun iv' _ => n - (intOf iv').toNat)
  case atStart => exact ⟨0, by omega, rfl, by rw [List.take_zero]; exact h1⟩
  case round =>
    clear h1
    obtain ⟨i, hi, rfl, hS⟩ := hrel
    by_cases hin : i < n
    · have hiL : i < l.length := by rw [← HH.out.2.2.1]; exact hin
      obtain ⟨wd, hwd⟩ : ∃ wd, wd = wr.drew := ⟨_, rfl⟩
      have hd := hS.drew
      rw [← hwd] at hd
      obtain ⟨b, o, va, vc, rfl, g0, g1, J, hJ, hr, h2⟩ := pair_at (show Sat W wd (sep (kn I) (sep (isAM p (fillM (fun _ => none) (l.take i))) A)) by simpa only [sep_comm, sep_lcomm, sep_assoc] using hd) HH.out.2.1 i hiL
      obtain ⟨x, hx⟩ : ∃ x, x = l[i] := ⟨_, rfl⟩
      rw [← hx] at g0 g1 hr
      have hxm : (0 ≤ x.1 ∧ x.1 ≤ 4095) ∧ x.2.length ≤ 65536 := HH.out.2.2.2 x (by rw [hx]; exact List.getElem_mem hiL)
      have hset := aset_ok HH.out.1 p (fillM (fun _ => none) (l.take i)) x.1 (.slice va x.2.length vc) x.2 (show Sat W wd (sep (isAM p (fillM (fun _ => none) (l.take i))) (sep (kn J) A)) by simpa only [sep_comm, sep_lcomm, sep_assoc] using h2) hr hxm.1 hxm.2
      have e1 : fset (fillM (fun _ => none) (l.take i)) x.1 (some x.2) = fillM (fun _ => none) (l.take (i + 1)) := by
        rw [List.take_succ_eq_append_getElem hiL, fillM_snoc, ← hx]
      rw [e1] at hset
      obtain ⟨xk, hxk⟩ : ∃ xk, xk = x.1 := ⟨_, rfl⟩
      obtain ⟨xl, hxl⟩ : ∃ xl, xl = x.2.length := ⟨_, rfl⟩
      rw [← hxk, ← hxl] at hset
      rw [← hxk] at g0
      rw [← hxl] at g1
      have HSET := Lib.hid hset
      have HJ := Lib.hid hJ
      have hinI : (i : Int) < (n : Int) := by omega
      clear hS hd h2 hr hx hxm hset e1 hxk hxl hJ hiL
      go_wp2_with fail
      refine wp_region_canon rfl (fun _ => True) [(0, .p), (1, .p), (2, .p), (3, .p), (4, .p), (5, .t), (6, .p), (7, .p), (8, .p), (9, .p), (10, .t), (11, .e false), (12, .p)] (by kernel_rfl) ?_
      rw [← hwd]
      clear hwd
      have hS0 : True := trivial
      (repeat ((first | (refine C_p (v := ?_) rfl rfl (fun w' => ?_) ?_; rotate_left; (go_simp; with_reducible rfl)) | (refine C_s (v := ?_) rfl rfl hS0 (fun w' hS => ?_) ?_; rotate_left; ((try dsimp only at hS); go_simp; with_reducible rfl)) | (refine C_t (v := ?_) rfl rfl ?_ ?_; rotate_left; (go_simp; with_reducible rfl)) | (refine C_po rfl rfl ?_) | (refine C_so rfl rfl hS0 ?_) | (refine C_to rfl rfl ?_)); simp only [Act.put, List.setIfInBounds_toArray, List.set_cons_zero, List.set_cons_succ]))
      (refine C_e rfl rfl (fun K hK => ?_); go_simp)
      refine HSET.out.mono ?_
      rintro e w2 ⟨rfl, h3⟩
      have H3 := Lib.hid (show Sat W w2 (sep (isAM p (fillM (fun _ => none) (l.take (i + 1)))) (sep (kn I) A)) by
        have := (h3.p1).kn_mono HJ.out
        simpa only [sep_comm, sep_lcomm, sep_assoc] using this)
      clear HSET h3 g0 g1
      (refine hK _ _ (fun h => by cases h) ?_; clear hK K; (try simp only [Act.put, List.setIfInBounds_toArray, List.set_cons_zero, List.set_cons_succ]))
      (repeat ((first | (refine C_p (v := ?_) rfl rfl (fun w' => ?_) ?_; rotate_left; (go_simp; with_reducible rfl)) | (refine C_s (v := ?_) rfl rfl hS0 (fun w' hS => ?_) ?_; rotate_left; ((try dsimp only at hS); go_simp; with_reducible rfl)) | (refine C_t (v := ?_) rfl rfl ?_ ?_; rotate_left; (go_simp; with_reducible rfl)) | (refine C_po rfl rfl ?_) | (refine C_so rfl rfl hS0 ?_) | (refine C_to rfl rfl ?_)); simp only [Act.put, List.setIfInBounds_toArray, List.set_cons_zero, List.set_cons_succ]))
      refine C_nil ?_
      go_wp2_with fail
      go_roundw
      case rel => exact ⟨i + 1, by omega, rfl, H3.out⟩
      case measure => simp only [intOf]; omega
    · obtain rfl : i = n := by omega
      have H := Lib.hid hS
      clear hS
      go_wp2_with fail
      go_ret
      refine ⟨p, rfl, ?_⟩
      have e : l.take i = l := by rw [HH.out.2.2.1]; exact List.take_length
      rw [← e]
      exact H.out
end Go.Proofs.YtcmjbjlliehdiaaDoor
/- A range over a function, said with Sat: what the consumer holds and what the iterator holds are parts of one assertion; the loop's record and its block of deferred calls are owned blocks beside them. Plain Lean, no program in sight. -/
namespace PA
open Go Go.RowKit
theorem Sat.putObj {W w : World} {A : Assn} {l : Nat} {o : Obj} (h : Sat W w (sep (blk l o) A)) (o' : Obj) : Sat W (w.putObj l o') (sep (blk l o') A) :=
  h.change rfl rfl rfl (World.putObj_heap_same h.lt) fun _ hk _ => World.putObj_heap_other hk
section
variable {α : Type} {F : Fence} {P : Program}
/-- The yield of loop l takes x: what the consumer holds grows by x, whatever the iterator holds beside it. -/
def Takes (F : Fence) (n : Nat) (P : Program) (W : World) (l : Nat) (encs : α → Array Value) (Fx : α → Assn) (N : Nat) (R : List α → Assn) : Prop :=
  ∀ (pre : List α) (x : α) (w : World) (B : Assn), pre.length < N → Sat W w (sep (R pre) (sep (Fx x) B)) →
    YieldAt F n P l (encs x) w fun e w' => e = .returned (.bool true) ∧ Sat W w' (sep (R (pre ++ [x])) B)
/-- An iterator that gives all of xs, S xs. -/
def Gives (F : Fence) (n : Nat) (P : Program) (W : World) (gf : Nat) (lb : Array Value) (encs : α → Array Value) (Fx : α → Assn) (N : Nat) (S : List α → Prop) (Pre Post : Assn) : Prop :=
  ∀ (l : Nat) (R : List α → Assn) (w : World), Takes F (n - 1) P W l encs Fx N R → Sat W w (sep (R []) Pre) →
    CallsIn F n P gf (#[.func (.yield l) #[] #[]] ++ lb) w fun e w' => (∃ v, e = .returned v) ∧ ∃ xs, S xs ∧ Sat W w' (sep (R xs) Post)
/-- How a round's body is left. -/
def Round (W : World) (A : Assn) : Exit → Act → World → Prop
  | .normal, _, w => Sat W w A
  | _, _, _ => False
theorem wpIn_range {n : Nat} {W : World} {g : Operand} {ps : Array Tmp} {assign body : Code} {Q : Exit → Act → World → Prop} {a : Act} {w : World}
    (hro : F.round = none) (h1 : 1 ≤ n) {gf : Nat} {lb : Array Value} (hg : a.eval g = .func (.func gf) #[] lb) (hFg : F.fn gf) (eg : ∀ args w, (callFunc gf args).run P w = .ok (.enter gf args) w)
    {encs : α → Array Value} {Fx : α → Assn} {N : Nat} {S : List α → Prop} {Pre Post : Assn} (hps : ∀ x, (encs x).size = ps.size)
    (hseq : Gives F (n - 1) P W gf lb encs Fx N S Pre Post)
    (C : List α → Assn) (h0 : Sat W w (sep (C []) Pre)) (a₁ : α → Act)
    (hassign : ∀ (l : Nat) (x : α) (w' : World) (K : Act → World → Prop), K (a₁ x) w' →
      assign.wpIn (F.inRound l) (n - 1 - 1) P (Exit.then K (fun _ _ _ => False)) { tmps := (ps.zip (encs x)).foldl (fun t (p, v) => t.setIfInBounds p v) a.tmps, defers := [] } w')
    (hbody : ∀ (l : Nat) (pre : List α) (x : α) (w' : World) (B : Assn), pre.length < N → Sat W w' (sep (C pre) (sep (Fx x) B)) →
      body.wpIn (F.inRound l) (n - 1 - 1) P (Round W (sep (C (pre ++ [x])) B)) (a₁ x) w')
    (hdone : ∀ (D : Nat) (xs : List α) (w' : World), S xs → Sat W w' (sep (blk D (.deferred (some []))) (sep (C xs) Post)) →
      Q .normal { a with defers := { target := .collected D, args := #[] } :: a.defers } w') :
    (Code.rangeFunc g ps assign body).wpIn F n P Q a w := by
  refine wpIn_rangeFunc fun fn hfn => ?_
  rw [hro]
  obtain ⟨D, hD⟩ : ∃ D, D = w.heap.size := ⟨_, rfl⟩
  obtain ⟨mk, hmk⟩ : ∃ mk : LoopState → Option Code → Loop, mk = fun st pe => ⟨st, pe, fn, a.tmps, ps, assign, body, D⟩ := ⟨_, rfl⟩
  obtain ⟨w1, hw1⟩ : ∃ w1, w1 = (w.alloc (.deferred (some []))).alloc (.loop (mk .ready none)) := ⟨_, rfl⟩
  have hS1 : Sat W w1 (sep (sep (C []) (sep (blk (D + 1) (.loop (mk .ready none))) (blk D (.deferred (some []))))) Pre) := by
    have h := (h0.alloc (.deferred (some []))).alloc (.loop (mk .ready none))
    rw [World.size_alloc, ← hw1, ← hD] at h
    simpa only [sep_comm, sep_lcomm, sep_assoc] using h
  have henter := run_enterLoop_outer (P := P) (w := w) fn a.tmps ps assign body
  refine ⟨D + 1, [{ target := .collected D, args := #[] }], w1, { target := .fn (.func gf) lb, args := #[.func (.yield (D + 1)) #[] #[]] }, w1, gf, #[.func (.yield (D + 1)) #[] #[]] ++ lb, w1, ?_, ?_, ?_, ?_, fun _ => h1, ?_⟩
  · rw [hw1, hmk, hD]; exact henter
  · simp only [resolve, hg]
    simp [go_sem]
  · intro f' hf'; simp [Target.leads] at hf'; subst hf'; exact hFg
  · simp [invoke, go_sem, eg]
  · refine (hseq (D + 1) (fun pre => sep (C pre) (sep (blk (D + 1) (.loop (mk .ready none))) (blk D (.deferred (some []))))) w1 ?_ hS1).mono ?_
    · intro pre x w2 B hlen hS
      have hl : Sat W w2 (sep (blk (D + 1) (.loop (mk .ready none))) (sep (C pre) (sep (Fx x) (sep B (blk D (.deferred (some []))))))) := by simpa only [sep_comm, sep_lcomm, sep_assoc] using hS
      have hy := run_yield (P := P) (args := encs x) hl.blk_heap (by rw [hmk]; exact hps x)
      rw [hmk] at hy
      refine ⟨fn, _, assign, body, hy, roundIn_of_wpIn hfn (hassign _ x w2 _ ⟨_, run_beginRound hl.blk_heap (by rw [hmk]), ?_⟩)⟩
      have h3 := (hl.putObj (.loop { mk .ready none with state := .busy })).p1
      refine wpIn_mono (hbody _ pre x _ (sep (blk (D + 1) (.loop { mk .ready none with state := .busy })) (sep B (blk D (.deferred (some []))))) hlen (by simpa only [sep_comm, sep_lcomm, sep_assoc] using h3)) ?_
      rintro e a3 w3 hp
      cases e with
      | normal =>
        have h4 : Sat W w3 (sep (blk (D + 1) (.loop { mk .ready none with state := .busy })) (sep (C (pre ++ [x])) (sep B (blk D (.deferred (some [])))))) := Sat.p1 hp
        have hr := run_endRound (P := P) none h4.blk_heap
        have h5 := h4.putObj (.loop (mk .ready none))
        refine ⟨_, _, hr, rfl, ?_⟩
        have e : ({ mk .ready none with state := .busy } : Loop) = mk .busy none := by rw [hmk]
        rw [e]
        have e2 : ({ mk .busy none with state := if (none : Option Code).isNone then .ready else .done, pending := none } : Loop) = mk .ready none := by rw [hmk]; rfl
        rw [e2]
        simpa only [sep_comm, sep_lcomm, sep_assoc] using h5
      | ret => exact hp.elim
      | exit id => exact hp.elim
      | goto t => exact hp.elim
      | panic ch => exact hp.elim
      | outgrown => exact hp.elim
    · rintro e w2 ⟨⟨v, rfl⟩, xs, hS, h2⟩
      have h3 : Sat W w2 (sep (blk (D + 1) (.loop (mk .ready none))) (sep (C xs) (sep Post (blk D (.deferred (some [])))))) := by simpa only [sep_comm, sep_lcomm, sep_assoc] using h2
      have e : (mk .ready none).pending = none := by rw [hmk]
      have hr := run_endLoop (P := P) h3.blk_heap (by rw [hmk]; simp)
      have h4 := (h3.putObj (.loop { mk .ready none with state := .exhausted })).drop
      rw [e] at hr
      refine ⟨none, _, hr, hdone D xs _ hS ?_⟩
      dsimp only at h4
      rw [e] at h4
      simpa only [sep_comm, sep_lcomm, sep_assoc] using h4
/-- 'append' onto an owned row, inside a fence. -/
theorem wpli_append_osl {F : Fence} {n' : Nat} {P : Program} {W w : World} {A : Assn} {ops : Array Oper} {rest : List Oper} {o : Oper} {ac : Act} {Q : Exit → Act → World → Prop} (hgd : o.guard = none) (s y : Operand) (t : TypeId)
    (ho : o.op = .call { callee := .builtin .append, args := #[s, y], argTypes := #[t, t] })
    (E k by_ : Nat) (z : Value) (ht : P.underlying t = some (.slice E)) (hi : (P.info? E).map (fun i => (i.zero, i.size, i.bytes)) = some (some z, k, by_)) (hzs : z.cells.size = k)
    {a : Option Addr} {n c : Nat} {xs : List Value} (hs : ac.eval s = .slice a n c) (h : Sat W w (sep (osl E k a n c xs) A))
    {x : Option Addr} {m cc : Nat} (hy : ac.eval y = .slice x m cc) (news : List Value) (hl : news.length = m * k) (hx0 : x = none → m = 0) (hx : ∀ b, x = some b → ∀ j u, news[j]? = some u → w.cell? (b.add j) = some u)
    (h1 : ∀ u ∈ news, u.oneCell' = true) (hby : (n + m) * by_ ≤ 140737488355328) (h63 : n + m ≤ maxLen)
    (hK : ∀ a' c' w', Sat W w' (sep (osl E k a' (n + m) c' (xs ++ news)) A) → wpListIn F n' P ops Q rest (ac.put o.dst (.slice a' (n + m) c')) w') : wpListIn F n' P ops Q (o :: rest) ac w := by
  refine wpListIn_plain hgd fun K hK' => ?_
  obtain ⟨i, hi1, hi2, hi3, hi4⟩ := info_parts hi
  obtain ⟨a', c', w', hr, hS⟩ := run_append_osl t o.type E k by_ i z ht hi1 hi2 hi3 hi4 hzs h x m cc news hl hx0 hx h1 h63 hby
  unfold Oper.wpIn
  refine ⟨?_, ?_⟩
  · simp [Oper.about, ho, resolve, Target.leads, Sem.run_pure]
  · rw [Oper.semAt_plain F _ _ (by rw [ho]; intro c hc'; cases hc')]
    rw [exec_append s y t t ho (by rw [hs, hy]; exact hr)]
    exact hK' _ _ (hK a' c' w' hS)
end
end PA
/- A region that leaves its order open, within a round of a range over a function: one walk in one order serves every order. Plain Lean, no program in sight. -/
namespace PA
open Go Go.RowKit
section
variable {P : Program} {ops : Array Oper} {Q : Exit → Act → World → Prop} {S : World → Prop}
theorem rowsIn_wide {n : Nat} {row : String} {args : Array Value} {w : World} {R : Value → World → Prop} (h : Rows P row args w R) : RowsIn Fence.wide n P row args w R :=
  fun c cs _ => let ⟨v, w', r, s⟩ := h c cs; ⟨v, w', r, stepsIn_wide.2 s⟩
theorem wpOpIn_round {l n i : Nat} {K : Act → World → Prop} {a : Act} {w : World} (hno : ¬ LetsOut Q) (hnd : ∀ o, ops[i]? = some o → ∀ c, o.op ≠ .defer c) (h : wpOp P ops Q i K a w) : wpOpIn (Fence.wide.inRound l) n P ops Q i K a w := by
  unfold wpOp at h
  unfold wpOpIn
  cases ho : ops[i]? with
  | none => simpa [ho] using h
  | some o =>
    simp only [ho] at h ⊢
    split
    · rename_i hw
      simp only [hw, if_true] at h
      rcases h with h | ⟨-, h⟩
      · refine ⟨fun _ _ => trivial, ?_⟩
        rw [show (Fence.wide.inRound l).round = some l from rfl, Oper.semAt_some l _ _ (hnd o ho)]
        unfold Oper.wp at h
        generalize (execOp a.eval o).run P w = r at *
        cases r with
        | ok x w' =>
          cases x <;> simp only [Oper.upon, Oper.uponIn] at h ⊢
          case value v => exact h
          case skip => exact h
          case defer d => exact h
          case enter f args => exact ⟨fun hd => (by simp [Fence.inRound, Fence.wide] at hd), callsIn_wide.2 h⟩
          case row row args => exact ⟨fun hd => (by simp [Fence.inRound, Fence.wide] at hd), rowsIn_wide h⟩
        | halt x w' => cases x <;> simp only [Oper.upon, Oper.uponIn] at h ⊢; exact h
      · exact absurd h hno
    · rename_i hw
      simp only [hw] at h
      exact ⟨fun _ _ => trivial, h⟩
theorem anyIn_round {l n : Nat} {md : Region.Mode} (hno : ¬ LetsOut Q) (hnd : ∀ (i : Nat) o, ops[i]? = some o → ∀ c, o.op ≠ .defer c) : ∀ (fuel : Nat) (listed : Array Bool) (a : Act) (w : World), wpAny P md ops Q fuel listed a w → wpAnyIn (Fence.wide.inRound l) n P md ops Q fuel listed a w
  | 0, _, _, _, h => h
  | fuel + 1, listed, a, w, h => ⟨h.1, fun i hi => wpOpIn_round hno (hnd i) (wpOp_mono (fun a w h => anyIn_round hno hnd fuel _ a w h) (h.2 i hi))⟩
theorem noPanic_letsOut (h : ¬ LetsOut Q) : ¬ LetsOut (NoPanic Q) := fun ⟨a, w, hq⟩ => h ⟨a, w, hq⟩
def noDef (ops : Array Oper) : Bool := ops.all fun o => match o.op with | .defer .. => false | _ => true
theorem noDef_spec (h : noDef ops = true) : ∀ (i : Nat) o, ops[i]? = some o → ∀ c, o.op ≠ .defer c := by
  intro i o ho c hc
  simp only [noDef, Array.all_eq_true] at h
  obtain ⟨hi, rfl⟩ := Array.getElem?_eq_some_iff.1 ho
  have := h i hi
  rw [hc] at this
  cases this
/-- THE RULE, in a round. -/
theorem wp_region_round {l n id : Nat} {a : Act} {w : World} (hm : P.follows .mixedOrders = true) (S : World → Prop) (L : List (Nat × Kd)) (hok : (canonOK ops (Region.before ops) L && noDef ops) = true) (hno : ¬ LetsOut Q)
    (h : wpC P ops (NoPanic Q) S L a w.drew) : (Code.region id ops true).wpIn (Fence.wide.inRound l) n P Q a w := by
  rw [Bool.and_eq_true] at hok
  obtain ⟨hok, hnd⟩ := hok
  simp only [canonOK, Bool.and_eq_true] at hok
  obtain ⟨⟨⟨⟨⟨⟨⟨h1, h2⟩, h3⟩, h4⟩, h7⟩, h8⟩, h5⟩, h6⟩ := hok
  have hlen : L.length = ops.size := by simpa using h4
  have hall : ∀ i, i < ops.size → i ∈ L.map (·.1) := fun i hi => by
    simp only [List.all_eq_true, List.mem_range] at h5
    simpa using h5 i hi
  have hback : ∀ i, i ∈ L.map (·.1) → i < ops.size := fun i hi => by
    rw [List.all_eq_true] at h8
    simpa using h8 i hi
  have hp := okAll_pair L h1
  refine wpIn_mono (wpIn_region_any hm (anyIn_round (noPanic_letsOut hno) (noDef_spec hnd) ops.size _ a _ ?_)) NoPanic.imp
  refine any_of_C (bf := Region.before ops) (S := S) ?_ ?_ h3 ?_ ops.size L _ hlen ?_ a w.drew h
  · intro j o cs b ho hsel
    simp only [noSel, Array.all_eq_true] at h2
    obtain ⟨hj, rfl⟩ := Array.getElem?_eq_some_iff.1 ho
    have := h2 j hj
    rw [hsel] at this
    cases this
  · intro c a d v w hh; exact hh
  · intro j o ho e he hb
    obtain ⟨hj, rfl⟩ := Array.getElem?_eq_some_iff.1 ho
    rw [Array.all_eq_true] at h6
    have := h6 j hj
    rw [Array.all_eq_true] at this
    obtain ⟨k, hk, rfl⟩ := Array.mem_iff_getElem.1 he
    have := this k hk
    simpa [hb] using this
  · refine ⟨by simp, fun i => ⟨fun hi => ?_, fun hi => hall i hi.1⟩, nodup_of_B _ h7, hp.1, hp.2, fun d r _ hd => ?_⟩
    · have := hback i hi
      exact ⟨this, by simp [Array.getD, this]⟩
    · exfalso
      simp only [Array.getD, Array.size_replicate] at hd
      split at hd <;> simp at hd
end
end PA
