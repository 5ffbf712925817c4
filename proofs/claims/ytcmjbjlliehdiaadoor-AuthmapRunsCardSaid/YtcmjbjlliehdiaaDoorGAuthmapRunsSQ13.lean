/- The reference's Key; the law's filled. -/
import Derived.Test.YtcmjbjlliehdiaaDoorGAuthmapRunsSQ6
import Derived.Test.YtcmjbjlliehdiaaDoorUtil
namespace Go.Proofs.YtcmjbjlliehdiaaDoor
open Go.RowKit PA
def rPairQ : Rep (Int × List UInt8) := ⟨fun I cs x => ∃ a c, cs = [.int .i64 x.1, .slice a x.2.length c] ∧ rBytes.rel I [.slice a x.2.length c] x.2, fun hl ⟨a, c, h1, h2⟩ => ⟨a, c, h1, rBytes.mono hl h2⟩⟩
def keyK (k : Int) : Int := if k % 5 = 0 then k % 9 else if k % 5 = 1 then 4095 - k / 9 % 5 else if k % 5 = 2 then 1000 + k / 9 % 70 else if k % 5 = 3 then k % 4096 else 2046 + k / 9 % 5
def keyQ (n : Int) : Int := keyK (aroundI n 1048576)
theorem keyQ_range (n : Int) : 0 ≤ keyQ n ∧ keyQ n ≤ 4095 := by
  have h := aroundI_lt n 1048576 (by omega)
  unfold keyQ keyK
  generalize aroundI n 1048576 = k at *
  split
  · omega
  · split
    · omega
    · split
      · omega
      · split
        · omega
        · omega
set_option maxHeartbeats 4000000 in
theorem qkey_spec {W w : World} {A : Assn} (n : Int) (hn : -9223372036854775808 ≤ n ∧ n ≤ 9223372036854775807) (h : Sat W w A) :
    Calls Tryd.prog 16 #[.int .i64 n] w fun e w' => e = .returned (.int .i64 (keyQ n)) ∧ Sat W w' A := by
  have har := around_spec n 1048576 w hn.1 hn.2 (by omega) (by omega)
  have hlt := aroundI_lt n 1048576 (by omega)
  unfold keyQ
  obtain ⟨k, hk⟩ : ∃ k : Nat, aroundI n 1048576 = (k : Int) := ⟨(aroundI n 1048576).toNat, by omega⟩
  rw [hk] at har hlt ⊢
  have HA := Lib.hid har
  have hk20 : k < 1048576 := by omega
  have h1 := Lib.hid h
  clear har hlt hk h hn
  have h5 : (k : Int) % 5 = 0 ∨ (k : Int) % 5 = 1 ∨ (k : Int) % 5 = 2 ∨ (k : Int) % 5 = 3 ∨ (k : Int) % 5 = 4 := by omega
  have hw1 : wrap64 ((k : Int) / 9) = (k : Int) / 9 := by unfold wrap64; omega
  unfold keyK
  rcases h5 with h5 | h5 | h5 | h5 | h5
  all_goals
    go_enter Tryd.func16, Tryd.ntmps16
    go_wp2_with fail
    refine HA.out.mono ?_
    rintro e w' ⟨rfl, rfl⟩
    go_wp2_with fail
    go_ret
    refine ⟨?_, h1.out.alloc0 _⟩
    first | rfl | (simp [h5]; done) | (simp [h5]; rfl)
def fillM (M : KVs) (l : List (Int × List UInt8)) : KVs := l.foldl (fun M x => fset M x.1 (some x.2)) M
theorem fillM_snoc (M : KVs) (l : List (Int × List UInt8)) (x : Int × List UInt8) : fillM M (l ++ [x]) = fset (fillM M l) x.1 (some x.2) := by simp [fillM]
theorem pair_at {W w : World} {A : Assn} {I : Mem} {a : Option Addr} {n c : Nat} {l : List (Int × List UInt8)} (h : Sat W w (sep (kn I) A)) (hv : (rPairQ.slice 2).rel I [.slice a n c] l) (i : Nat) (hi : i < l.length) :
    ∃ b o va vc, a = some ⟨b, o, none⟩ ∧ w.cell? ⟨b, o + i * 2, none⟩ = some (.int .i64 l[i].1) ∧ w.cell? ⟨b, o + i * 2 + 1, none⟩ = some (.slice va l[i].2.length vc) ∧ ∃ J, Mem.le I J ∧ rBytes.rel J [.slice va l[i].2.length vc] l[i].2 ∧ Sat W w (sep (kn J) A) := by
  have h1 := h.tell hv (hp := fun _ _ hl => (rPairQ.slice 2).mono hl)
  obtain ⟨b, o, cv, rfl, hcv, hc, h2⟩ := Sat.slice_get (R := rPairQ) h1 i hi (by omega)
  obtain ⟨J, hJ, ⟨va, vc, rfl, hr⟩, h3⟩ := (show Sat W w (sep (rPairQ.is cv l[i]) (sep (kn I) (sep ((rPairQ.slice 2).is [.slice (some ⟨b, o, none⟩) n c] l) A))) by simpa only [sep_comm, sep_lcomm, sep_assoc] using h2).learn
  refine ⟨b, o, va, vc, rfl, hc 0 _ rfl, hc 1 _ rfl, J, hJ, hr, ?_⟩
  have := h3.p1.drop
  simpa only [sep_comm, sep_lcomm, sep_assoc] using this
set_option maxRecDepth 100000 in
set_option maxHeartbeats 8000000 in
theorem filled_spec {W w : World} {A : Assn} {I : Mem} (hw : WholeOK W) (a : Option Addr) (n c : Nat) (l : List (Int × List UInt8)) (h : Sat W w (sep (kn I) A)) (hv : (rPairQ.slice 2).rel I [.slice a n c] l) (hn : n = l.length) (hn9 : n ≤ 1000000)
    (hl : ∀ x ∈ l, (0 ≤ x.1 ∧ x.1 ≤ 4095) ∧ x.2.length ≤ 65536) :
    Calls Tryd.prog 12 #[.slice a n c] w fun e w' => ∃ p, e = .returned (.pointer (some ⟨p, 0, none⟩)) ∧ Sat W w' (sep (isAM p (fillM (fun _ => none) l)) (sep (kn I) A)) := by
  have HNEW := Lib.hid (anew_spec h)
  have HH := Lib.hid (And.intro hw (And.intro hv (And.intro hn hl)))
  have hnI : (n : Int) ≤ 1000000 := by omega
  clear h hw hv hn hl
  go_enter Tryd.func12, Tryd.ntmps12
  go_wp2_with fail
  refine HNEW.out.mono ?_
  rintro e w1 ⟨p, rfl, h1⟩
  clear HNEW
  go_wp2_with fail
  go_loopw [4] (fun iv' wr => ∃ i : Nat, i ≤ n ∧ iv' = .int .i64 (i : Nat) ∧ Sat W wr (sep (isAM p (fillM (fun _ => none) (l.take i))) (sep (kn I) A))) (fun iv' _ => n - (intOf iv').toNat)
  case atStart => exact ⟨0, by omega, rfl, by rw [List.take_zero]; exact h1⟩
  case round =>
    clear h1
    obtain ⟨i, hi, rfl, hS⟩ := hrel
    by_cases hin : i < n
    · have hiL : i < l.length := by rw [← HH.out.2.2.1]; exact hin
      obtain ⟨wd, hwd⟩ : ∃ wd, wd = wr.drew := ⟨_, rfl⟩
      have hd := hS.drew
      rw [← hwd] at hd
      obtain ⟨b, o, va, vc, rfl, g0, g1, J, hJ, hr, h2⟩ := pair_at (show Sat W wd (sep (kn I) (sep (isAM p (fillM (fun _ => none) (l.take i))) A)) by simpa only [sep_comm, sep_lcomm, sep_assoc] using hd) HH.out.2.1 i hiL
      obtain ⟨x, hx⟩ : ∃ x, x = l[i] := ⟨_, rfl⟩
      rw [← hx] at g0 g1 hr
      have hxm : (0 ≤ x.1 ∧ x.1 ≤ 4095) ∧ x.2.length ≤ 65536 := HH.out.2.2.2 x (by rw [hx]; exact List.getElem_mem hiL)
      have hset := aset_ok HH.out.1 p (fillM (fun _ => none) (l.take i)) x.1 (.slice va x.2.length vc) x.2 (show Sat W wd (sep (isAM p (fillM (fun _ => none) (l.take i))) (sep (kn J) A)) by simpa only [sep_comm, sep_lcomm, sep_assoc] using h2) hr hxm.1 hxm.2
      have e1 : fset (fillM (fun _ => none) (l.take i)) x.1 (some x.2) = fillM (fun _ => none) (l.take (i + 1)) := by
        rw [List.take_succ_eq_append_getElem hiL, fillM_snoc, ← hx]
      rw [e1] at hset
      obtain ⟨xk, hxk⟩ : ∃ xk, xk = x.1 := ⟨_, rfl⟩
      obtain ⟨xl, hxl⟩ : ∃ xl, xl = x.2.length := ⟨_, rfl⟩
      rw [← hxk, ← hxl] at hset
      rw [← hxk] at g0
      rw [← hxl] at g1
      have HSET := Lib.hid hset
      have HJ := Lib.hid hJ
      have hinI : (i : Int) < (n : Int) := by omega
      clear hS hd h2 hr hx hxm hset e1 hxk hxl hJ hiL
      go_wp2_with fail
      refine wp_region_canon rfl (fun _ => True) [(0, .p), (1, .p), (2, .p), (3, .p), (4, .p), (5, .t), (6, .p), (7, .p), (8, .p), (9, .p), (10, .t), (11, .e false), (12, .p)] (by kernel_rfl) ?_
      rw [← hwd]
      clear hwd
      have hS0 : True := trivial
      (repeat (first | (refine C_p (v := ?_) rfl rfl (fun w' => ?_) ?_; rotate_left; (go_simp; with_reducible rfl); simp only [Act.put, List.setIfInBounds_toArray, List.set_cons_zero, List.set_cons_succ]) | (refine C_s (v := ?_) rfl rfl hS0 (fun w' hS => ?_) ?_; rotate_left; ((try dsimp only at hS); go_simp; with_reducible rfl); simp only [Act.put, List.setIfInBounds_toArray, List.set_cons_zero, List.set_cons_succ]) | (refine C_t (v := ?_) rfl rfl ?_ ?_; rotate_left; (go_simp; with_reducible rfl); simp only [Act.put, List.setIfInBounds_toArray, List.set_cons_zero, List.set_cons_succ]) | (refine C_po rfl rfl ?_; simp only [Act.put, List.setIfInBounds_toArray, List.set_cons_zero, List.set_cons_succ]) | (refine C_so rfl rfl hS0 ?_; simp only [Act.put, List.setIfInBounds_toArray, List.set_cons_zero, List.set_cons_succ]) | (refine C_to rfl rfl ?_; simp only [Act.put, List.setIfInBounds_toArray, List.set_cons_zero, List.set_cons_succ])))
      (refine C_e rfl rfl (fun K hK => ?_); go_simp)
      refine HSET.out.mono ?_
      rintro e w2 ⟨rfl, h3⟩
      have H3 := Lib.hid (show Sat W w2 (sep (isAM p (fillM (fun _ => none) (l.take (i + 1)))) (sep (kn I) A)) by
        have := (h3.p1).kn_mono HJ.out
        simpa only [sep_comm, sep_lcomm, sep_assoc] using this)
      clear HSET h3 g0 g1
      (refine hK _ _ (fun h => by cases h) ?_; clear hK K; (try simp only [Act.put, List.setIfInBounds_toArray, List.set_cons_zero, List.set_cons_succ]))
      (repeat (first | (refine C_p (v := ?_) rfl rfl (fun w' => ?_) ?_; rotate_left; (go_simp; with_reducible rfl); simp only [Act.put, List.setIfInBounds_toArray, List.set_cons_zero, List.set_cons_succ]) | (refine C_s (v := ?_) rfl rfl hS0 (fun w' hS => ?_) ?_; rotate_left; ((try dsimp only at hS); go_simp; with_reducible rfl); simp only [Act.put, List.setIfInBounds_toArray, List.set_cons_zero, List.set_cons_succ]) | (refine C_t (v := ?_) rfl rfl ?_ ?_; rotate_left; (go_simp; with_reducible rfl); simp only [Act.put, List.setIfInBounds_toArray, List.set_cons_zero, List.set_cons_succ]) | (refine C_po rfl rfl ?_; simp only [Act.put, List.setIfInBounds_toArray, List.set_cons_zero, List.set_cons_succ]) | (refine C_so rfl rfl hS0 ?_; simp only [Act.put, List.setIfInBounds_toArray, List.set_cons_zero, List.set_cons_succ]) | (refine C_to rfl rfl ?_; simp only [Act.put, List.setIfInBounds_toArray, List.set_cons_zero, List.set_cons_succ])))
      refine C_nil ?_
      go_wp2_with fail
      go_roundw
      case rel => exact ⟨i + 1, by omega, rfl, H3.out⟩
      case measure => simp only [intOf]; omega
    · obtain rfl : i = n := by omega
      have H := Lib.hid hS
      clear hS
      go_wp2_with fail
      go_ret
      refine ⟨p, rfl, ?_⟩
      have e : l.take i = l := by rw [HH.out.2.2.1]; exact List.take_length
      rw [← e]
      exact H.out
end Go.Proofs.YtcmjbjlliehdiaaDoor
