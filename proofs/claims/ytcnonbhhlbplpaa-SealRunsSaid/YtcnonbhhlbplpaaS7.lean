/- Package seal: comparisons of owned slices, the example of the section. -/
import Derived.Test.YtcnonbhhlbplpaaS6
namespace Go.Proofs.Ytcnonbhhlbplpaa
open Go.RowKit PA
theorem lits_bytes {W w : World} {A : Assn} {I : Mem} (h : Sat W w (sep (kn I) A)) (bs : List UInt8) (t : TypeId) (hb : bs.length ≤ maxLen) :
    ∃ J, Mem.le I J ∧ rBytes.rel J [.slice (some ⟨w.heap.size, 0, none⟩) bs.length bs.length] bs ∧ Sat W (w.alloc (.cells (bs.map bv).toArray t)) (sep (kn J) A) := by
  obtain ⟨J, h1, h2, h3⟩ := (h.bytes_of_alloc bs t (0, 0) hb).learn
  exact ⟨J, h1, h2, h3⟩
section
variable {W w : World} {A : Assn}
theorem src_osl {E : Nat} {a : Option Addr} {n c : Nat} {xs : List Value} {α : Type} {x : List α} (g : α → Value) (hx : xs = x.map g) (h : Sat W w (sep (osl E 1 a n c xs) A)) : x ≠ [] → ∃ b o, a = some ⟨b, o, none⟩ ∧ ∀ j u, (x.map g)[j]? = some u → w.cell? ⟨b, o + j, none⟩ = some u := by
  intro hne
  obtain ⟨g', e, hc⟩ := h.osl_at (fun e => hne (by rw [hx] at e; exact List.map_eq_nil_iff.1 e))
  subst hx
  exact ⟨g', 0, e, fun j u hu => by rw [Nat.zero_add]; exact hc j u hu⟩
theorem osl_len {E : Nat} {a : Option Addr} {n c : Nat} {xs : List Value} (h : Sat W w (sep (osl E 1 a n c xs) A)) : (n : Int) ≤ 9223372036854775807 := by
  have := h.swf_of_osl
  have h1 := this.1; have h2 := this.2.1; unfold maxLen at h2; omega
theorem sameInts_sat (a b : Option Addr) (c d : Nat) (x y : List Int) (h : Sat W w (sep (osl 3 1 a x.length c (x.map iv)) (sep (osl 3 1 b y.length d (y.map iv)) A))) :
    Calls Try.prog 19 #[.slice a x.length c, .slice b y.length d] w fun e w' => e = .returned (.bool (decide (x = y))) ∧ Sat W w' A := by
  refine (sameInts_spec w a b c d x y (osl_len h) (osl_len h.p1) (src_osl iv rfl h) (src_osl iv rfl h.p1)).mono ?_
  rintro e w' ⟨rfl, n, rfl⟩
  exact ⟨rfl, h.forget_osl.forget_osl.alike rfl rfl rfl rfl⟩
theorem same31_sat (a b : Option Addr) (c d : Nat) (x y : List Nat) (h : Sat W w (sep (osl 22 1 a x.length c (x.map uv)) (sep (osl 22 1 b y.length d (y.map uv)) A))) :
    Calls Try.prog 18 #[.slice a x.length c, .slice b y.length d] w fun e w' => e = .returned (.bool (decide (x = y))) ∧ Sat W w' A := by
  refine (same31_spec w a b c d x y (osl_len h) (osl_len h.p1) (src_osl uv rfl h) (src_osl uv rfl h.p1)).mono ?_
  rintro e w' ⟨rfl, n, rfl⟩
  exact ⟨rfl, h.forget_osl.forget_osl.alike rfl rfl rfl rfl⟩
theorem lit_osl {E : Nat} (h : Sat W w A) (xs : List Value) (n : Nat) (hn : n = xs.length) (hl : n ≤ maxLen) : Sat W (w.alloc (.cells xs.toArray E)) (sep (osl E 1 (some ⟨w.heap.size, 0, none⟩) n n xs) A) := by
  subst hn
  exact (h.alloc (.cells xs.toArray E)).osl_mk xs.length xs.length 1 xs (by simp) (Nat.le_refl _) hl (by simp) (by simp)
end
def m2L : Int → Option Ent := eset (eset (fun _ => none) 7 ⟨[1], 5, false⟩) 3 ⟨[2], 6, false⟩
def m3L : Int → Option Ent := eset m2L 7 ⟨[1], 5, true⟩
theorem m3_keys : MKeys m3L [3, 7] := by
  refine ⟨by simp, fun k => ?_⟩
  unfold m3L m2L eset
  by_cases h1 : k = 7
  · simp [h1]
  · by_cases h2 : k = 3
    · simp [h2]
    · simp [h1, h2]
theorem m3_com : [3, 7].map (comE m3L) = [commitN [2] 6, commitN [1] 5] := by simp [comE, m3L, m2L, eset]
theorem m3_op : ([3, 7] : List Int).filter (fun k => !opE m3L k) = [3] := by simp [opE, m3L, m2L, eset]
set_option maxRecDepth 100000 in
set_option maxHeartbeats 8000000 in
theorem lives31_spec {W w : World} {A : Assn} (h : Sat W w A) :
    Calls Try.prog 14 #[] w fun e w' => e = .returned (.bool true) ∧ Sat W w' A := by
  obtain ⟨I0, hk0⟩ := h.know
  have hnew := snew_spec hk0
  have HN := Lib.hid hnew
  clear hnew hk0 h
  go_enter Try.func14, Try.ntmps14
  go_wp2_with fail
  refine HN.out.mono ?_
  rintro e w1 ⟨p, rfl, h1⟩
  clear HN
  obtain ⟨I1, hI1, hb1, h2⟩ := lits_bytes (show Sat W w1 (sep (kn I0) (sep (isBox p (fun _ => none) 0) A)) by simpa only [sep_comm, sep_lcomm, sep_assoc] using h1) [1] 5 (by decide)
  have hp1 := sput_ok p (fun _ => none) 0 7 _ [1] 5 h2.p1 hb1 (by simp [putE])
  have hm1 : eset (fun _ => none) 7 ⟨[1], 5, false⟩ = eset (fun _ => none) 7 ⟨[1], 5, false⟩ := rfl
  obtain ⟨ca, hca⟩ : ∃ ca, ca = commitN [1] 5 := ⟨_, rfl⟩
  rw [← hca] at hp1
  have HCA := Lib.hid hca
  have HP1 := Lib.hid hp1
  clear h1 h2 hb1 hp1 hm1 hca
  go_wp2_with fail
  refine HP1.out.mono ?_
  rintro e w2 ⟨rfl, h3⟩
  clear HP1
  obtain ⟨I2, hI2, hb2, h4⟩ := lits_bytes h3.p1 [2] 5 (by decide)
  have hp2 := sput_ok p (eset (fun _ => none) 7 ⟨[1], 5, false⟩) 1 3 _ [2] 6 h4.p1 hb2 (by simp [putE, eset])
  obtain ⟨cb, hcb⟩ : ∃ cb, cb = commitN [2] 6 := ⟨_, rfl⟩
  rw [← hcb] at hp2
  have HCB := Lib.hid hcb
  have HP2 := Lib.hid hp2
  clear h3 h4 hb2 hp2 hcb
  go_wp2_with fail
  refine HP2.out.mono ?_
  rintro e w3 ⟨rfl, h5⟩
  have hop := sopen_ok p m2L 2 7 ⟨[1], 5, false⟩ h5 (by simp [m2L, eset])
  have HOP := Lib.hid hop
  clear HP2 h5 hop
  go_wp2_with fail
  refine HOP.out.mono ?_
  rintro e w4 ⟨a4, c4, rfl, h6⟩
  have h7 := h6.p1
  have hcs := scommitments_spec p m3L 2 (show Sat W w4 (sep (isBox p m3L 2) _) from h7)
  have HCS := Lib.hid hcs
  clear HOP h6 h7 hcs
  go_wp2_with fail
  refine HCS.out.mono ?_
  rintro e w5 ⟨a5, c5, ks, rfl, hks, -, h8⟩
  obtain rfl := hks.uniq m3_keys
  rw [m3_com, ← HCA.out, ← HCB.out] at h8
  have h8' : Sat W w5 (sep (osl 22 1 a5 2 c5 ([cb, ca].map uv)) (sep (isBox p m3L 2) (sep (osl 5 1 a4 1 c4 ([(1 : UInt8)].map bv)) (sep (kn I2) A)))) := h8
  have h9 : Sat W (w5.alloc (.cells #[.int .u8 1] 5)) (sep (rBytes.is [.slice (some ⟨w5.heap.size, 0, none⟩) 1 1] [1]) (sep (osl 5 1 a4 1 c4 ([(1 : UInt8)].map bv)) (sep (isBox p m3L 2) (sep (osl 22 1 a5 2 c5 ([cb, ca].map uv)) A)))) :=
    Sat.bytes_of_alloc (show Sat W w5 (sep (osl 5 1 a4 1 c4 ([(1 : UInt8)].map bv)) (sep (isBox p m3L 2) (sep (osl 22 1 a5 2 c5 ([cb, ca].map uv)) A))) by
      have := h8'.p3.drop
      simpa only [sep_comm, sep_lcomm, sep_assoc] using this) [1] 5 (0, 0) (by decide)
  have hsb := sameBytes_spec (.slice a4 1 c4) (.slice (some ⟨w5.heap.size, 0, none⟩) 1 1) [1] [1] (A := sep (isBox p m3L 2) (sep (osl 22 1 a5 2 c5 ([cb, ca].map uv)) A)) h9.p1.bytes_of_osl.2
  rw [decide_eq_true (rfl : ([1] : List UInt8) = [1])] at hsb
  have HSB := Lib.hid hsb
  have HCSE := Lib.hid hks
  clear HCS h8 h8' h9 hsb hks
  go_wp2_with fail
  refine HSB.out.mono ?_
  rintro e w6 ⟨rfl, h10⟩
  have hse := ssealed_spec p m3L 2 h10.drop.drop
  have HSE := Lib.hid hse
  have H10 := Lib.hid h10.drop.drop
  clear HSB h10 hse
  go_wp2_with fail
  refine HSE.out.mono ?_
  rintro e w7 ⟨a7, c7, ks2, rfl, hks2, -, h11⟩
  obtain rfl := hks2.uniq m3_keys
  rw [m3_op] at h11 ⊢
  have h12 := lit_osl (E := 3) (show Sat W w7 (sep (osl 3 1 a7 1 c7 ([(3 : Int)].map iv)) (sep (isBox p m3L 2) (sep (osl 22 1 a5 2 c5 ([cb, ca].map uv)) A))) from h11) [.int .i64 3] 1 rfl (by decide)
  have hsi := sameInts_sat a7 (some ⟨w7.heap.size, 0, none⟩) c7 1 [3] [3] (W := W) (A := sep (isBox p m3L 2) (sep (osl 22 1 a5 2 c5 ([cb, ca].map uv)) A)) h12.p1
  rw [decide_eq_true (rfl : ([3] : List Int) = [3])] at hsi
  have HSI := Lib.hid hsi
  clear HSE h11 h12 hsi hks2
  go_wp2_with fail
  refine HSI.out.mono ?_
  rintro e w8 ⟨rfl, h13⟩
  have h14 := lit_osl (E := 22) h13 [.int .u64 (cb : Nat), .int .u64 (ca : Nat)] 2 rfl (by decide)
  have hs3 := same31_sat a5 (some ⟨w8.heap.size, 0, none⟩) c5 2 [cb, ca] [cb, ca] (W := W) (A := sep (isBox p m3L 2) A) (show Sat W _ (sep (osl 22 1 a5 2 c5 ([cb, ca].map uv)) (sep (osl 22 1 (some ⟨w8.heap.size, 0, none⟩) 2 2 [.int .u64 (cb : Nat), .int .u64 (ca : Nat)]) (sep (isBox p m3L 2) A))) by
    simpa only [sep_comm, sep_lcomm, sep_assoc] using h14)
  rw [decide_eq_true (rfl : [cb, ca] = [cb, ca])] at hs3
  have HS3 := Lib.hid hs3
  clear HSI h13 h14 hs3
  go_wp2_with fail
  refine HS3.out.mono ?_
  rintro e w9 ⟨rfl, h15⟩
  go_wp2_with fail
  go_ret
  exact ⟨rfl, h15.drop⟩
end Go.Proofs.Ytcnonbhhlbplpaa
