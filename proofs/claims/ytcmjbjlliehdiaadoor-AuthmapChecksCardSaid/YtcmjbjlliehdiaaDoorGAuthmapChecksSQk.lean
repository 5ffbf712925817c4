/- authmap.Decode. -/
import Derived.Test.YtcmjbjlliehdiaaDoorGAuthmapChecksSQn
import Derived.BigQuiet
import Derived.Deep.QuietTactic
namespace Go.Proofs.YtcmjbjlliehdiaaDoor
open Go.RowKit PA
attribute [local go_sem] Oper.semAt_some
/-- The reader after k numbers. -/
def stS (st : RSt) : Nat → RSt
  | 0 => st
  | k + 1 => (stU (stS st k)).2
def nmS (st : RSt) (k : Nat) : List Nat := (List.range k).map fun i => (stU (stS st i)).1
theorem nmS_succ (st : RSt) (k : Nat) : nmS st (k + 1) = nmS st k ++ [(stU (stS st k)).1] := by unfold nmS; rw [List.range_succ, List.map_append]; rfl
theorem nmS_len (st : RSt) (k : Nat) : (nmS st k).length = k := by simp [nmS]
theorem stS_small {st : RSt} (h : RSt.small st) : ∀ k, RSt.small (stS st k)
  | 0 => h
  | k + 1 => stU_small (stS_small h k)
def decL (lb : Nat) (st : RSt) : Option (List Nat × RSt) := if (stI st).1 < 0 ∨ (lb : Int) < (stI st).1 then none else some (nmS (stI st).2 (stI st).1.toNat, stS (stI st).2 (stI st).1.toNat)
def decA (b : List UInt8) : Option Prf := match decL b.length (stR (.ok b)).2 with
  | none => none
  | some (l, s2) => match decL b.length s2 with
    | none => none
    | some (r, s3) => if stE s3 ≠ 0 then none else some ⟨l, r, (stR (.ok b)).1⟩
def PathA (lb : Nat) (S1 : RSt) : Nat → List Nat → List Nat → RSt → Prop
  | 0, L, R, st => L = [] ∧ R = [] ∧ st = S1
  | 1, L, R, st => R = [] ∧ decL lb S1 = some (L, st)
  | _, L, R, st => ∃ S2, decL lb S1 = some (L, S2) ∧ decL lb S2 = some (R, st)
theorem stI_small {st : RSt} (h : RSt.small st) : RSt.small (stI st).2 := stU_small h
theorem pq3 {W w : World} {A : Assn} {q : Nat} {a b c : Value} {T : Nat} (h : Sat W w (sep (blk q (.cells #[a, b, c] T (0, 0))) A)) :
    w.cell? ⟨q, 0, none⟩ = some a ∧ w.cell? ⟨q, 1, none⟩ = some b ∧ w.cell? ⟨q, 2, none⟩ = some c ∧ w.frozen? ⟨q, 0, none⟩ = false ∧ w.frozen? ⟨q, 1, none⟩ = false ∧ w.frozen? ⟨q, 2, none⟩ = false :=
  ⟨h.cell 0, h.cell 1, h.cell 2, h.unfrozen 0, h.unfrozen 1, h.unfrozen 2⟩
theorem pq3_set {W w : World} {A : Assn} {q : Nat} {a b c : Value} {T : Nat} (h : Sat W w (sep (blk q (.cells #[a, b, c] T (0, 0))) A)) (x y z : Value) :
    Sat W (((w.setCell ⟨q, 0, none⟩ x).setCell ⟨q, 1, none⟩ y).setCell ⟨q, 2, none⟩ z) (sep (blk q (.cells #[x, y, z] T (0, 0))) A) := ((h.setCell 0 x).setCell 1 y).setCell 2 z
theorem bytes_nilQ (I : Mem) : rBytes.rel I [.slice none 0 0] [] := bytes_rel.2 ⟨none, 0, rfl, ⟨Nat.le_refl _, Nat.zero_le _, fun _ => rfl⟩, .inl rfl⟩
theorem prf_nil (I : Mem) : prfR I (.agg #[.slice none 0 0, .slice none 0 0, .slice none 0 0]) ⟨[], [], []⟩ := ⟨_, _, _, rfl, hs_nil I, hs_nil I, bytes_nilQ I⟩
theorem decL_none {lb : Nat} {st : RSt} (h : (stI st).1 < 0 ∨ (lb : Int) < (stI st).1) : decL lb st = none := by unfold decL; rw [if_pos h]
theorem decL_some {lb m : Nat} {st : RSt} (h : (m : Int) = (stI st).1) (hm : m ≤ lb) : decL lb st = some (nmS (stI st).2 m, stS (stI st).2 m) := by
  unfold decL
  rw [if_neg (by omega), ← h]
  rfl
theorem decA_none1 {b : List UInt8} (h : decL b.length (stR (.ok b)).2 = none) : decA b = none := by unfold decA; rw [h]
theorem decA_none2 {b : List UInt8} {L : List Nat} {s : RSt} (h : decL b.length (stR (.ok b)).2 = some (L, s)) (h2 : decL b.length s = none) : decA b = none := by unfold decA; rw [h]; dsimp only; rw [h2]
theorem decA_end {b : List UInt8} {L R : List Nat} {s t : RSt} (h : decL b.length (stR (.ok b)).2 = some (L, s)) (h2 : decL b.length s = some (R, t)) : decA b = if stE t ≠ 0 then none else some ⟨L, R, (stR (.ok b)).1⟩ := by unfold decA; rw [h]; dsimp only; rw [h2]
set_option maxRecDepth 100000 in
set_option maxHeartbeats 8000000 in
theorem adecode_spec {W w : World} {A : Assn} {I : Mem} (v : Value) (b : List UInt8) (h : Sat W w (sep (kn I) A)) (hv : rBytes.rel I [v] b) (hb : b.length ≤ 1000000) :
    Calls Tryd.prog 32 #[v] w fun e w' => ∃ J v', Mem.le I J ∧ e = .returned (.tuple #[v', .int .i64 (if decA b = none then 2 else 0)]) ∧ prfR J v' ((decA b).getD ⟨[], [], []⟩) ∧ Sat W w' (sep (kn J) A) := by
  obtain ⟨ba, bc, rfl, -, -⟩ := bytes_rel.1 hv
  obtain ⟨lb, hlb⟩ : ∃ z, z = b.length := ⟨_, rfl⟩
  rw [← hlb] at hv hb ⊢
  obtain ⟨q, hq⟩ : ∃ q, q = w.heap.size := ⟨_, rfl⟩
  have h1 := h.alloc (.cells #[.slice none 0 0, .slice none 0 0, .slice none 0 0] 40)
  obtain ⟨w1, hw1⟩ : ∃ w1, w1 = w.alloc (.cells #[.slice none 0 0, .slice none 0 0, .slice none 0 0] 40) := ⟨_, rfl⟩
  rw [← hw1, ← hq] at h1
  obtain ⟨cd, hcd⟩ : ∃ z : Int, z = if decA b = none then 2 else 0 := ⟨_, rfl⟩
  obtain ⟨pp, hpp⟩ : ∃ z : Prf, z = (decA b).getD ⟨[], [], []⟩ := ⟨_, rfl⟩
  rw [← hcd, ← hpp]
  have HCD := Lib.hid (And.intro hcd hpp)
  clear hcd hpp
  have HV := Lib.hid hv
  have HLB := Lib.hid hlb
  have HQ := Lib.hid (And.intro hq hw1)
  clear hv hlb hq hw1 h
  go_enter Tryd.func32, Tryd.ntmps32
  go_upto_region 1 with (fail)
  rw [← HQ.out.1, ← HQ.out.2]
  have h2 : Sat W w1 (sep (rBytes.is [.slice ba lb bc] b) (sep (kn I) (sep (blk q (.cells #[.slice none 0 0, .slice none 0 0, .slice none 0 0] 40 (0, 0))) A))) := h1.p1.tell HV.out
  go_wp2_with fail
  refine (read_spec (.slice ba lb bc) b h2 (by rw [← HLB.out]; omega)).mono ?_
  rintro e w2 ⟨p1, rfl, hS2⟩
  clear h1 h2
  go_wp2_with fail
  refine (rdraw_spec p1 _ hS2 (by show b.length ≤ _; rw [← HLB.out]; omega)).mono ?_
  rintro e w3 ⟨vc, rfl, hS3⟩
  obtain ⟨cb, hcb⟩ : ∃ cb, cb = (stR (.ok b)).1 := ⟨_, rfl⟩
  obtain ⟨s1, hs1⟩ : ∃ s1, s1 = (stR (.ok b)).2 := ⟨_, rfl⟩
  have hsm1 : RSt.small s1 := by rw [hs1]; exact stR_small (by show b.length ≤ _; rw [← HLB.out]; omega)
  rw [← hcb, ← hs1] at hS3
  have h3 : Sat W w3 (sep (rBytes.is [vc] cb) (sep (kn I) (sep (isRd 129 p1 s1) (sep (blk q (.cells #[.slice none 0 0, .slice none 0 0, .slice none 0 0] 40 (0, 0))) A)))) := by
    have := hS3.p2.drop
    simpa only [sep_comm, sep_lcomm, sep_assoc] using this
  obtain ⟨J, hle, hbc, hS4⟩ := h3.learn
  obtain ⟨ca, cc, hvc, -, -⟩ := bytes_rel.1 hbc
  obtain ⟨ncb, hncb⟩ : ∃ z, z = cb.length := ⟨_, rfl⟩
  rw [← hncb] at hvc
  subst hvc
  obtain ⟨pb, hpb⟩ : ∃ z, z = w3.heap.size := ⟨_, rfl⟩
  have h6 := hS4.alloc (.cells #[.slice none 0 0, .slice none 0 0, .slice ca ncb cc] 40)
  obtain ⟨w5, hw5⟩ : ∃ z, z = w3.alloc (.cells #[.slice none 0 0, .slice none 0 0, .slice ca ncb cc] 40) := ⟨_, rfl⟩
  rw [← hw5, ← hpb] at h6
  obtain ⟨g, hg⟩ : ∃ z, z = w5.heap.size := ⟨_, rfl⟩
  have h7 := h6.alloc (.cells #[.pointer (some ⟨pb, 0, none⟩), .pointer (some ⟨pb, 1, none⟩)] 125)
  obtain ⟨w6, hw6⟩ : ∃ z, z = w5.alloc (.cells #[.pointer (some ⟨pb, 0, none⟩), .pointer (some ⟨pb, 1, none⟩)] 125) := ⟨_, rfl⟩
  rw [← hw6, ← hg] at h7
  have HW5 := Lib.hid (And.intro hpb hw5)
  have HW6 := Lib.hid (And.intro hg hw6)
  have HB := Lib.hid (And.intro hcb (And.intro hs1 (And.intro hncb (And.intro hle hbc))))
  have H7 : Hid (PathA lb s1 0 [] [] s1 ∧ Sat W w6 (sep (isRd 129 p1 s1) (sep (osl 43 1 none 0 0 (([] : List Nat).map uv)) (sep (osl 43 1 none 0 0 (([] : List Nat).map uv)) (sep (blk pb (.cells #[.slice none 0 0, .slice none 0 0, .slice ca ncb cc] 40 (0, 0))) (sep (blk g (.cells #[.pointer (some ⟨pb, 0, none⟩), .pointer (some ⟨pb, 1, none⟩)] 125 (0, 0))) (sep (blk q (.cells #[.slice none 0 0, .slice none 0 0, .slice none 0 0] 40 (0, 0))) (sep (kn J) A)))))))) := Lib.hid ⟨⟨rfl, rfl, rfl⟩, by
    have h8 := ((show Sat W w6 _ by simpa only [sep_comm, sep_lcomm, sep_assoc] using h7).osl_nil 43 1).osl_nil 43 1
    simpa only [sep_comm, sep_lcomm, sep_assoc, List.map_nil] using h8⟩
  have HSM := Lib.hid hsm1
  clear hS2 hS3 h3 hS4 hle hcb hs1 hsm1 hncb h6 h7 hpb hw5 hg hw6 hbc
  go_upto_region 3 with (fail)
  rw [← HW5.out.1, ← HW5.out.2]
  go_upto_block 0 with (fail)
  rw [← HW6.out.1, ← HW6.out.2]
  obtain ⟨Z, hZ⟩ : ∃ Z : Assn, Z = sep (blk g (.cells #[.pointer (some ⟨pb, 0, none⟩), .pointer (some ⟨pb, 1, none⟩)] 125 (0, 0))) (sep (blk q (.cells #[.slice none 0 0, .slice none 0 0, .slice none 0 0] 40 (0, 0))) (sep (kn J) A)) := ⟨_, rfl⟩
  rw [← hZ] at H7
  have HZ := Lib.hid hZ
  clear hZ
  go_wp2_with fail
  go_loopw [18] (fun iv wr => ∃ (j : Nat) (L R : List Nat) (st : RSt) (la : Option Addr) (nl lc : Nat) (ra : Option Addr) (nr rc : Nat), j ≤ 2 ∧ iv = .int .i64 (j : Nat) ∧ Hid (RSt.small st ∧ PathA lb s1 j L R st ∧ Sat W wr (sep (isRd 129 p1 st) (sep (osl 43 1 la nl lc (L.map uv)) (sep (osl 43 1 ra nr rc (R.map uv)) (sep (blk pb (.cells #[.slice la nl lc, .slice ra nr rc, .slice ca ncb cc] 40 (0, 0))) Z)))))) (fun iv _ => 2 - (intOf iv).toNat)
  case atStart => exact ⟨0, [], [], s1, none, 0, 0, none, 0, 0, by omega, rfl, Lib.hid ⟨HSM.out, H7.out⟩⟩
  case round =>
    clear H7
    obtain ⟨j, L, R, st, la, nl, lc, ra, nr, rc, hj, rfl, HS⟩ := hrel
    have hzz := HS.out.2.2
    rw [HZ.out] at hzz
    have k0 : wr.cell? ⟨g, 0, none⟩ = some (.pointer (some ⟨pb, 0, none⟩)) := (show Sat W wr (sep (blk g (.cells #[.pointer (some ⟨pb, 0, none⟩), .pointer (some ⟨pb, 1, none⟩)] 125 (0, 0))) _) from hzz.p4).cell 0
    have k1 : wr.cell? ⟨g, 1, none⟩ = some (.pointer (some ⟨pb, 1, none⟩)) := (show Sat W wr (sep (blk g (.cells #[.pointer (some ⟨pb, 0, none⟩), .pointer (some ⟨pb, 1, none⟩)] 125 (0, 0))) _) from hzz.p4).cell 1
    clear hzz
    obtain rfl | rfl | rfl : j = 0 ∨ j = 1 ∨ j = 2 := by omega
    · have HI := Lib.hid (rdint_spec p1 st HS.out.2.2 HS.out.1)
      have HSM1 := Lib.hid (stI_small HS.out.1)
      have HPA := Lib.hid HS.out.2.1
      clear HS
      go_wp2_with fail
      refine HI.out.mono ?_
      rintro e w7 ⟨rfl, h8⟩
      obtain ⟨n, hn⟩ : ∃ n, n = (stI st).1 := ⟨_, rfl⟩
      obtain ⟨st1, hst1⟩ : ∃ z, z = (stI st).2 := ⟨_, rfl⟩
      rw [← hst1] at h8 HSM1
      rw [← hn]
      have HN := Lib.hid (And.intro hn hst1)
      clear hn hst1 HI k0 k1
      by_cases hbad : n < 0 ∨ (lb : Int) < n
      · have HDN : Hid (decA b = none) := Lib.hid (by
          have hb0 := hbad
          rw [HN.out.1, HLB.out] at hb0
          have hp := HPA.out
          rw [HLB.out, HB.out.2.1] at hp
          rw [hp.2.2] at hb0; exact decA_none1 (decL_none hb0))
        have h6 : Sat W w7 (sep (blk q (.cells #[.slice none 0 0, .slice none 0 0, .slice none 0 0] 40 (0, 0))) (sep (isRd 129 p1 st1) (sep (osl 43 1 la nl lc (L.map uv)) (sep (osl 43 1 ra nr rc (R.map uv)) (sep (blk pb (.cells #[.slice la nl lc, .slice ra nr rc, .slice ca ncb cc] 40 (0, 0))) (sep (blk g (.cells #[.pointer (some ⟨pb, 0, none⟩), .pointer (some ⟨pb, 1, none⟩)] 125 (0, 0))) (sep (kn J) A))))))) := by
          have := h8
          rw [HZ.out] at this
          simpa only [sep_comm, sep_lcomm, sep_assoc] using this
        clear h8
        rcases hbad with hneg | hbig
        · clear HPA HN HSM1
          obtain ⟨c0, c1, c2, f0, f1, f2⟩ := pq3 h6
          have hx := pq3_set h6 (.slice none 0 0) (.slice none 0 0) (.slice none 0 0)
          obtain ⟨w9, hw9⟩ : ∃ z, z = ((w7.setCell ⟨q, 0, none⟩ (.slice none 0 0)).setCell ⟨q, 1, none⟩ (.slice none 0 0)).setCell ⟨q, 2, none⟩ (.slice none 0 0) := ⟨_, rfl⟩
          rw [← hw9] at hx
          obtain ⟨d0, d1, d2, -, -, -⟩ := pq3 hx
          have HF := Lib.hid hx.drop.drop.drop.drop.drop.drop
          have HW9 := Lib.hid hw9
          clear hw9 hx h6
          go_wp2_with fail
          rw [← HW9.out]
          exact bodyPost_ret (v := .tuple #[.agg #[.slice none 0 0, .slice none 0 0, .slice none 0 0], .int .i64 2]) (by simp [results, Tryd.results32, go_sem, d0, d1, d2]) rfl ⟨J, _, HB.out.2.2.2.1, by rw [HCD.out.1, if_pos HDN.out], by rw [HCD.out.2, HDN.out]; exact prf_nil J, HF.out⟩
        · by_cases hneg : n < 0
          · clear HPA HN HSM1 hbig
            obtain ⟨c0, c1, c2, f0, f1, f2⟩ := pq3 h6
            have hx := pq3_set h6 (.slice none 0 0) (.slice none 0 0) (.slice none 0 0)
            obtain ⟨w9, hw9⟩ : ∃ z, z = ((w7.setCell ⟨q, 0, none⟩ (.slice none 0 0)).setCell ⟨q, 1, none⟩ (.slice none 0 0)).setCell ⟨q, 2, none⟩ (.slice none 0 0) := ⟨_, rfl⟩
            rw [← hw9] at hx
            obtain ⟨d0, d1, d2, -, -, -⟩ := pq3 hx
            have HF := Lib.hid hx.drop.drop.drop.drop.drop.drop
            have HW9 := Lib.hid hw9
            clear hw9 hx h6
            go_wp2_with fail
            rw [← HW9.out]
            exact bodyPost_ret (v := .tuple #[.agg #[.slice none 0 0, .slice none 0 0, .slice none 0 0], .int .i64 2]) (by simp [results, Tryd.results32, go_sem, d0, d1, d2]) rfl ⟨J, _, HB.out.2.2.2.1, by rw [HCD.out.1, if_pos HDN.out], by rw [HCD.out.2, HDN.out]; exact prf_nil J, HF.out⟩
          · clear HPA HN HSM1
            have hb1 : n > (lb : Int) := hbig
            obtain ⟨c0, c1, c2, f0, f1, f2⟩ := pq3 h6
            have hx := pq3_set h6 (.slice none 0 0) (.slice none 0 0) (.slice none 0 0)
            obtain ⟨w9, hw9⟩ : ∃ z, z = ((w7.setCell ⟨q, 0, none⟩ (.slice none 0 0)).setCell ⟨q, 1, none⟩ (.slice none 0 0)).setCell ⟨q, 2, none⟩ (.slice none 0 0) := ⟨_, rfl⟩
            rw [← hw9] at hx
            obtain ⟨d0, d1, d2, -, -, -⟩ := pq3 hx
            have HF := Lib.hid hx.drop.drop.drop.drop.drop.drop
            have HW9 := Lib.hid hw9
            clear hw9 hx h6
            go_wp2_with fail
            rw [← HW9.out]
            exact bodyPost_ret (v := .tuple #[.agg #[.slice none 0 0, .slice none 0 0, .slice none 0 0], .int .i64 2]) (by simp [results, Tryd.results32, go_sem, d0, d1, d2]) rfl ⟨J, _, HB.out.2.2.2.1, by rw [HCD.out.1, if_pos HDN.out], by rw [HCD.out.2, HDN.out]; exact prf_nil J, HF.out⟩
      · obtain ⟨m, rfl⟩ : ∃ m : Nat, n = (m : Int) := ⟨n.toNat, by omega⟩
        have hm : m ≤ lb := by omega
        have g1 : decide ((m : Int) < 0) = false := by simp
        have g2 : decide (lb < m) = false := by simp; omega
        have hdec := decL_some HN.out.1 hm
        rw [← HN.out.2] at hdec
        have HDEC := Lib.hid hdec
        clear hbad hdec
        have hnil := HPA.out.1
        have hl0 := h8.p1.osl_len.1
        rw [hnil] at h8 hl0
        obtain rfl : nl = 0 := by simpa using hl0.symm
        have H8 : Hid (Sat W w7 (sep (isRd 129 p1 (stS st1 0)) (sep (osl 43 1 la 0 lc ((nmS st1 0).map uv)) (sep (osl 43 1 ra nr rc (R.map uv)) (sep (blk pb (.cells #[.slice la 0 lc, .slice ra nr rc, .slice ca ncb cc] 40 (0, 0))) Z))))) := Lib.hid (by
          have h9 : Sat W w7 (sep (isRd 129 p1 (stS st1 0)) _) := h8
          rw [show ([] : List Nat).map uv = (nmS st1 0).map uv from rfl] at h9
          simpa only [sep_comm, sep_lcomm, sep_assoc] using h9)
        clear h8 hl0 hnil
        go_wp2_with fail
        go_loopw [34] (fun kv wr => ∃ (k : Nat) (a : Option Addr) (c : Nat), k ≤ m ∧ kv = .int .i64 (k : Nat) ∧ Hid (Sat W wr (sep (isRd 129 p1 (stS st1 k)) (sep (osl 43 1 a k c ((nmS st1 k).map uv)) (sep (osl 43 1 ra nr rc (R.map uv)) (sep (blk pb (.cells #[.slice a k c, .slice ra nr rc, .slice ca ncb cc] 40 (0, 0))) Z)))))) (fun kv _ => m - (intOf kv).toNat)
        case atStart => exact ⟨0, _, _, Nat.zero_le _, rfl, H8⟩
        case round =>
          clear H8
          obtain ⟨k, a, c, hk, rfl, HS⟩ := hrel
          by_cases hlt : k < m
          · have g3 : (k : Int) < (m : Int) := by omega
            have hB := HS.out.drew
            have c1 : wr.cell? ⟨pb, 0, none⟩ = some (.slice a k c) := HS.out.p3.cell 0
            clear HS
            go_wp2_with fail
            refine wp_region_canon rfl (fun w' => w'.cell? ⟨pb, 0, none⟩ = some (.slice a k c)) [(0, .p), (1, .p), (2, .p), (3, .s), (4, .p), (5, .e true), (6, .e true), (7, .e false), (8, .p), (9, .e false)] (by kernel_rfl) ?_
            have hS0 : wr.drew.cell? ⟨pb, 0, none⟩ = some (.slice a k c) := c1
            (repeat ((first | (refine C_p (v := ?_) rfl rfl (fun w' => ?_) ?_; rotate_left; (go_simp; with_reducible rfl)) | (refine C_s (v := ?_) rfl rfl hS0 (fun w' hS => ?_) ?_; rotate_left; ((try dsimp only at hS); go_simp; with_reducible rfl)) | (refine C_t (v := ?_) rfl rfl ?_ ?_; rotate_left; (go_simp; with_reducible rfl)) | (refine C_po rfl rfl ?_) | (refine C_so rfl rfl hS0 ?_) | (refine C_to rfl rfl ?_)); simp only [Act.put, List.setIfInBounds_toArray, List.set_cons_zero, List.set_cons_succ]))
            (refine C_e rfl rfl (fun K hK => ?_); go_simp)
            refine (rduint_spec p1 (stS st1 k) hB (stS_small HSM1.out k)).mono ?_
            rintro e w1 ⟨rfl, hS1⟩
            obtain ⟨z, hz⟩ : ∃ z, z = (stU (stS st1 k)).1 := ⟨_, rfl⟩
            rw [← hz]
            have HZZ := Lib.hid hz
            have hE : Sat W w1 (sep (blk pb (.cells #[.slice a k c, .slice ra nr rc, .slice ca ncb cc] 40 (0, 0))) (sep (osl 43 1 a k c ((nmS st1 k).map uv)) (sep (isRd 129 p1 (stS st1 (k + 1))) (sep (osl 43 1 ra nr rc (R.map uv)) Z)))) := by
              have hS2 : Sat W w1 (sep (isRd 129 p1 (stS st1 (k + 1))) _) := hS1
              simpa only [sep_comm, sep_lcomm, sep_assoc] using hS2
            clear hB hS1 c1 hS0 hz
            (refine hK _ _ (fun _ => hE.cell 0) ?_; clear hK K; (try simp only [Act.put, List.setIfInBounds_toArray, List.set_cons_zero, List.set_cons_succ]))
            have hS0 : w1.cell? ⟨pb, 0, none⟩ = some (.slice a k c) := hE.cell 0
            (refine C_e rfl rfl (fun K hK => ?_); go_simp)
            (refine hK _ _ (fun _ => (hE.alloc0 _).cell 0) ?_; clear hK K; (try simp only [Act.put, List.setIfInBounds_toArray, List.set_cons_zero, List.set_cons_succ]))
            refine C_e rfl rfl (fun K hK => ?_)
            refine wp_append_osl (.tmp 39) (.tmp 42) 38 rfl 43 1 8 (.int .u64 0) Tryd.underlying38 infoU64q rfl rfl (hE.alloc0 _).p1 rfl [.int .u64 (z : Nat)] rfl (by simp) (by intro b hb; cases hb; exact new_src _ [_] _) (by simp [Value.oneCell']) (by omega) (by unfold maxLen; omega) ?_
            intro a2 c2 w2 hS2
            have hE2 := hS2.p1
            have e1 : w2.cell? ⟨pb, 0, none⟩ = some (.slice a k c) := hE2.cell 0
            have e2 : w2.frozen? ⟨pb, 0, none⟩ = false := hE2.unfrozen 0
            (refine hK _ _ (fun h => by cases h) ?_; clear hK K; (try simp only [Act.put, List.setIfInBounds_toArray, List.set_cons_zero, List.set_cons_succ]))
            (repeat ((first | (refine C_p (v := ?_) rfl rfl (fun w' => ?_) ?_; rotate_left; (go_simp; with_reducible rfl)) | (refine C_s (v := ?_) rfl rfl hS0 (fun w' hS => ?_) ?_; rotate_left; ((try dsimp only at hS); go_simp; with_reducible rfl)) | (refine C_t (v := ?_) rfl rfl ?_ ?_; rotate_left; (go_simp; with_reducible rfl)) | (refine C_po rfl rfl ?_) | (refine C_so rfl rfl hS0 ?_) | (refine C_to rfl rfl ?_)); simp only [Act.put, List.setIfInBounds_toArray, List.set_cons_zero, List.set_cons_succ]))
            (refine C_e rfl rfl (fun K hK => ?_); go_simp)
            (refine hK _ _ (fun h => by cases h) ?_; clear hK K; (try simp only [Act.put, List.setIfInBounds_toArray, List.set_cons_zero, List.set_cons_succ]))
            refine C_nil ?_
            have h3 := hE2.setCell 0 (.slice a2 (k + 1) c2)
            rw [show (#[.slice a k c, .slice ra nr rc, .slice ca ncb cc] : Array Value).setIfInBounds 0 (.slice a2 (k + 1) c2) = #[.slice a2 (k + 1) c2, .slice ra nr rc, .slice ca ncb cc] from rfl] at h3
            have H3 : Hid (Sat W (w2.setCell ⟨pb, 0, none⟩ (.slice a2 (k + 1) c2)) (sep (isRd 129 p1 (stS st1 (k + 1))) (sep (osl 43 1 a2 (k + 1) c2 ((nmS st1 (k + 1)).map uv)) (sep (osl 43 1 ra nr rc (R.map uv)) (sep (blk pb (.cells #[.slice a2 (k + 1) c2, .slice ra nr rc, .slice ca ncb cc] 40 (0, 0))) Z))))) := Lib.hid (by
              rw [nmS_succ, ← HZZ.out, List.map_append, show [z].map uv = [.int .u64 (z : Nat)] from rfl]
              simpa only [sep_comm, sep_lcomm, sep_assoc] using h3)
            clear h3 hE hE2 hS2 e1 e2 hS0
            go_wp2_with fail
            go_roundw
            case rel => exact ⟨k + 1, a2, c2, by omega, by go_num, H3⟩
            case measure => simp only [intOf]; omega
          · obtain rfl : k = m := by omega
            have g3 : ¬ (k : Int) < (k : Int) := by omega
            have H9 : Hid (RSt.small (stS st1 k) ∧ PathA lb s1 1 (nmS st1 k) R (stS st1 k) ∧ Sat W wr (sep (isRd 129 p1 (stS st1 k)) (sep (osl 43 1 a k c ((nmS st1 k).map uv)) (sep (osl 43 1 ra nr rc (R.map uv)) (sep (blk pb (.cells #[.slice a k c, .slice ra nr rc, .slice ca ncb cc] 40 (0, 0))) Z))))) := Lib.hid ⟨stS_small HSM1.out k, (by have hp := HPA.out; exact ⟨hp.2.1, by rw [← hp.2.2]; exact HDEC.out⟩), by simpa only [sep_comm, sep_lcomm, sep_assoc] using HS.out⟩
            clear HS
            go_wp2_with fail
            go_roundw
            case rel => exact ⟨1, nmS st1 k, R, stS st1 k, a, k, c, ra, nr, rc, by omega, by go_num, H9⟩
            case measure => simp [intOf]
    · have HI := Lib.hid (rdint_spec p1 st HS.out.2.2 HS.out.1)
      have HSM1 := Lib.hid (stI_small HS.out.1)
      have HPA := Lib.hid HS.out.2.1
      clear HS
      go_wp2_with fail
      refine HI.out.mono ?_
      rintro e w7 ⟨rfl, h8⟩
      obtain ⟨n, hn⟩ : ∃ n, n = (stI st).1 := ⟨_, rfl⟩
      obtain ⟨st1, hst1⟩ : ∃ z, z = (stI st).2 := ⟨_, rfl⟩
      rw [← hst1] at h8 HSM1
      rw [← hn]
      have HN := Lib.hid (And.intro hn hst1)
      clear hn hst1 HI k0 k1
      by_cases hbad : n < 0 ∨ (lb : Int) < n
      · have HDN : Hid (decA b = none) := Lib.hid (by
          have hb0 := hbad
          rw [HN.out.1, HLB.out] at hb0
          have hp := HPA.out
          rw [HLB.out, HB.out.2.1] at hp
          exact decA_none2 hp.2 (decL_none hb0))
        have h6 : Sat W w7 (sep (blk q (.cells #[.slice none 0 0, .slice none 0 0, .slice none 0 0] 40 (0, 0))) (sep (isRd 129 p1 st1) (sep (osl 43 1 la nl lc (L.map uv)) (sep (osl 43 1 ra nr rc (R.map uv)) (sep (blk pb (.cells #[.slice la nl lc, .slice ra nr rc, .slice ca ncb cc] 40 (0, 0))) (sep (blk g (.cells #[.pointer (some ⟨pb, 0, none⟩), .pointer (some ⟨pb, 1, none⟩)] 125 (0, 0))) (sep (kn J) A))))))) := by
          have := h8
          rw [HZ.out] at this
          simpa only [sep_comm, sep_lcomm, sep_assoc] using this
        clear h8
        rcases hbad with hneg | hbig
        · clear HPA HN HSM1
          obtain ⟨c0, c1, c2, f0, f1, f2⟩ := pq3 h6
          have hx := pq3_set h6 (.slice none 0 0) (.slice none 0 0) (.slice none 0 0)
          obtain ⟨w9, hw9⟩ : ∃ z, z = ((w7.setCell ⟨q, 0, none⟩ (.slice none 0 0)).setCell ⟨q, 1, none⟩ (.slice none 0 0)).setCell ⟨q, 2, none⟩ (.slice none 0 0) := ⟨_, rfl⟩
          rw [← hw9] at hx
          obtain ⟨d0, d1, d2, -, -, -⟩ := pq3 hx
          have HF := Lib.hid hx.drop.drop.drop.drop.drop.drop
          have HW9 := Lib.hid hw9
          clear hw9 hx h6
          go_wp2_with fail
          rw [← HW9.out]
          exact bodyPost_ret (v := .tuple #[.agg #[.slice none 0 0, .slice none 0 0, .slice none 0 0], .int .i64 2]) (by simp [results, Tryd.results32, go_sem, d0, d1, d2]) rfl ⟨J, _, HB.out.2.2.2.1, by rw [HCD.out.1, if_pos HDN.out], by rw [HCD.out.2, HDN.out]; exact prf_nil J, HF.out⟩
        · by_cases hneg : n < 0
          · clear HPA HN HSM1 hbig
            obtain ⟨c0, c1, c2, f0, f1, f2⟩ := pq3 h6
            have hx := pq3_set h6 (.slice none 0 0) (.slice none 0 0) (.slice none 0 0)
            obtain ⟨w9, hw9⟩ : ∃ z, z = ((w7.setCell ⟨q, 0, none⟩ (.slice none 0 0)).setCell ⟨q, 1, none⟩ (.slice none 0 0)).setCell ⟨q, 2, none⟩ (.slice none 0 0) := ⟨_, rfl⟩
            rw [← hw9] at hx
            obtain ⟨d0, d1, d2, -, -, -⟩ := pq3 hx
            have HF := Lib.hid hx.drop.drop.drop.drop.drop.drop
            have HW9 := Lib.hid hw9
            clear hw9 hx h6
            go_wp2_with fail
            rw [← HW9.out]
            exact bodyPost_ret (v := .tuple #[.agg #[.slice none 0 0, .slice none 0 0, .slice none 0 0], .int .i64 2]) (by simp [results, Tryd.results32, go_sem, d0, d1, d2]) rfl ⟨J, _, HB.out.2.2.2.1, by rw [HCD.out.1, if_pos HDN.out], by rw [HCD.out.2, HDN.out]; exact prf_nil J, HF.out⟩
          · clear HPA HN HSM1
            have hb1 : n > (lb : Int) := hbig
            obtain ⟨c0, c1, c2, f0, f1, f2⟩ := pq3 h6
            have hx := pq3_set h6 (.slice none 0 0) (.slice none 0 0) (.slice none 0 0)
            obtain ⟨w9, hw9⟩ : ∃ z, z = ((w7.setCell ⟨q, 0, none⟩ (.slice none 0 0)).setCell ⟨q, 1, none⟩ (.slice none 0 0)).setCell ⟨q, 2, none⟩ (.slice none 0 0) := ⟨_, rfl⟩
            rw [← hw9] at hx
            obtain ⟨d0, d1, d2, -, -, -⟩ := pq3 hx
            have HF := Lib.hid hx.drop.drop.drop.drop.drop.drop
            have HW9 := Lib.hid hw9
            clear hw9 hx h6
            go_wp2_with fail
            rw [← HW9.out]
            exact bodyPost_ret (v := .tuple #[.agg #[.slice none 0 0, .slice none 0 0, .slice none 0 0], .int .i64 2]) (by simp [results, Tryd.results32, go_sem, d0, d1, d2]) rfl ⟨J, _, HB.out.2.2.2.1, by rw [HCD.out.1, if_pos HDN.out], by rw [HCD.out.2, HDN.out]; exact prf_nil J, HF.out⟩
      · obtain ⟨m, rfl⟩ : ∃ m : Nat, n = (m : Int) := ⟨n.toNat, by omega⟩
        have hm : m ≤ lb := by omega
        have g1 : decide ((m : Int) < 0) = false := by simp
        have g2 : decide (lb < m) = false := by simp; omega
        have hdec := decL_some HN.out.1 hm
        rw [← HN.out.2] at hdec
        have HDEC := Lib.hid hdec
        clear hbad hdec
        have hnil := HPA.out.1
        have hl0 := h8.p2.osl_len.1
        rw [hnil] at h8 hl0
        obtain rfl : nr = 0 := by simpa using hl0.symm
        have H8 : Hid (Sat W w7 (sep (isRd 129 p1 (stS st1 0)) (sep (osl 43 1 ra 0 rc ((nmS st1 0).map uv)) (sep (osl 43 1 la nl lc (L.map uv)) (sep (blk pb (.cells #[.slice la nl lc, .slice ra 0 rc, .slice ca ncb cc] 40 (0, 0))) Z))))) := Lib.hid (by
          have h9 : Sat W w7 (sep (isRd 129 p1 (stS st1 0)) _) := h8
          rw [show ([] : List Nat).map uv = (nmS st1 0).map uv from rfl] at h9
          simpa only [sep_comm, sep_lcomm, sep_assoc] using h9)
        clear h8 hl0 hnil
        go_wp2_with fail
        go_loopw [34] (fun kv wr => ∃ (k : Nat) (a : Option Addr) (c : Nat), k ≤ m ∧ kv = .int .i64 (k : Nat) ∧ Hid (Sat W wr (sep (isRd 129 p1 (stS st1 k)) (sep (osl 43 1 a k c ((nmS st1 k).map uv)) (sep (osl 43 1 la nl lc (L.map uv)) (sep (blk pb (.cells #[.slice la nl lc, .slice a k c, .slice ca ncb cc] 40 (0, 0))) Z)))))) (fun kv _ => m - (intOf kv).toNat)
        case atStart => exact ⟨0, _, _, Nat.zero_le _, rfl, H8⟩
        case round =>
          clear H8
          obtain ⟨k, a, c, hk, rfl, HS⟩ := hrel
          by_cases hlt : k < m
          · have g3 : (k : Int) < (m : Int) := by omega
            have hB := HS.out.drew
            have c1 : wr.cell? ⟨pb, 1, none⟩ = some (.slice a k c) := HS.out.p3.cell 1
            clear HS
            go_wp2_with fail
            refine wp_region_canon rfl (fun w' => w'.cell? ⟨pb, 1, none⟩ = some (.slice a k c)) [(0, .p), (1, .p), (2, .p), (3, .s), (4, .p), (5, .e true), (6, .e true), (7, .e false), (8, .p), (9, .e false)] (by kernel_rfl) ?_
            have hS0 : wr.drew.cell? ⟨pb, 1, none⟩ = some (.slice a k c) := c1
            (repeat ((first | (refine C_p (v := ?_) rfl rfl (fun w' => ?_) ?_; rotate_left; (go_simp; with_reducible rfl)) | (refine C_s (v := ?_) rfl rfl hS0 (fun w' hS => ?_) ?_; rotate_left; ((try dsimp only at hS); go_simp; with_reducible rfl)) | (refine C_t (v := ?_) rfl rfl ?_ ?_; rotate_left; (go_simp; with_reducible rfl)) | (refine C_po rfl rfl ?_) | (refine C_so rfl rfl hS0 ?_) | (refine C_to rfl rfl ?_)); simp only [Act.put, List.setIfInBounds_toArray, List.set_cons_zero, List.set_cons_succ]))
            (refine C_e rfl rfl (fun K hK => ?_); go_simp)
            refine (rduint_spec p1 (stS st1 k) hB (stS_small HSM1.out k)).mono ?_
            rintro e w1 ⟨rfl, hS1⟩
            obtain ⟨z, hz⟩ : ∃ z, z = (stU (stS st1 k)).1 := ⟨_, rfl⟩
            rw [← hz]
            have HZZ := Lib.hid hz
            have hE : Sat W w1 (sep (blk pb (.cells #[.slice la nl lc, .slice a k c, .slice ca ncb cc] 40 (0, 0))) (sep (osl 43 1 a k c ((nmS st1 k).map uv)) (sep (isRd 129 p1 (stS st1 (k + 1))) (sep (osl 43 1 la nl lc (L.map uv)) Z)))) := by
              have hS2 : Sat W w1 (sep (isRd 129 p1 (stS st1 (k + 1))) _) := hS1
              simpa only [sep_comm, sep_lcomm, sep_assoc] using hS2
            clear hB hS1 c1 hS0 hz
            (refine hK _ _ (fun _ => hE.cell 1) ?_; clear hK K; (try simp only [Act.put, List.setIfInBounds_toArray, List.set_cons_zero, List.set_cons_succ]))
            have hS0 : w1.cell? ⟨pb, 1, none⟩ = some (.slice a k c) := hE.cell 1
            (refine C_e rfl rfl (fun K hK => ?_); go_simp)
            (refine hK _ _ (fun _ => (hE.alloc0 _).cell 1) ?_; clear hK K; (try simp only [Act.put, List.setIfInBounds_toArray, List.set_cons_zero, List.set_cons_succ]))
            refine C_e rfl rfl (fun K hK => ?_)
            refine wp_append_osl (.tmp 39) (.tmp 42) 38 rfl 43 1 8 (.int .u64 0) Tryd.underlying38 infoU64q rfl rfl (hE.alloc0 _).p1 rfl [.int .u64 (z : Nat)] rfl (by simp) (by intro b hb; cases hb; exact new_src _ [_] _) (by simp [Value.oneCell']) (by omega) (by unfold maxLen; omega) ?_
            intro a2 c2 w2 hS2
            have hE2 := hS2.p1
            have e1 : w2.cell? ⟨pb, 1, none⟩ = some (.slice a k c) := hE2.cell 1
            have e2 : w2.frozen? ⟨pb, 1, none⟩ = false := hE2.unfrozen 1
            (refine hK _ _ (fun h => by cases h) ?_; clear hK K; (try simp only [Act.put, List.setIfInBounds_toArray, List.set_cons_zero, List.set_cons_succ]))
            (repeat ((first | (refine C_p (v := ?_) rfl rfl (fun w' => ?_) ?_; rotate_left; (go_simp; with_reducible rfl)) | (refine C_s (v := ?_) rfl rfl hS0 (fun w' hS => ?_) ?_; rotate_left; ((try dsimp only at hS); go_simp; with_reducible rfl)) | (refine C_t (v := ?_) rfl rfl ?_ ?_; rotate_left; (go_simp; with_reducible rfl)) | (refine C_po rfl rfl ?_) | (refine C_so rfl rfl hS0 ?_) | (refine C_to rfl rfl ?_)); simp only [Act.put, List.setIfInBounds_toArray, List.set_cons_zero, List.set_cons_succ]))
            (refine C_e rfl rfl (fun K hK => ?_); go_simp)
            (refine hK _ _ (fun h => by cases h) ?_; clear hK K; (try simp only [Act.put, List.setIfInBounds_toArray, List.set_cons_zero, List.set_cons_succ]))
            refine C_nil ?_
            have h3 := hE2.setCell 1 (.slice a2 (k + 1) c2)
            rw [show (#[.slice la nl lc, .slice a k c, .slice ca ncb cc] : Array Value).setIfInBounds 1 (.slice a2 (k + 1) c2) = #[.slice la nl lc, .slice a2 (k + 1) c2, .slice ca ncb cc] from rfl] at h3
            have H3 : Hid (Sat W (w2.setCell ⟨pb, 1, none⟩ (.slice a2 (k + 1) c2)) (sep (isRd 129 p1 (stS st1 (k + 1))) (sep (osl 43 1 a2 (k + 1) c2 ((nmS st1 (k + 1)).map uv)) (sep (osl 43 1 la nl lc (L.map uv)) (sep (blk pb (.cells #[.slice la nl lc, .slice a2 (k + 1) c2, .slice ca ncb cc] 40 (0, 0))) Z))))) := Lib.hid (by
              rw [nmS_succ, ← HZZ.out, List.map_append, show [z].map uv = [.int .u64 (z : Nat)] from rfl]
              simpa only [sep_comm, sep_lcomm, sep_assoc] using h3)
            clear h3 hE hE2 hS2 e1 e2 hS0
            go_wp2_with fail
            go_roundw
            case rel => exact ⟨k + 1, a2, c2, by omega, by go_num, H3⟩
            case measure => simp only [intOf]; omega
          · obtain rfl : k = m := by omega
            have g3 : ¬ (k : Int) < (k : Int) := by omega
            have H9 : Hid (RSt.small (stS st1 k) ∧ PathA lb s1 2 L (nmS st1 k) (stS st1 k) ∧ Sat W wr (sep (isRd 129 p1 (stS st1 k)) (sep (osl 43 1 la nl lc (L.map uv)) (sep (osl 43 1 a k c ((nmS st1 k).map uv)) (sep (blk pb (.cells #[.slice la nl lc, .slice a k c, .slice ca ncb cc] 40 (0, 0))) Z))))) := Lib.hid ⟨stS_small HSM1.out k, ⟨st, HPA.out.2, HDEC.out⟩, by simpa only [sep_comm, sep_lcomm, sep_assoc] using HS.out⟩
            clear HS
            go_wp2_with fail
            go_roundw
            case rel => exact ⟨2, L, nmS st1 k, stS st1 k, la, nl, lc, a, k, c, by omega, by go_num, H9⟩
            case measure => simp [intOf]
    · have HE := Lib.hid (rdend_spec p1 st HS.out.2.2 HS.out.1)
      have HPA := Lib.hid HS.out.2.1
      clear HS
      go_wp2_with fail
      refine HE.out.mono ?_
      rintro e w7 ⟨rfl, h8⟩
      obtain ⟨ee, hee⟩ : ∃ z, z = stE st := ⟨_, rfl⟩
      rw [← hee]
      have hA : decA b = if ee ≠ 0 then none else some ⟨L, R, cb⟩ := by
        obtain ⟨S2, q1, q2⟩ := HPA.out
        rw [HLB.out, HB.out.2.1] at q1
        rw [HLB.out] at q2
        rw [decA_end q1 q2, ← hee, ← HB.out.1]
      clear HE HPA hee k0 k1
      have h6 : Sat W w7 (sep (blk q (.cells #[.slice none 0 0, .slice none 0 0, .slice none 0 0] 40 (0, 0))) (sep (isRd 129 p1 st) (sep (osl 43 1 la nl lc (L.map uv)) (sep (osl 43 1 ra nr rc (R.map uv)) (sep (blk pb (.cells #[.slice la nl lc, .slice ra nr rc, .slice ca ncb cc] 40 (0, 0))) (sep (blk g (.cells #[.pointer (some ⟨pb, 0, none⟩), .pointer (some ⟨pb, 1, none⟩)] 125 (0, 0))) (sep (kn J) A))))))) := by
        have := h8
        rw [HZ.out] at this
        simpa only [sep_comm, sep_lcomm, sep_assoc] using this
      by_cases he : ee = 0
      · subst he
        have HA2 : Hid (decA b = some ⟨L, R, cb⟩) := Lib.hid (by rw [hA, if_neg (by simp)])
        have h9 : Sat W w7 (sep (osl 43 1 la nl lc (L.map uv)) (sep (kn J) (sep (osl 43 1 ra nr rc (R.map uv)) (sep (blk q (.cells #[.slice none 0 0, .slice none 0 0, .slice none 0 0] 40 (0, 0))) (sep (blk pb (.cells #[.slice la nl lc, .slice ra nr rc, .slice ca ncb cc] 40 (0, 0))) (sep (isRd 129 p1 st) (sep (blk g (.cells #[.pointer (some ⟨pb, 0, none⟩), .pointer (some ⟨pb, 1, none⟩)] 125 (0, 0))) A))))))) := by simpa only [sep_comm, sep_lcomm, sep_assoc] using h6
        obtain ⟨J1, l1, rL, h10⟩ := hs_learn h9 (by have := h9.osl_len.1; simpa using this.symm)
        have h11 : Sat W w7 (sep (osl 43 1 ra nr rc (R.map uv)) (sep (kn J1) (sep (blk q (.cells #[.slice none 0 0, .slice none 0 0, .slice none 0 0] 40 (0, 0))) (sep (blk pb (.cells #[.slice la nl lc, .slice ra nr rc, .slice ca ncb cc] 40 (0, 0))) (sep (isRd 129 p1 st) (sep (blk g (.cells #[.pointer (some ⟨pb, 0, none⟩), .pointer (some ⟨pb, 1, none⟩)] 125 (0, 0))) A)))))) := by simpa only [sep_comm, sep_lcomm, sep_assoc] using h10
        obtain ⟨J2, l2, rR, h12⟩ := hs_learn h11 (by have := h11.osl_len.1; simpa using this.symm)
        have h13 : Sat W w7 (sep (blk q (.cells #[.slice none 0 0, .slice none 0 0, .slice none 0 0] 40 (0, 0))) (sep (blk pb (.cells #[.slice la nl lc, .slice ra nr rc, .slice ca ncb cc] 40 (0, 0))) (sep (isRd 129 p1 st) (sep (blk g (.cells #[.pointer (some ⟨pb, 0, none⟩), .pointer (some ⟨pb, 1, none⟩)] 125 (0, 0))) (sep (kn J2) A))))) := by simpa only [sep_comm, sep_lcomm, sep_assoc] using h12
        obtain ⟨e0, e1, e2, -, -, -⟩ := pq3 h13.p1
        obtain ⟨c0, c1, c2, f0, f1, f2⟩ := pq3 h13
        have hx := pq3_set h13 (.slice la nl lc) (.slice ra nr rc) (.slice ca ncb cc)
        obtain ⟨w9, hw9⟩ : ∃ z, z = ((w7.setCell ⟨q, 0, none⟩ (.slice la nl lc)).setCell ⟨q, 1, none⟩ (.slice ra nr rc)).setCell ⟨q, 2, none⟩ (.slice ca ncb cc) := ⟨_, rfl⟩
        rw [← hw9] at hx
        obtain ⟨d0, d1, d2, -, -, -⟩ := pq3 hx
        have HF := Lib.hid hx.drop.drop.drop.drop
        have HW9 := Lib.hid hw9
        have HR := Lib.hid (show prfR J2 (.agg #[.slice la nl lc, .slice ra nr rc, .slice ca ncb cc]) ⟨L, R, cb⟩ from ⟨_, _, _, rfl, rHs.mono l2 rL, rR, rBytes.mono (Mem.le_trans l1 l2) HB.out.2.2.2.2⟩)
        have HLE := Lib.hid (Mem.le_trans (Mem.le_trans HB.out.2.2.2.1 l1) l2)
        clear hw9 hx h6 h8 h9 h10 h11 h12 h13 rL rR l1 l2 hA
        go_wp2_with fail
        rw [← HW9.out]
        exact bodyPost_ret (v := .tuple #[.agg #[.slice la nl lc, .slice ra nr rc, .slice ca ncb cc], .int .i64 0]) (by simp [results, Tryd.results32, go_sem, d0, d1, d2]) rfl ⟨J2, _, HLE.out, by rw [HCD.out.1, if_neg (by rw [HA2.out]; simp)], by rw [HCD.out.2, HA2.out]; exact HR.out, HF.out⟩
      · have b1 : (ee != 0) = true := by simp; omega
        have HDN : Hid (decA b = none) := Lib.hid (by rw [hA, if_pos he])
        clear he hA h8
        obtain ⟨c0, c1, c2, f0, f1, f2⟩ := pq3 h6
        have hx := pq3_set h6 (.slice none 0 0) (.slice none 0 0) (.slice none 0 0)
        obtain ⟨w9, hw9⟩ : ∃ z, z = ((w7.setCell ⟨q, 0, none⟩ (.slice none 0 0)).setCell ⟨q, 1, none⟩ (.slice none 0 0)).setCell ⟨q, 2, none⟩ (.slice none 0 0) := ⟨_, rfl⟩
        rw [← hw9] at hx
        obtain ⟨d0, d1, d2, -, -, -⟩ := pq3 hx
        have HF := Lib.hid hx.drop.drop.drop.drop.drop.drop
        have HW9 := Lib.hid hw9
        clear hw9 hx h6
        go_wp2_with fail
        rw [← HW9.out]
        exact bodyPost_ret (v := .tuple #[.agg #[.slice none 0 0, .slice none 0 0, .slice none 0 0], .int .i64 2]) (by simp [results, Tryd.results32, go_sem, d0, d1, d2]) rfl ⟨J, _, HB.out.2.2.2.1, by rw [HCD.out.1, if_pos HDN.out], by rw [HCD.out.2, HDN.out]; exact prf_nil J, HF.out⟩
end Go.Proofs.YtcmjbjlliehdiaaDoor
