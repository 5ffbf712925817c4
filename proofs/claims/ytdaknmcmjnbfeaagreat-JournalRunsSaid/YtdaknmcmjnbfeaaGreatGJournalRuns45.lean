/- journal.Open; fresh. -/
import Derived.Test.YtdaknmcmjnbfeaaGreatGJournalRunsSL1
import Derived.Test.YtdaknmcmjnbfeaaGreatGJournalRuns44
import Derived.Test.YtdaknmcmjnbfeaaGreatGJournalRunsSW9
import Derived.Test.YtdaknmcmjnbfeaaGreatGJournalRuns16
import Derived.Deep.DeepCutAuto
namespace Go.Proofs.YtdaknmcmjnbfeaaGreat
open Go.RowKit PA
def cutTo (d : DSt) (file : Int) (sc n : Nat) : Int × DSt := if sc < n then truncD d file sc else (0, d)
def openT (t : Int × DSt) (rs : List (List UInt8)) : Int × DSt × List (List UInt8) :=
  if t.1 ≠ 0 then (t.1, t.2, []) else if (syncD t.2).1 ≠ 0 then ((syncD t.2).1, (syncD t.2).2, []) else (0, (syncD t.2).2, rs)
def openJ (d : DSt) (file : Int) : Int × DSt × List (List UInt8) :=
  if (readD d file).2 ≠ 0 then ((readD d file).2, d, []) else openT (cutTo d file (scanJ 0 (readD d file).1).2 (readD d file).1.length) (scanJ 0 (readD d file).1).1
theorem scanJ_le : ∀ (n i : Nat) (l : List UInt8), l.length ≤ n → (scanJ i l).2 ≤ l.length ∧ (scanJ i l).1.length ≤ l.length
  | 0, i, l, h => by
    have e : l = [] := List.eq_nil_of_length_eq_zero (by omega)
    rw [scanJ_short i l (by rw [e]; simp)]
    simp
  | n + 1, i, l, h => by
    by_cases hg : l ≠ [] ∧ l.take (frameJ i (recJ l)).length = frameJ i (recJ l)
    · rw [scanJ_go hg]
      have hf := frameJ_ge4 i (recJ l)
      have hle := congrArg List.length hg.2
      rw [List.length_take] at hle
      have ih := scanJ_le n (i + 1) (l.drop (frameJ i (recJ l)).length) (by rw [List.length_drop]; omega)
      rw [List.length_drop] at ih
      dsimp only
      rw [List.length_cons]
      omega
    · rw [scanJ_no hg]; simp
theorem slice_form' {α : Type} {R : Rep α} {k : Nat} {I : Mem} {v : Value} {xs : List α} (h : (R.slice k).rel I [v] xs) : ∃ a c, v = .slice a xs.length c ∧ Swf a xs.length c := by
  obtain ⟨a, c, cells, e, hw, -, -⟩ := h
  cases e
  exact ⟨a, c, rfl, hw⟩
def openPost (W : World) (A : Assn) (I : Mem) (p : Nat) (file : Int) (r : Int × DSt × List (List UInt8)) (e : Ending) (w' : World) : Prop :=
  (r.1 = 0 → ∃ q u, e = .returned (.tuple #[.pointer (some ⟨q, 0, none⟩), u, .int .i64 0]) ∧ Sat W w' (sep (isLog q p ⟨file.toNat, r.2.2.length, false⟩) (sep ((rBytes.slice 1).is [u] r.2.2) (sep (isDisk p r.2.1) (sep (kn I) A))))) ∧
  (r.1 ≠ 0 → e = .returned (.tuple #[.pointer none, .slice none 0 0, .int .i64 r.1]) ∧ Sat W w' (sep (isDisk p r.2.1) (sep (kn I) A)))
theorem jopen_nil {W w : World} {A : Assn} (file : Int) (h : Sat W w A) :
    Calls Tryz.prog 7 #[.pointer none, .int .i64 file] w fun e w' => e = .returned (.tuple #[.pointer none, .slice none 0 0, .int .i64 1]) ∧ Sat W w' A := by
  go_enter Tryz.func7, Tryz.ntmps7
  go_wp2_with fail
  refine bodyPost_ret (results_tmp3 rfl _ _ _) rfl ⟨rfl, h⟩
set_option maxRecDepth 100000 in
set_option maxHeartbeats 4000000 in
theorem jopen_spec {W w : World} {A : Assn} {I : Mem} (p : Nat) (d : DSt) (file : Int) (h : Sat W w (sep (isDisk p d) (sep (kn I) A))) (hlen : (readD d file).1.length ≤ 1000000) :
    Calls Tryz.prog 7 #[.pointer (some ⟨p, 0, none⟩), .int .i64 file] w fun e w' => openPost W A I p file (openJ d file) e w' := by
  have hrd := dread_spec p d file h
  have hop : openJ d file = if (readD d file).2 ≠ 0 then ((readD d file).2, d, []) else openT (cutTo d file (scanJ 0 (readD d file).1).2 (readD d file).1.length) (scanJ 0 (readD d file).1).1 := rfl
  obtain ⟨bs, hbs⟩ : ∃ bs, bs = (readD d file).1 := ⟨_, rfl⟩
  obtain ⟨e0, he0⟩ : ∃ e0, e0 = (readD d file).2 := ⟨_, rfl⟩
  rw [← hbs, ← he0] at hrd hop
  rw [← hbs] at hlen
  have hfile : e0 = 0 → 0 ≤ file := fun e => by
    rw [he0, readD] at e
    by_cases h1 : file < 0 ∨ 64 ≤ file
    · rw [if_pos h1] at e; cases e
    · omega
  obtain ⟨rs, hrs⟩ : ∃ rs, rs = (scanJ 0 bs).1 := ⟨_, rfl⟩
  obtain ⟨sc, hsc⟩ : ∃ sc, sc = (scanJ 0 bs).2 := ⟨_, rfl⟩
  obtain ⟨bl, hbl⟩ : ∃ bl, bl = bs.length := ⟨_, rfl⟩
  rw [← hrs, ← hsc, ← hbl] at hop
  have hscb : sc ≤ 1000000 := by rw [hsc]; have := (scanJ_le bs.length 0 bs (Nat.le_refl _)).1; omega
  have HOP := Lib.hid hop
  have HRD := Lib.hid hrd
  have HS := Lib.hid (And.intro hrs (And.intro hsc hbl))
  have HLEN := Lib.hid hlen
  have HFILE := Lib.hid hfile
  rw [← hbl] at HRD
  clear h hrd hop hrs hsc hbl hbs he0 hlen hfile
  go_enter Tryz.func7, Tryz.ntmps7
  go_wp2_with fail
  refine HRD.out.mono ?_
  rintro e w2 ⟨a2, c2, rfl, h2⟩
  clear HRD
  by_cases hz : e0 = 0
  · have HF := Lib.hid (HFILE.out hz)
    subst hz
    obtain ⟨J, hJ, hb, h3⟩ := (show Sat W w2 (sep (rBytes.is [.slice a2 bl c2] bs) (sep (kn I) (sep (isDisk p d) A))) by
      have := h2.bytes_of_osl.2
      simpa only [sep_comm, sep_lcomm, sep_assoc] using this).learn
    have HB := Lib.hid hb
    have HJ := Lib.hid hJ
    clear h2 hb hJ HFILE
    go_wp2_with fail
    refine (scan_spec _ bs h3 HB.out HLEN.out).mono ?_
    rintro e w3 ⟨u, rfl, h4⟩
    rw [← HS.out.1] at h4
    rw [← HS.out.2.1]
    obtain ⟨ua, uc, rfl, -⟩ := slice_form' h4.pers_heap
    have h5 : Sat W w3 (sep (isDisk p d) (sep ((rBytes.slice 1).is [.slice ua rs.length uc] rs) (sep (kn J) A))) := by simpa only [sep_comm, sep_lcomm, sep_assoc] using h4
    obtain ⟨rl, hrl⟩ : ∃ rl, rl = rs.length := ⟨_, rfl⟩
    rw [← hrl] at h5 ⊢
    have HRL := Lib.hid hrl
    clear h3 h4 hrl
    by_cases hcut : sc < bl
    · have g1 : (sc : Int) < (bl : Int) := by omega
      have hct : cutTo d file sc bl = truncD d file sc := by rw [cutTo, if_pos hcut]
      rw [hct] at HOP
      clear hct hcut
      go_wp2_with fail
      refine (dtrunc_spec p d file (sc : Int) h5).mono ?_
      rintro e w4 ⟨rfl, h6⟩
      obtain ⟨⟨e1, d1⟩, ht⟩ : ∃ t, t = truncD d file sc := ⟨_, rfl⟩
      rw [← ht] at h6 HOP ⊢
      dsimp only at h6 ⊢
      have HOP2 : Hid (openJ d file = openT (e1, d1) rs) := Lib.hid (by rw [HOP.out]; simp)
      clear h5 ht
      by_cases hz1 : e1 = 0
      · subst hz1
        go_wp2_with fail
        refine (dsync_spec p d1 h6).mono ?_
        rintro e w5 ⟨rfl, h7⟩
        obtain ⟨⟨e2, d2⟩, ht2⟩ : ∃ t, t = syncD d1 := ⟨_, rfl⟩
        rw [← ht2] at h7 ⊢
        dsimp only at h7 ⊢
        have HT2 := Lib.hid ht2
        clear h6 ht2
        by_cases hz2 : e2 = 0
        · subst hz2
          have hfin : openJ d file = (0, d2, rs) := by rw [HOP2.out, openT, ← HT2.out]; simp
          have h8 := h7.alloc (.cells #[.pointer (some ⟨p, 0, none⟩), .int .i64 file, .int .i64 (rl : Nat), .bool false] 59)
          have HFIN := Lib.hid hfin
          clear hfin
          go_wp2_with fail
          refine bodyPost_ret (results_tmp3 rfl _ _ _) rfl ?_
          rw [openPost, HFIN.out]
          refine ⟨fun _ => ⟨w5.heap.size, .slice ua rl uc, rfl, ?_⟩, fun h => absurd rfl h⟩
          have hf : ((file.toNat : Nat) : Int) = file := by have := HF.out; omega
          show Sat W _ (sep (blk w5.heap.size (.cells #[.pointer (some ⟨p, 0, none⟩), .int .i64 (file.toNat : Nat), .int .i64 (rs.length : Nat), .bool false] 59 (0, 0))) (sep ((rBytes.slice 1).is [.slice ua rl uc] rs) (sep (isDisk p d2) (sep (kn I) A))))
          rw [hf, ← HRL.out]
          have h9 := h8.p3.kn_mono HJ.out
          simpa only [sep_comm, sep_lcomm, sep_assoc] using h9
        · have b2 : (e2 == 0) = false := by simp [hz2]
          have b3 : (e2 != 0) = true := by simp [hz2]
          have hfin : openJ d file = (e2, d2, []) := by rw [HOP2.out, openT, ← HT2.out]; simp [hz2]
          have HFIN := Lib.hid (And.intro hfin hz2)
          clear hfin hz2
          go_wp2_with fail
          refine bodyPost_ret (results_tmp3 rfl _ _ _) rfl ?_
          rw [openPost, HFIN.out.1]
          refine ⟨fun h => absurd h HFIN.out.2, fun _ => ⟨rfl, ?_⟩⟩
          have h8 : Sat W w5 (sep (kn J) (sep (isDisk p d2) A)) := by
            have := h7.p1.drop
            simpa only [sep_comm, sep_lcomm, sep_assoc] using this
          exact (h8.kn_mono HJ.out).p1
      · have b2 : (e1 == 0) = false := by simp [hz1]
        have b3 : (e1 != 0) = true := by simp [hz1]
        have hfin : openJ d file = (e1, d1, []) := by rw [HOP2.out, openT]; simp [hz1]
        have HFIN := Lib.hid (And.intro hfin hz1)
        clear hfin hz1
        go_wp2_with fail
        refine bodyPost_ret (results_tmp3 rfl _ _ _) rfl ?_
        rw [openPost, HFIN.out.1]
        refine ⟨fun h => absurd h HFIN.out.2, fun _ => ⟨rfl, ?_⟩⟩
        have h8 : Sat W w4 (sep (kn J) (sep (isDisk p d1) A)) := by
          have := h6.p1.drop
          simpa only [sep_comm, sep_lcomm, sep_assoc] using this
        exact (h8.kn_mono HJ.out).p1
    · have g1 : ¬ (sc : Int) < (bl : Int) := by omega
      have hct : cutTo d file sc bl = (0, d) := by rw [cutTo, if_neg hcut]
      have HOP2 : Hid (openJ d file = openT (0, d) rs) := Lib.hid (by rw [HOP.out, hct]; simp)
      clear hct hcut
      go_wp2_with fail
      refine (dsync_spec p d h5).mono ?_
      rintro e w5 ⟨rfl, h7⟩
      obtain ⟨⟨e2, d2⟩, ht2⟩ : ∃ t, t = syncD d := ⟨_, rfl⟩
      rw [← ht2] at h7 ⊢
      dsimp only at h7 ⊢
      have HT2 := Lib.hid ht2
      clear h5 ht2
      by_cases hz2 : e2 = 0
      · subst hz2
        have hfin : openJ d file = (0, d2, rs) := by rw [HOP2.out, openT, ← HT2.out]; simp
        have h8 := h7.alloc (.cells #[.pointer (some ⟨p, 0, none⟩), .int .i64 file, .int .i64 (rl : Nat), .bool false] 59)
        have HFIN := Lib.hid hfin
        clear hfin
        go_wp2_with fail
        refine bodyPost_ret (results_tmp3 rfl _ _ _) rfl ?_
        rw [openPost, HFIN.out]
        refine ⟨fun _ => ⟨w5.heap.size, .slice ua rl uc, rfl, ?_⟩, fun h => absurd rfl h⟩
        have hf : ((file.toNat : Nat) : Int) = file := by have := HF.out; omega
        show Sat W _ (sep (blk w5.heap.size (.cells #[.pointer (some ⟨p, 0, none⟩), .int .i64 (file.toNat : Nat), .int .i64 (rs.length : Nat), .bool false] 59 (0, 0))) (sep ((rBytes.slice 1).is [.slice ua rl uc] rs) (sep (isDisk p d2) (sep (kn I) A))))
        rw [hf, ← HRL.out]
        have h9 := h8.p3.kn_mono HJ.out
        simpa only [sep_comm, sep_lcomm, sep_assoc] using h9
      · have b2 : (e2 == 0) = false := by simp [hz2]
        have b3 : (e2 != 0) = true := by simp [hz2]
        have hfin : openJ d file = (e2, d2, []) := by rw [HOP2.out, openT, ← HT2.out]; simp [hz2]
        have HFIN := Lib.hid (And.intro hfin hz2)
        clear hfin hz2
        go_wp2_with fail
        refine bodyPost_ret (results_tmp3 rfl _ _ _) rfl ?_
        rw [openPost, HFIN.out.1]
        refine ⟨fun h => absurd h HFIN.out.2, fun _ => ⟨rfl, ?_⟩⟩
        have h8 : Sat W w5 (sep (kn J) (sep (isDisk p d2) A)) := by
          have := h7.p1.drop
          simpa only [sep_comm, sep_lcomm, sep_assoc] using this
        exact (h8.kn_mono HJ.out).p1
  · have b3 : (e0 != 0) = true := by simp [hz]
    have hfin : openJ d file = (e0, d, []) := by rw [HOP.out]; simp [hz]
    have HFIN := Lib.hid (And.intro hfin hz)
    have h3 := h2.forget_osl
    clear hfin hz h2
    go_wp2_with fail
    refine bodyPost_ret (results_tmp3 rfl _ _ _) rfl ?_
    rw [openPost, HFIN.out.1]
    exact ⟨fun h => absurd h HFIN.out.2, fun _ => ⟨rfl, h3⟩⟩
end Go.Proofs.YtdaknmcmjnbfeaaGreat
/- The wire's reader over bytes of the call's own. -/
namespace Go.Proofs.YtdaknmcmjnbfeaaGreat
open Go.RowKit PA
theorem read_any {W w : World} {A : Assn} (a : Option Addr) (c : Nat) (l : List UInt8) (h : Sat W w A) (hsw : Swf a l.length c) (hsrc : ∀ b, a = some b → ∀ j u, (l.map bv)[j]? = some u → w.cell? (b.add j) = some u) (hb : l.length ≤ 1073742900) :
    Calls Tryz.prog 76 #[.slice a l.length c] w fun e w' => ∃ p, e = .returned (.pointer (some ⟨p, 0, none⟩)) ∧ Sat W w' (sep (isRd 118 p (.ok l)) A) := by
  have hcl := clone_any a l.length c (l.map bv) h hsrc (by simp) hsw (bv_one l) (by omega)
  have HCL := Lib.hid hcl
  clear hsrc hcl hsw hb h
  go_enter Tryz.func76, Tryz.ntmps76
  go_wp2_with fail
  refine HCL.out.mono ?_
  rintro e w2 ⟨a2, c2, rfl, hS⟩
  have h2 := hS.bytes_of_osl.2
  have h3 := h2.alloc (.cells #[.slice a2 l.length c2, .int .i64 0] 118)
  clear hS h2
  go_wp2_with fail
  go_ret
  exact ⟨w2.heap.size, rfl, isRd_okmk rfl h3⟩
end Go.Proofs.YtdaknmcmjnbfeaaGreat
/- JournalFrames, the walk. -/
namespace PA
open Go Go.RowKit
theorem slice_form {α : Type} {R : Rep α} {k : Nat} {I : Mem} {v : Value} {xs : List α} (h : (R.slice k).rel I [v] xs) : ∃ a c, v = .slice a xs.length c ∧ Swf a xs.length c := by
  obtain ⟨a, c, cells, e, hw, -, -⟩ := h
  cases e
  exact ⟨a, c, rfl, hw⟩
theorem rows_take_rel {α : Type} {R : Rep α} {k : Nat} {I : Mem} {cs : List Value} {xs : List α} (h : (R.rows k).rel I cs xs) (n : Nat) : (R.rows k).rel I (cs.take (n * k)) (xs.take n) := by
  obtain ⟨css, rfl, hall⟩ := h
  exact ⟨css.take n, flatten_take css (fun c hc => (hall.mem c hc).choose_spec.2) n, hall.take n⟩
theorem slice_take {α : Type} {R : Rep α} {k : Nat} {I : Mem} {a : Option Addr} {n c : Nat} {xs : List α} (j : Nat) (hj : j ≤ n) (h : (R.slice k).rel I [.slice a n c] xs) : (R.slice k).rel I [.slice a j c] (xs.take j) := by
  obtain ⟨a', c', cells, e, hw, hc, hr⟩ := h
  simp only [List.cons.injEq, Value.slice.injEq, and_true] at e
  obtain ⟨rfl, rfl, rfl⟩ := e
  have hl : (xs.take j).length = j := by rw [List.length_take]; omega
  refine ⟨a, c, cells.take (j * k), by rw [hl], ⟨by rw [hl]; have := hw.1; omega, hw.2.1, hw.2.2⟩, ?_, rows_take_rel hr j⟩
  rcases hc with hc | ⟨b, o, cs, t, f, e1, e2, e3⟩
  · left; rw [hc]; simp
  · right
    refine ⟨b, o, cs, t, f, e1, e2, fun i u hu => e3 i u ?_⟩
    rw [List.getElem?_take] at hu
    split at hu
    · exact hu
    · cases hu
theorem slice_elem {α : Type} {R : Rep α} {I : Mem} {w : World} {a : Option Addr} {n c : Nat} {xs : List α} (h : (R.slice 1).rel I [.slice a n c] xs) (he : Ext I w) (i : Nat) (hi : i < xs.length) :
    ∃ b o v, a = some ⟨b, o, none⟩ ∧ w.cell? ⟨b, o + i, none⟩ = some v ∧ R.rel I [v] xs[i] := by
  obtain ⟨a', c', cells, e, hw, hc, css, rfl, hall⟩ := h
  simp only [List.cons.injEq, Value.slice.injEq, and_true] at e
  obtain ⟨rfl, rfl, rfl⟩ := e
  have hl := hall.length
  have hi' : i < css.length := by omega
  obtain ⟨hr, hk⟩ := hall.get i hi' hi
  obtain ⟨v, hv⟩ : ∃ v, css[i] = [v] := by
    match hcs : css[i], hk with
    | [x], _ => exact ⟨x, rfl⟩
  have hf := flatten_get (k := 1) css (fun c hc => (hall.mem c hc).choose_spec.2) i hi' 0 (by omega)
  rw [hv] at hf hr
  have hf2 : css.flatten[i]? = some v := by simpa using hf
  obtain ⟨b, o, e, h2⟩ := cells_ext hc (fun e => by rw [e] at hf2; simp at hf2)
  exact ⟨b, o, v, e, h2 w he i v hf2, hr⟩
end PA
namespace Go.Proofs.YtdaknmcmjnbfeaaGreat
open Go.RowKit PA
theorem framesJ_len : ∀ (xs : List (List UInt8)) (i : Nat), i + xs.length ≤ 1000000 → (∀ x ∈ xs, x.length ≤ 200) → (framesJ i xs).length ≤ 240 * xs.length
  | [], i, _, _ => by rw [framesJ_nil]; simp
  | x :: xs, i, h, hx => by
    have h1 := framesJ_len xs (i + 1) (by simp at h; omega) (fun y hy => hx y (by simp [hy]))
    have h2 := hx x (by simp)
    have h3 := frameJ_le i x (by omega) (by simp at h; omega) (by omega)
    rw [framesJ_cons, List.length_append, List.length_cons]
    omega
theorem framesJ_take_le (xs : List (List UInt8)) (k : Nat) (h : xs.length ≤ 1000) (hx : ∀ x ∈ xs, x.length ≤ 200) : (framesJ 0 (xs.take k)).length ≤ 240 * k := by
  have := framesJ_len (xs.take k) 0 (by rw [List.length_take]; omega) (fun x h => hx x (List.mem_of_mem_take h))
  rw [List.length_take] at this
  have : 240 * min k xs.length ≤ 240 * k := Nat.mul_le_mul_left _ (Nat.min_le_left _ _)
  omega
theorem framesJ_take_succ (xs : List (List UInt8)) (k : Nat) (hk : k < xs.length) : framesJ 0 (xs.take (k + 1)) = framesJ 0 (xs.take k) ++ frameJ k xs[k] := by
  rw [List.take_succ_eq_append_getElem hk, framesJ_snoc, List.length_take, Nat.min_eq_left (by omega), Nat.zero_add]
  rfl
end Go.Proofs.YtdaknmcmjnbfeaaGreat
