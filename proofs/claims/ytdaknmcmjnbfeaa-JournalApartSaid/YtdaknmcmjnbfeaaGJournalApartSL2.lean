/- journal.Open; fresh. -/
import Derived.Test.YtdaknmcmjnbfeaaGJournalApartSL1
import Derived.Test.YtdaknmcmjnbfeaaGJournalApart33
namespace Go.Proofs.Ytdaknmcmjnbfeaa
open Go.RowKit PA
def cutTo (d : DSt) (file : Int) (sc n : Nat) : Int × DSt := if sc < n then truncD d file sc else (0, d)
def openT (t : Int × DSt) (rs : List (List UInt8)) : Int × DSt × List (List UInt8) :=
  if t.1 ≠ 0 then (t.1, t.2, []) else if (syncD t.2).1 ≠ 0 then ((syncD t.2).1, (syncD t.2).2, []) else (0, (syncD t.2).2, rs)
def openJ (d : DSt) (file : Int) : Int × DSt × List (List UInt8) :=
  if (readD d file).2 ≠ 0 then ((readD d file).2, d, []) else openT (cutTo d file (scanJ 0 (readD d file).1).2 (readD d file).1.length) (scanJ 0 (readD d file).1).1
theorem scanJ_le : ∀ (n i : Nat) (l : List UInt8), l.length ≤ n → (scanJ i l).2 ≤ l.length ∧ (scanJ i l).1.length ≤ l.length
  | 0, i, l, h => by
    have e : l = [] := List.eq_nil_of_length_eq_zero (by omega)
    rw [scanJ_short i l (by rw [e]; simp)]
    simp
  | n + 1, i, l, h => by
    by_cases hg : l ≠ [] ∧ l.take (frameJ i (recJ l)).length = frameJ i (recJ l)
    · rw [scanJ_go hg]
      have hf := frameJ_ge4 i (recJ l)
      have hle := congrArg List.length hg.2
      rw [List.length_take] at hle
      have ih := scanJ_le n (i + 1) (l.drop (frameJ i (recJ l)).length) (by rw [List.length_drop]; omega)
      rw [List.length_drop] at ih
      dsimp only
      rw [List.length_cons]
      omega
    · rw [scanJ_no hg]; simp
theorem slice_form' {α : Type} {R : Rep α} {k : Nat} {I : Mem} {v : Value} {xs : List α} (h : (R.slice k).rel I [v] xs) : ∃ a c, v = .slice a xs.length c ∧ Swf a xs.length c := by
  obtain ⟨a, c, cells, e, hw, -, -⟩ := h
  cases e
  exact ⟨a, c, rfl, hw⟩
def openPost (W : World) (A : Assn) (I : Mem) (p : Nat) (file : Int) (r : Int × DSt × List (List UInt8)) (e : Ending) (w' : World) : Prop :=
  (r.1 = 0 → ∃ q u, e = .returned (.tuple #[.pointer (some ⟨q, 0, none⟩), u, .int .i64 0]) ∧ Sat W w' (sep (isLog q p ⟨file.toNat, r.2.2.length, false⟩) (sep ((rBytes.slice 1).is [u] r.2.2) (sep (isDisk p r.2.1) (sep (kn I) A))))) ∧
  (r.1 ≠ 0 → e = .returned (.tuple #[.pointer none, .slice none 0 0, .int .i64 r.1]) ∧ Sat W w' (sep (isDisk p r.2.1) (sep (kn I) A)))
theorem jopen_nil {W w : World} {A : Assn} (file : Int) (h : Sat W w A) :
    Calls Try.prog 30 #[.pointer none, .int .i64 file] w fun e w' => e = .returned (.tuple #[.pointer none, .slice none 0 0, .int .i64 1]) ∧ Sat W w' A := by
  go_enter Try.func30, Try.ntmps30
  go_wp2_with fail
  refine bodyPost_ret (results_tmp3 rfl _ _ _) rfl ⟨rfl, h⟩
set_option maxRecDepth 100000 in
set_option maxHeartbeats 4000000 in
theorem jopen_spec {W w : World} {A : Assn} {I : Mem} (p : Nat) (d : DSt) (file : Int) (h : Sat W w (sep (isDisk p d) (sep (kn I) A))) (hlen : (readD d file).1.length ≤ 1000000) :
    Calls Try.prog 30 #[.pointer (some ⟨p, 0, none⟩), .int .i64 file] w fun e w' => openPost W A I p file (openJ d file) e w' := by
  have hrd := dread_spec p d file h
  have hop : openJ d file = if (readD d file).2 ≠ 0 then ((readD d file).2, d, []) else openT (cutTo d file (scanJ 0 (readD d file).1).2 (readD d file).1.length) (scanJ 0 (readD d file).1).1 := rfl
  obtain ⟨bs, hbs⟩ : ∃ bs, bs = (readD d file).1 := ⟨_, rfl⟩
  obtain ⟨e0, he0⟩ : ∃ e0, e0 = (readD d file).2 := ⟨_, rfl⟩
  rw [← hbs, ← he0] at hrd hop
  rw [← hbs] at hlen
  have hfile : e0 = 0 → 0 ≤ file := fun e => by
    rw [he0, readD] at e
    by_cases h1 : file < 0 ∨ 64 ≤ file
    · rw [if_pos h1] at e; cases e
    · omega
  obtain ⟨rs, hrs⟩ : ∃ rs, rs = (scanJ 0 bs).1 := ⟨_, rfl⟩
  obtain ⟨sc, hsc⟩ : ∃ sc, sc = (scanJ 0 bs).2 := ⟨_, rfl⟩
  obtain ⟨bl, hbl⟩ : ∃ bl, bl = bs.length := ⟨_, rfl⟩
  rw [← hrs, ← hsc, ← hbl] at hop
  have hscb : sc ≤ 1000000 := by rw [hsc]; have := (scanJ_le bs.length 0 bs (Nat.le_refl _)).1; omega
  have HOP := Lib.hid hop
  have HRD := Lib.hid hrd
  have HS := Lib.hid (And.intro hrs (And.intro hsc hbl))
  have HLEN := Lib.hid hlen
  have HFILE := Lib.hid hfile
  rw [← hbl] at HRD
  clear h hrd hop hrs hsc hbl hbs he0 hlen hfile
  go_enter Try.func30, Try.ntmps30
  go_wp2_with fail
  refine HRD.out.mono ?_
  rintro e w2 ⟨a2, c2, rfl, h2⟩
  clear HRD
  by_cases hz : e0 = 0
  · have HF := Lib.hid (HFILE.out hz)
    subst hz
    obtain ⟨J, hJ, hb, h3⟩ := (show Sat W w2 (sep (rBytes.is [.slice a2 bl c2] bs) (sep (kn I) (sep (isDisk p d) A))) by
      have := h2.bytes_of_osl.2
      simpa only [sep_comm, sep_lcomm, sep_assoc] using this).learn
    have HB := Lib.hid hb
    have HJ := Lib.hid hJ
    clear h2 hb hJ HFILE
    go_wp2_with fail
    refine (scan_spec _ bs h3 HB.out HLEN.out).mono ?_
    rintro e w3 ⟨u, rfl, h4⟩
    rw [← HS.out.1] at h4
    rw [← HS.out.2.1]
    obtain ⟨ua, uc, rfl, -⟩ := slice_form' h4.pers_heap
    have h5 : Sat W w3 (sep (isDisk p d) (sep ((rBytes.slice 1).is [.slice ua rs.length uc] rs) (sep (kn J) A))) := by simpa only [sep_comm, sep_lcomm, sep_assoc] using h4
    obtain ⟨rl, hrl⟩ : ∃ rl, rl = rs.length := ⟨_, rfl⟩
    rw [← hrl] at h5 ⊢
    have HRL := Lib.hid hrl
    clear h3 h4 hrl
    by_cases hcut : sc < bl
    · have g1 : (sc : Int) < (bl : Int) := by omega
      have hct : cutTo d file sc bl = truncD d file sc := by rw [cutTo, if_pos hcut]
      rw [hct] at HOP
      clear hct hcut
      go_wp2_with fail
      refine (dtrunc_spec p d file (sc : Int) h5).mono ?_
      rintro e w4 ⟨rfl, h6⟩
      obtain ⟨⟨e1, d1⟩, ht⟩ : ∃ t, t = truncD d file sc := ⟨_, rfl⟩
      rw [← ht] at h6 HOP ⊢
      dsimp only at h6 ⊢
      have HOP2 : Hid (openJ d file = openT (e1, d1) rs) := Lib.hid (by rw [HOP.out]; simp)
      clear h5 ht
      by_cases hz1 : e1 = 0
      · subst hz1
        go_wp2_with fail
        refine (dsync_spec p d1 h6).mono ?_
        rintro e w5 ⟨rfl, h7⟩
        obtain ⟨⟨e2, d2⟩, ht2⟩ : ∃ t, t = syncD d1 := ⟨_, rfl⟩
        rw [← ht2] at h7 ⊢
        dsimp only at h7 ⊢
        have HT2 := Lib.hid ht2
        clear h6 ht2
        by_cases hz2 : e2 = 0
        · subst hz2
          have hfin : openJ d file = (0, d2, rs) := by rw [HOP2.out, openT, ← HT2.out]; simp
          have h8 := h7.alloc (.cells #[.pointer (some ⟨p, 0, none⟩), .int .i64 file, .int .i64 (rl : Nat), .bool false] 89)
          have HFIN := Lib.hid hfin
          clear hfin
          go_wp2_with fail
          refine bodyPost_ret (results_tmp3 rfl _ _ _) rfl ?_
          rw [openPost, HFIN.out]
          refine ⟨fun _ => ⟨w5.heap.size, .slice ua rl uc, rfl, ?_⟩, fun h => absurd rfl h⟩
          have hf : ((file.toNat : Nat) : Int) = file := by have := HF.out; omega
          show Sat W _ (sep (blk w5.heap.size (.cells #[.pointer (some ⟨p, 0, none⟩), .int .i64 (file.toNat : Nat), .int .i64 (rs.length : Nat), .bool false] 89 (0, 0))) (sep ((rBytes.slice 1).is [.slice ua rl uc] rs) (sep (isDisk p d2) (sep (kn I) A))))
          rw [hf, ← HRL.out]
          have h9 := h8.p3.kn_mono HJ.out
          simpa only [sep_comm, sep_lcomm, sep_assoc] using h9
        · have b2 : (e2 == 0) = false := by simp [hz2]
          have b3 : (e2 != 0) = true := by simp [hz2]
          have hfin : openJ d file = (e2, d2, []) := by rw [HOP2.out, openT, ← HT2.out]; simp [hz2]
          have HFIN := Lib.hid (And.intro hfin hz2)
          clear hfin hz2
          go_wp2_with fail
          refine bodyPost_ret (results_tmp3 rfl _ _ _) rfl ?_
          rw [openPost, HFIN.out.1]
          refine ⟨fun h => absurd h HFIN.out.2, fun _ => ⟨rfl, ?_⟩⟩
          have h8 : Sat W w5 (sep (kn J) (sep (isDisk p d2) A)) := by
            have := h7.p1.drop
            simpa only [sep_comm, sep_lcomm, sep_assoc] using this
          exact (h8.kn_mono HJ.out).p1
      · have b2 : (e1 == 0) = false := by simp [hz1]
        have b3 : (e1 != 0) = true := by simp [hz1]
        have hfin : openJ d file = (e1, d1, []) := by rw [HOP2.out, openT]; simp [hz1]
        have HFIN := Lib.hid (And.intro hfin hz1)
        clear hfin hz1
        go_wp2_with fail
        refine bodyPost_ret (results_tmp3 rfl _ _ _) rfl ?_
        rw [openPost, HFIN.out.1]
        refine ⟨fun h => absurd h HFIN.out.2, fun _ => ⟨rfl, ?_⟩⟩
        have h8 : Sat W w4 (sep (kn J) (sep (isDisk p d1) A)) := by
          have := h6.p1.drop
          simpa only [sep_comm, sep_lcomm, sep_assoc] using this
        exact (h8.kn_mono HJ.out).p1
    · have g1 : ¬ (sc : Int) < (bl : Int) := by omega
      have hct : cutTo d file sc bl = (0, d) := by rw [cutTo, if_neg hcut]
      have HOP2 : Hid (openJ d file = openT (0, d) rs) := Lib.hid (by rw [HOP.out, hct]; simp)
      clear hct hcut
      go_wp2_with fail
      refine (dsync_spec p d h5).mono ?_
      rintro e w5 ⟨rfl, h7⟩
      obtain ⟨⟨e2, d2⟩, ht2⟩ : ∃ t, t = syncD d := ⟨_, rfl⟩
      rw [← ht2] at h7 ⊢
      dsimp only at h7 ⊢
      have HT2 := Lib.hid ht2
      clear h5 ht2
      by_cases hz2 : e2 = 0
      · subst hz2
        have hfin : openJ d file = (0, d2, rs) := by rw [HOP2.out, openT, ← HT2.out]; simp
        have h8 := h7.alloc (.cells #[.pointer (some ⟨p, 0, none⟩), .int .i64 file, .int .i64 (rl : Nat), .bool false] 89)
        have HFIN := Lib.hid hfin
        clear hfin
        go_wp2_with fail
        refine bodyPost_ret (results_tmp3 rfl _ _ _) rfl ?_
        rw [openPost, HFIN.out]
        refine ⟨fun _ => ⟨w5.heap.size, .slice ua rl uc, rfl, ?_⟩, fun h => absurd rfl h⟩
        have hf : ((file.toNat : Nat) : Int) = file := by have := HF.out; omega
        show Sat W _ (sep (blk w5.heap.size (.cells #[.pointer (some ⟨p, 0, none⟩), .int .i64 (file.toNat : Nat), .int .i64 (rs.length : Nat), .bool false] 89 (0, 0))) (sep ((rBytes.slice 1).is [.slice ua rl uc] rs) (sep (isDisk p d2) (sep (kn I) A))))
        rw [hf, ← HRL.out]
        have h9 := h8.p3.kn_mono HJ.out
        simpa only [sep_comm, sep_lcomm, sep_assoc] using h9
      · have b2 : (e2 == 0) = false := by simp [hz2]
        have b3 : (e2 != 0) = true := by simp [hz2]
        have hfin : openJ d file = (e2, d2, []) := by rw [HOP2.out, openT, ← HT2.out]; simp [hz2]
        have HFIN := Lib.hid (And.intro hfin hz2)
        clear hfin hz2
        go_wp2_with fail
        refine bodyPost_ret (results_tmp3 rfl _ _ _) rfl ?_
        rw [openPost, HFIN.out.1]
        refine ⟨fun h => absurd h HFIN.out.2, fun _ => ⟨rfl, ?_⟩⟩
        have h8 : Sat W w5 (sep (kn J) (sep (isDisk p d2) A)) := by
          have := h7.p1.drop
          simpa only [sep_comm, sep_lcomm, sep_assoc] using this
        exact (h8.kn_mono HJ.out).p1
  · have b3 : (e0 != 0) = true := by simp [hz]
    have hfin : openJ d file = (e0, d, []) := by rw [HOP.out]; simp [hz]
    have HFIN := Lib.hid (And.intro hfin hz)
    have h3 := h2.forget_osl
    clear hfin hz h2
    go_wp2_with fail
    refine bodyPost_ret (results_tmp3 rfl _ _ _) rfl ?_
    rw [openPost, HFIN.out.1]
    exact ⟨fun h => absurd h HFIN.out.2, fun _ => ⟨rfl, h3⟩⟩
end Go.Proofs.Ytdaknmcmjnbfeaa
