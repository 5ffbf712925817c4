/- JournalFull. -/
import Derived.Test.YtdaknmcmjnbfeaaL2
import Derived.Test.YtdaknmcmjnbfeaaJ10
namespace Go.Proofs.Ytdaknmcmjnbfeaa
open Go.RowKit PA
/-- A disk that holds one log, all of it durable. -/
def fullD (k : Nat) (K : List (List UInt8)) : DSt := ⟨k, dset noFiles 63 (framesJ 0 K, (framesJ 0 K).length), false, none⟩
theorem full_used (k : Nat) (K : List (List UInt8)) : (fullD k K).used = (framesJ 0 K).length := by
  have h := usedF_put (fs := noFiles) (n := 63) (x := (framesJ 0 K, (framesJ 0 K).length)) (by omega)
  have h0 : usedF noFiles = 0 := by decide
  rw [h0] at h
  have h2 : (noFiles 63).1.length = 0 := rfl
  rw [h2, Nat.add_zero, Nat.zero_add] at h
  exact h
theorem newD_full (k : Nat) : (newD k).hard = fullD k [] := by
  unfold newD DSt.hard fullD
  congr 1
  funext j
  unfold dset
  split
  · rfl
  · rfl
theorem full_hard (k : Nat) (K : List (List UInt8)) : (fullD k K).hard = fullD k K := by
  unfold fullD DSt.hard
  congr 1
  funext j
  dsimp only
  unfold dset
  split
  · rfl
  · rfl
theorem full_sync (k : Nat) (K : List (List UInt8)) : syncD (fullD k K) = (0, fullD k K) := by
  have : syncD (fullD k K) = (0, (fullD k K).hard) := rfl
  rw [this, full_hard]
theorem full_at (k : Nat) (K : List (List UInt8)) : (fullD k K).fs 63 = (framesJ 0 K, (framesJ 0 K).length) := by
  unfold fullD
  dsimp only
  unfold dset
  exact if_pos rfl
theorem full_append (k : Nat) (K : List (List UInt8)) (x : List UInt8) (hx : x.length ≤ 65536) :
    appendJ (fullD k K) ⟨63, K.length, false⟩ x = if k < (framesJ 0 K).length + (frameJ K.length x).length then (18, fullD k K, ⟨63, K.length, false⟩) else (0, fullD k (K ++ [x]), ⟨63, K.length + 1, false⟩) := by
  obtain ⟨fr, hfr⟩ : ∃ fr, fr = frameJ K.length x := ⟨_, rfl⟩
  have happ : appendD (fullD k K) ((63 : Nat) : Int) fr = if k < (framesJ 0 K).length + fr.length then (18, fullD k K) else (0, (fullD k K).app 63 fr) := by
    rw [appendD, if_neg (by omega), full_used]
    rfl
  rw [appendJ, if_neg (by omega)]
  dsimp only
  rw [if_neg (by simp), ← hfr, happ]
  split
  · rename_i h
    rw [if_pos (by simp)]
    rfl
  · rename_i h
    rw [if_neg (by simp)]
    have hs : syncD ((fullD k K).app 63 fr) = (0, ((fullD k K).app 63 fr).hard) := rfl
    have he : ((fullD k K).app 63 fr).hard = fullD k (K ++ [x]) := by
      have e1 : framesJ 0 (K ++ [x]) = framesJ 0 K ++ fr := by
        rw [framesJ_snoc, Nat.zero_add, hfr]; rfl
      have e2 : (fullD k K).app 63 fr = ⟨k, dset (dset noFiles 63 (framesJ 0 K, (framesJ 0 K).length)) 63 (framesJ 0 K ++ fr, (framesJ 0 K).length), false, none⟩ := by
        rw [DSt.app, full_at]; rfl
      rw [e2]
      unfold DSt.hard fullD
      rw [e1]
      congr 1
      funext j
      dsimp only
      unfold dset
      split
      · rfl
      · rfl
    rw [hs]
    dsimp only
    rw [he]
    rfl
theorem full_read (k : Nat) (K : List (List UInt8)) : readD (fullD k K) 63 = (framesJ 0 K, 0) := by
  have h : readD (fullD k K) ((63 : Nat) : Int) = (((fullD k K).fs 63).1, 0) := by
    rw [readD, if_neg (by omega)]
    rfl
  rw [full_at] at h
  exact h
theorem full_open (k : Nat) (K : List (List UInt8)) (h1 : K.length ≤ 1000) (h2 : (framesJ 0 K).length ≤ 1000000) : openJ (fullD k K) 63 = (0, fullD k K, K) := by
  have hs := scanJ_frames K 0 [] (by omega) (by omega)
  rw [List.append_nil, scanJ_short _ [] (by simp)] at hs
  dsimp only at hs
  rw [List.append_nil, Nat.add_zero] at hs
  rw [openJ, full_read, hs]
  dsimp only
  rw [if_neg (by simp), cutTo, if_neg (by omega), openT, full_sync]
  simp
theorem full_open64 (k : Nat) (K : List (List UInt8)) : openJ (fullD k K) 64 = (1, fullD k K, []) := by
  have h : readD (fullD k K) 64 = ([], 1) := by rw [readD, if_pos (by omega)]
  rw [openJ, h]
  simp
theorem fresh_open (k : Nat) : openJ (newD k) 63 = (0, fullD k [], []) := by
  have h : readD (newD k) 63 = ([], 0) := by
    rw [readD, if_neg (by omega)]
    rfl
  have hs : syncD (newD k) = (0, fullD k []) := by
    have : syncD (newD k) = (0, (newD k).hard) := rfl
    rw [this, newD_full]
  rw [openJ, h]
  dsimp only
  rw [if_neg (by simp), scanJ_short 0 [] (by simp), cutTo, if_neg (by simp), openT, hs]
  simp
theorem fresh_spec {W w : World} {A : Assn} (room : Nat) (h : Sat W w A) (hr : room ≤ 16777216) :
    Calls Try.prog 29 #[.int .i64 (room : Nat)] w fun e w' => ∃ p, e = .returned (.pointer (some ⟨p, 0, none⟩)) ∧ Sat W w' (sep (isDisk p (newD room)) A) := by
  go_enter Try.func29, Try.ntmps29
  go_wp2_with fail
  refine (dnew_ok room h hr).mono ?_
  rintro e w2 ⟨p, rfl, h2⟩
  go_wp2_with fail
  go_ret
  exact ⟨p, rfl, h2⟩
end Go.Proofs.Ytdaknmcmjnbfeaa
