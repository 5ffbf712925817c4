/- Disks all of whose bytes are durable, and logs on them: an Append, a torn one, a crash, Open. Plain. -/
import Derived.Test.YtdaknmcmjnbfeaaGreatGJournalRuns46
namespace Go.Proofs.YtdaknmcmjnbfeaaGreat
open Go.RowKit PA
/-- All durable: what the files hold. -/
def hd (k : Nat) (g : Nat → List UInt8) : DSt := ⟨k, fun j => (g j, (g j).length), false, none⟩
def gset (g : Nat → List UInt8) (f : Nat) (b : List UInt8) : Nat → List UInt8 := fun j => if j = f then b else g j
theorem gset_same (g : Nat → List UInt8) (f : Nat) (b : List UInt8) : gset g f b f = b := if_pos rfl
theorem gset_ne (g : Nat → List UInt8) {f j : Nat} (b : List UInt8) (h : j ≠ f) : gset g f b j = g j := if_neg h
theorem gset_gset (g : Nat → List UInt8) (f : Nat) (b c : List UInt8) : gset (gset g f b) f c = gset g f c := by
  funext j; unfold gset; split <;> rfl
theorem gset_id (g : Nat → List UInt8) (f : Nat) : gset g f (g f) = g := by
  funext j; unfold gset; split
  · rename_i h; rw [h]
  · rfl
def noG : Nat → List UInt8 := fun _ => []
/-- All durable, with a failure planned. -/
def pl (k : Nat) (g : Nat → List UInt8) (q : Option Nat) : DSt := { hd k g with plan := q }
/-- An Append to file f failed: its bytes are loose. -/
def torn (k : Nat) (g : Nat → List UInt8) (f : Nat) (fr : List UInt8) : DSt := ⟨k, dset (fun j => (g j, (g j).length)) f (g f ++ fr, (g f).length), true, none⟩
theorem newD_hd (k : Nat) : newD k = hd k noG := rfl
theorem hd_hard (k : Nat) (g : Nat → List UInt8) : (hd k g).hard = hd k g := rfl
theorem hd_app_hard (k : Nat) (g : Nat → List UInt8) (q : Option Nat) (f : Nat) (fr : List UInt8) : ((pl k g q).app f fr).hard = pl k (gset g f (g f ++ fr)) q := by
  unfold DSt.hard DSt.app DSt.put pl hd
  congr 1
  funext j
  dsimp only
  unfold dset gset
  split
  · rfl
  · rfl
theorem pl_none (k : Nat) (g : Nat → List UInt8) : pl k g none = hd k g := rfl
theorem hd_used (k : Nat) (g : Nat → List UInt8) (q : Option Nat) : (pl k g q).used = sumTo (fun j => (g j).length) 64 := rfl
def usedG (g : Nat → List UInt8) : Nat := sumTo (fun j => (g j).length) 64
theorem usedG_set (g : Nat → List UInt8) {f : Nat} (b : List UInt8) (hf : f < 64) : usedG (gset g f b) + (g f).length = usedG g + b.length := by
  have := sumTo_one (g := fun j => (gset g f b j).length) (h := fun j => (g j).length) (k := f) (n := 64) hf (fun j hj => by rw [gset_ne _ _ hj])
  rw [gset_same] at this
  exact this
theorem usedG_no : usedG noG = 0 := by decide
theorem pl_appendD (k : Nat) (g : Nat → List UInt8) (q : Option Nat) {f : Nat} (fr : List UInt8) (hf : f < 64) (hfit : usedG g + fr.length ≤ k) :
    appendD (pl k g q) (f : Int) fr = (if ((pl k g q).app f fr).step.1 then 0 else 19, ((pl k g q).app f fr).step.2) := by
  have h1 : (pl k g q).used = usedG g := rfl
  have h2 : (pl k g q).room = k := rfl
  have h3 : (pl k g q).off = false := rfl
  rw [appendD, if_neg (by omega), h3, if_neg (by simp), h1, h2, if_neg (by omega), Int.toNat_natCast]
theorem pl_full (k : Nat) (g : Nat → List UInt8) (q : Option Nat) {f : Nat} (fr : List UInt8) (hf : f < 64) (hfit : k < usedG g + fr.length) :
    appendD (pl k g q) (f : Int) fr = (18, pl k g q) := by
  have h1 : (pl k g q).used = usedG g := rfl
  have h2 : (pl k g q).room = k := rfl
  have h3 : (pl k g q).off = false := rfl
  rw [appendD, if_neg (by omega), h3, if_neg (by simp), h1, h2, if_pos (by omega)]
theorem app_torn (k : Nat) (g : Nat → List UInt8) (q : Option Nat) (f : Nat) (fr : List UInt8) : ({ (pl k g q).app f fr with off := true, plan := none } : DSt) = torn k g f fr := rfl
/-- An Append that goes through. -/
theorem pl_append (k : Nat) (g : Nat → List UInt8) (q : Option Nat) (f n : Nat) (x : List UInt8) (hf : f < 64) (hx : x.length ≤ 65536) (hfit : usedG g + (frameJ n x).length ≤ k) (hq : q = none ∨ ∃ r, q = some (r + 2)) :
    appendJ (pl k g q) ⟨f, n, false⟩ x = (0, pl k (gset g f (g f ++ frameJ n x)) (q.map (· - 2)), ⟨f, n + 1, false⟩) := by
  obtain ⟨fr, hfr⟩ : ∃ fr, fr = frameJ n x := ⟨_, rfl⟩
  rw [← hfr] at hfit ⊢
  rw [appendJ, if_neg (by omega)]
  dsimp only
  rw [if_neg (by simp), ← hfr, pl_appendD k g q fr hf hfit]
  rcases hq with rfl | ⟨r, rfl⟩
  · have hs : ((pl k g none).app f fr).step = (true, (pl k g none).app f fr) := rfl
    rw [hs]
    have h2 : syncD ((pl k g none).app f fr) = (0, ((pl k g none).app f fr).hard) := rfl
    dsimp only
    rw [if_neg (by simp), h2, hd_app_hard]
    rfl
  · have hs : ((pl k g (some (r + 2))).app f fr).step = (true, (pl k g (some (r + 1))).app f fr) := rfl
    rw [hs]
    have h2 : syncD ((pl k g (some (r + 1))).app f fr) = (0, ((pl k g (some r)).app f fr).hard) := rfl
    dsimp only
    rw [if_neg (by simp), h2, hd_app_hard]
    rfl
/-- One in which the power fails. -/
theorem pl_torn (k : Nat) (g : Nat → List UInt8) (q f n : Nat) (x : List UInt8) (hf : f < 64) (hx : x.length ≤ 65536) (hfit : usedG g + (frameJ n x).length ≤ k) (hq : q < 2) :
    appendJ (pl k g (some q)) ⟨f, n, false⟩ x = (19, torn k g f (frameJ n x), ⟨f, n, true⟩) := by
  obtain ⟨fr, hfr⟩ : ∃ fr, fr = frameJ n x := ⟨_, rfl⟩
  rw [← hfr] at hfit ⊢
  rw [appendJ, if_neg (by omega)]
  dsimp only
  rw [if_neg (by simp), ← hfr, pl_appendD k g (some q) fr hf hfit]
  match q, hq with
  | 0, _ =>
    have hs : ((pl k g (some 0)).app f fr).step = (false, torn k g f fr) := rfl
    rw [hs]
    rfl
  | 1, _ =>
    have hs : ((pl k g (some 1)).app f fr).step = (true, (pl k g (some 0)).app f fr) := rfl
    rw [hs]
    have h2 : syncD ((pl k g (some 0)).app f fr) = (19, torn k g f fr) := rfl
    dsimp only
    rw [if_neg (by simp), h2]
    rfl
/-- One that does not fit. -/
theorem pl_nofit (k : Nat) (g : Nat → List UInt8) (q : Option Nat) (f n : Nat) (x : List UInt8) (hf : f < 64) (hx : x.length ≤ 65536) (hfit : k < usedG g + (frameJ n x).length) :
    appendJ (pl k g q) ⟨f, n, false⟩ x = (18, pl k g q, ⟨f, n, false⟩) := by
  rw [appendJ, if_neg (by omega)]
  dsimp only
  rw [if_neg (by simp), pl_full k g q _ hf hfit]
  rfl
theorem append_down (d : DSt) (f n : Nat) (x : List UInt8) (hx : x.length ≤ 65536) : appendJ d ⟨f, n, true⟩ x = (19, d, ⟨f, n, true⟩) := by
  rw [appendJ, if_neg (by omega)]
  rfl
theorem hd_read (k : Nat) (g : Nat → List UInt8) (q : Option Nat) {f : Nat} (hf : f < 64) : readD (pl k g q) (f : Int) = (g f, 0) := by
  rw [readD, if_neg (by omega), if_neg (by show ¬ false = true; simp), Int.toNat_natCast]
  rfl
/-- Open on a disk that works. -/
theorem hd_open (k : Nat) (g : Nat → List UInt8) {f : Nat} (hf : f < 64) : openJ (hd k g) (f : Int) = (0, hd k (gset g f ((g f).take (scanJ 0 (g f)).2)), (scanJ 0 (g f)).1) := by
  have hr := hd_read k g none hf
  rw [pl_none] at hr
  have hle := (scanJ_le (g f).length 0 (g f) (Nat.le_refl _)).1
  rw [openJ, hr]
  dsimp only
  rw [if_neg (by simp)]
  obtain ⟨⟨rs, sc⟩, hs⟩ : ∃ s, s = scanJ 0 (g f) := ⟨_, rfl⟩
  rw [← hs] at hle ⊢
  dsimp only at hle ⊢
  by_cases hcut : sc < (g f).length
  · have ht : truncD (hd k g) (f : Int) (sc : Int) = (0, (hd k g).put f ((g f).take sc, min (g f).length sc)) := by
      have hfa : fileAt (hd k g).fs (f : Int) = (g f, (g f).length) := by rw [fileAt, if_pos (by omega), Int.toNat_natCast]; rfl
      rw [truncD, if_neg (by rw [hfa]; dsimp only; omega), if_neg (by show ¬ false = true; simp), Int.toNat_natCast, Int.toNat_natCast]
      exact if_pos rfl
    rw [cutTo, if_pos hcut, ht, openT]
    dsimp only
    rw [if_neg (by simp)]
    have h2 : syncD ((hd k g).put f ((g f).take sc, min (g f).length sc)) = (0, ((hd k g).put f ((g f).take sc, min (g f).length sc)).hard) := rfl
    have h3 : ((hd k g).put f ((g f).take sc, min (g f).length sc)).hard = hd k (gset g f ((g f).take sc)) := by
      unfold DSt.hard DSt.put hd
      congr 1
      funext j
      dsimp only
      unfold dset gset
      split <;> rfl
    rw [h2, h3]
    rfl
  · have e : (g f).take sc = g f := List.take_of_length_le (by omega)
    have h2 : syncD (hd k g) = (0, hd k g) := rfl
    rw [cutTo, if_neg hcut, openT, e, gset_id]
    dsimp only
    rw [if_neg (by simp), h2]
    rfl
/-! ### crashes -/
theorem crash_hd (s : DSt) (keep : List Int) (flip : Int) : crashD s keep flip = hd s.room (fun j => ((crashD s keep flip).fs j).1) := rfl
theorem crash_all {s : DSt} (h : s.ok) (hd' : ∀ j, (s.fs j).2 = (s.fs j).1.length) (keep : List Int) (flip : Int) : crashD s keep flip = hd s.room (fun j => (s.fs j).1) := by
  rw [crash_hd]
  congr 1
  funext j
  exact crash_hard h keep flip j (hd' j)
theorem pl_crash (k : Nat) (g : Nat → List UInt8) (q : Option Nat) (h : (pl k g q).ok) (keep : List Int) (flip : Int) : crashD (pl k g q) keep flip = hd k g := crash_all h (fun _ => rfl) keep flip
theorem torn_at (k : Nat) (g : Nat → List UInt8) (f : Nat) (fr : List UInt8) : (torn k g f fr).fs f = (g f ++ fr, (g f).length) := by
  show (torn k g f fr).fs f = _
  unfold torn dset
  exact if_pos rfl
theorem torn_ne (k : Nat) (g : Nat → List UInt8) {f j : Nat} (fr : List UInt8) (h : j ≠ f) : (torn k g f fr).fs j = (g j, (g j).length) := by
  show (torn k g f fr).fs j = _
  unfold torn dset
  exact if_neg h
/-- Whatever a crash keeps and inverts, what was durable stays. -/
theorem torn_crash (k : Nat) (g : Nat → List UInt8) (f : Nat) (fr : List UInt8) (h : (torn k g f fr).ok) (keep : List Int) (flip : Int) :
    ∃ g' t, crashD (torn k g f fr) keep flip = hd k g' ∧ g' f = g f ++ t ∧ t.length ≤ fr.length := by
  obtain ⟨h1, h2, h3⟩ := crash_pre h keep flip f
  obtain ⟨c, hc⟩ : ∃ c, c = ((crashD (torn k g f fr) keep flip).fs f).1 := ⟨_, rfl⟩
  rw [torn_at, ← hc] at h1 h2 h3
  dsimp only at h1 h2 h3
  refine ⟨fun j => ((crashD (torn k g f fr) keep flip).fs j).1, c.drop (g f).length, crash_hd _ _ _, ?_, ?_⟩
  · rw [List.take_left] at h1
    dsimp only
    rw [← hc]
    conv => lhs; rw [← List.take_append_drop (g f).length c, h1]
  · rw [List.length_append] at h3
    rw [List.length_drop]
    omega
/-- With no bit inverted, a crash keeps the first of the loose bytes. -/
theorem torn_cut (k : Nat) (g : Nat → List UInt8) (f : Nat) (fr : List UInt8) (keep : List Int) :
    ∃ m, crashD (torn k g f fr) keep (-1) = hd k (gset g f (g f ++ fr.take m)) := by
  have hfl : ∀ j, ((crashD (torn k g f fr) keep (-1)).fs j).1 = (cutN (torn k g f fr).fs (filesD (torn k g f fr).fs) keep (filesD (torn k g f fr).fs).length j).1 := fun j => by
    show (flipL _ _ _ j).1 = _
    rw [flipL_no (by omega)]
    rfl
  have hoth : ∀ j, j ≠ f → ((crashD (torn k g f fr) keep (-1)).fs j).1 = g j := fun j hj => by
    rw [hfl]
    rcases cutN_cases (fs := (torn k g f fr).fs) (ks := filesD (torn k g f fr).fs) (keep := keep) j (filesD (torn k g f fr).fs).length with e | ⟨m, -, e⟩
    · rw [e, torn_ne _ _ _ hj]
    · rw [e, torn_ne _ _ _ hj, cutF]
      exact List.take_of_length_le (by dsimp only; omega)
  have hat : ∃ m, ((crashD (torn k g f fr) keep (-1)).fs f).1 = g f ++ fr.take m := by
    rw [hfl]
    rcases cutN_cases (fs := (torn k g f fr).fs) (ks := filesD (torn k g f fr).fs) (keep := keep) f (filesD (torn k g f fr).fs).length with e | ⟨m, -, e⟩
    · rw [e, torn_at]; exact ⟨fr.length, by rw [List.take_length]⟩
    · rw [e, torn_at, cutF]
      refine ⟨m, ?_⟩
      dsimp only
      rw [List.take_append, List.take_of_length_le (by omega)]
      congr 1
      congr 1
      omega
  obtain ⟨m, hm⟩ := hat
  refine ⟨m, ?_⟩
  rw [crash_hd]
  congr 1
  funext j
  by_cases hj : j = f
  · rw [hj, gset_same]; exact hm
  · rw [gset_ne _ _ hj]; exact hoth j hj
/-! ### what is read then -/
/-- A part of a frame is none. -/
theorem scan_part (i : Nat) (x : List UInt8) (m : Nat) (hi : i ≤ 9223372036854775807) (hl : (frameJ i x).length < 18446744073709551616) (hm : m < (frameJ i x).length) : scanJ i ((frameJ i x).take m) = ([], 0) := by
  refine scanJ_no ?_
  rintro ⟨-, e⟩
  obtain ⟨fr, hfr⟩ : ∃ fr, fr = frameJ i x := ⟨_, rfl⟩
  rw [← hfr] at e hl hm
  obtain ⟨x', hx'⟩ : ∃ x', x' = recJ (fr.take m) := ⟨_, rfl⟩
  rw [← hx'] at e
  have hle : (frameJ i x').length ≤ m := by
    have := congrArg List.length e
    rw [List.length_take, List.length_take] at this
    omega
  rw [List.take_take, Nat.min_eq_left hle] at e
  have h1 := rec_uniq (by omega) (by omega) hl e
  have h2 := rec_of i x [] (by omega) (by omega) (by rw [← hfr]; exact hl)
  rw [List.append_nil, ← hfr, h1] at h2
  rw [h2, ← hfr] at hle
  omega
theorem scan_torn (K : List (List UInt8)) (x : List UInt8) (m : Nat) (hK : K.length < 1000000) (h1 : (framesJ 0 K).length ≤ 1000000) (h2 : (frameJ K.length x).length ≤ 1000000) :
    ∃ b : Bool, scanJ 0 (framesJ 0 K ++ (frameJ K.length x).take m) = (if b then K ++ [x] else K, (framesJ 0 (if b then K ++ [x] else K)).length) ∧
      (framesJ 0 K ++ (frameJ K.length x).take m).take (framesJ 0 (if b then K ++ [x] else K)).length = framesJ 0 (if b then K ++ [x] else K) := by
  have hs := scanJ_frames K 0 ((frameJ K.length x).take m) (by omega) (by omega)
  rw [Nat.zero_add] at hs
  by_cases hm : m < (frameJ K.length x).length
  · refine ⟨false, ?_, ?_⟩
    · rw [hs, scan_part _ _ _ (by omega) (by omega) hm]
      simp
    · simp
  · have e : (frameJ K.length x).take m = frameJ K.length x := List.take_of_length_le (by omega)
    have e2 : framesJ 0 (K ++ [x]) = framesJ 0 K ++ frameJ K.length x := by rw [framesJ_snoc, Nat.zero_add]; rfl
    refine ⟨true, ?_, ?_⟩
    · have h3 := scanJ_yes (i := K.length) (x := x) (t := []) (by omega) (by omega)
      rw [List.append_nil, scanJ_short _ [] (by simp)] at h3
      rw [hs, e, h3, if_pos rfl, e2, List.length_append]
      simp
    · rw [e, if_pos rfl, e2, List.take_of_length_le (by omega)]
theorem scan_full (K : List (List UInt8)) (hK : K.length < 1000000) (h1 : (framesJ 0 K).length ≤ 1000000) : scanJ 0 (framesJ 0 K) = (K, (framesJ 0 K).length) := by
  have hs := scanJ_frames K 0 [] (by omega) (by omega)
  rw [List.append_nil, scanJ_short _ [] (by simp)] at hs
  simpa using hs
theorem hd_open_full (k : Nat) (g : Nat → List UInt8) {f : Nat} (hf : f < 64) (K : List (List UInt8)) (hg : g f = framesJ 0 K) (hK : K.length < 1000000) (h1 : (framesJ 0 K).length ≤ 1000000) : openJ (hd k g) (f : Int) = (0, hd k g, K) := by
  rw [hd_open k g hf, hg, scan_full K hK h1]
  dsimp only
  rw [List.take_length, ← hg, gset_id]
/-! ### one log on a disk of 5000 bytes -/
def one (f : Nat) (K : List (List UInt8)) : Nat → List UInt8 := gset noG f (framesJ 0 K)
theorem one_at (f : Nat) (K : List (List UInt8)) : one f K f = framesJ 0 K := gset_same _ _ _
theorem one_used' {f : Nat} (hf : f < 64) (K : List (List UInt8)) : usedG (one f K) = (framesJ 0 K).length := by
  have := usedG_set noG (framesJ 0 K) hf
  rw [usedG_no] at this
  have h0 : (noG f).length = 0 := rfl
  unfold one
  omega
theorem one_nil (f : Nat) : one f [] = noG := by
  unfold one
  rw [framesJ_nil]
  exact gset_id noG f
theorem framesJ_snoc0 (K : List (List UInt8)) (x : List UInt8) : framesJ 0 (K ++ [x]) = framesJ 0 K ++ frameJ K.length x := by
  rw [framesJ_snoc, Nat.zero_add]; rfl
theorem one_snoc (f : Nat) (K : List (List UInt8)) (x : List UInt8) : gset (one f K) f (framesJ 0 K ++ frameJ K.length x) = one f (K ++ [x]) := by
  unfold one
  rw [gset_gset, framesJ_snoc0]
structure Few (K : List (List UInt8)) (m : Nat) : Prop where
  len : K.length ≤ m
  each : ∀ x ∈ K, x.length ≤ 200
theorem Few.frames {K : List (List UInt8)} {m : Nat} (h : Few K m) (hm : m ≤ 1000) : (framesJ 0 K).length ≤ 240 * m := by
  have h1 := framesJ_len K 0 (by have := h.len; omega) h.each
  have h2 : 240 * K.length ≤ 240 * m := Nat.mul_le_mul_left _ h.len
  omega
theorem Few.snoc {K : List (List UInt8)} {m : Nat} (h : Few K m) {x : List UInt8} (hx : x.length ≤ 200) : Few (K ++ [x]) (m + 1) := by
  refine ⟨by rw [List.length_append]; have := h.len; simp; omega, fun y hy => ?_⟩
  rcases List.mem_append.1 hy with hy | hy
  · exact h.each y hy
  · rw [List.mem_singleton.1 hy]; exact hx
theorem Few.take {K : List (List UInt8)} {m : Nat} (h : Few K m) (k : Nat) : Few (K.take k) m :=
  ⟨by rw [List.length_take]; have := h.len; omega, fun y hy => h.each y (List.mem_of_mem_take hy)⟩
theorem Few.mono {K : List (List UInt8)} {m n : Nat} (h : Few K m) (hn : m ≤ n) : Few K n := ⟨Nat.le_trans h.len hn, h.each⟩
theorem frame_few (n : Nat) (x : List UInt8) (hn : n ≤ 1000) (hx : x.length ≤ 200) : (frameJ n x).length ≤ 240 := by
  have := frameJ_le n x (by omega) (by omega) (by omega)
  omega
theorem one_append {f : Nat} (hf : f < 64) {K : List (List UInt8)} {m : Nat} (hK : Few K m) (hm : m ≤ 10) (x : List UInt8) (hx : x.length ≤ 200) (q : Option Nat) (hq : q = none ∨ ∃ r, q = some (r + 2)) :
    appendJ (pl 5000 (one f K) q) ⟨f, K.length, false⟩ x = (0, pl 5000 (one f (K ++ [x])) (q.map (· - 2)), ⟨f, K.length + 1, false⟩) := by
  have h1 := hK.frames (by omega)
  have h2 := frame_few K.length x (by have := hK.len; omega) hx
  rw [pl_append 5000 (one f K) q f K.length x hf (by omega) (by rw [one_used' hf]; omega) hq, one_at, one_snoc]
theorem one_torn {f : Nat} (hf : f < 64) {K : List (List UInt8)} {m : Nat} (hK : Few K m) (hm : m ≤ 10) (x : List UInt8) (hx : x.length ≤ 200) (q : Nat) (hq : q < 2) :
    appendJ (pl 5000 (one f K) (some q)) ⟨f, K.length, false⟩ x = (19, torn 5000 (one f K) f (frameJ K.length x), ⟨f, K.length, true⟩) := by
  have h1 := hK.frames (by omega)
  have h2 := frame_few K.length x (by have := hK.len; omega) hx
  exact pl_torn 5000 (one f K) q f K.length x hf (by omega) (by rw [one_used' hf]; omega) hq
theorem one_open {f : Nat} (hf : f < 64) {K : List (List UInt8)} {m : Nat} (hK : Few K m) (hm : m ≤ 10) : openJ (hd 5000 (one f K)) (f : Int) = (0, hd 5000 (one f K), K) :=
  hd_open_full 5000 (one f K) hf K (one_at f K) (by have := hK.len; omega) (by have := hK.frames (by omega); omega)
end Go.Proofs.YtdaknmcmjnbfeaaGreat
