/- Package seal: Put in one; what SealLimits needs in plain. -/
import Derived.Test.YtcnonbhhlbplpaaS7
namespace PA
open Go Go.RowKit
def putM (M : Int → Option Ent) (n : Nat) (k : Int) (b : List UInt8) (s : Nat) : Int → Option Ent := if putE M n k b = 0 then eset M k ⟨b, s, false⟩ else M
def putN (M : Int → Option Ent) (n : Nat) (k : Int) (b : List UInt8) : Nat := if putE M n k b = 0 then n + 1 else n
def putC (M : Int → Option Ent) (n : Nat) (k : Int) (b : List UInt8) (s : Nat) : Nat := if putE M n k b = 0 then commitN b s else 0
def limM (M0 : Int → Option Ent) (s n0 i : Nat) : Int → Option Ent := fun k => if (n0 : Int) ≤ k ∧ k < i then some ⟨[], s, false⟩ else M0 k
theorem limM_zero (M0 : Int → Option Ent) (s n0 : Nat) : limM M0 s n0 n0 = M0 := by
  funext k; unfold limM; rw [if_neg (by omega)]
theorem limM_succ (M0 : Int → Option Ent) (s n0 i : Nat) (h : n0 ≤ i) : eset (limM M0 s n0 i) (i : Int) ⟨[], s, false⟩ = limM M0 s n0 (i + 1) := by
  funext k
  unfold eset limM
  by_cases e : k = (i : Int)
  · rw [if_pos e, if_pos (by omega)]
  · rw [if_neg e]
    by_cases h1 : (n0 : Int) ≤ k ∧ k < i
    · rw [if_pos h1, if_pos (by omega)]
    · rw [if_neg h1, if_neg (by omega)]
structure Lim (M0 : Int → Option Ent) (n0 : Nat) (ks0 : List Int) : Prop where
  keys : MKeys M0 ks0
  kind : (n0 = 0 ∧ ks0 = []) ∨ (n0 = 1 ∧ ks0 = [60000])
  shut : ∀ k, opE M0 k = false
theorem Lim.le {M0 : Int → Option Ent} {n0 : Nat} {ks0 : List Int} (h : Lim M0 n0 ks0) : n0 ≤ 1 ∧ ks0.length = n0 := by
  rcases h.kind with ⟨h1, h2⟩ | ⟨h1, h2⟩ <;> subst h1 <;> subst h2 <;> simp
theorem Lim.none {M0 : Int → Option Ent} {n0 : Nat} {ks0 : List Int} (h : Lim M0 n0 ks0) (k : Int) (hk : k ≠ 60000) : M0 k = none := by
  cases hm : M0 k with
  | none => rfl
  | some e =>
    have := (h.keys.2 k).2 (by rw [hm]; rfl)
    rcases h.kind with ⟨_, h2⟩ | ⟨_, h2⟩
    · rw [h2] at this; cases this
    · rw [h2, List.mem_singleton] at this; exact absurd this hk
theorem Lim.putE0 {M0 : Int → Option Ent} {n0 : Nat} {ks0 : List Int} (h : Lim M0 n0 ks0) (s i : Nat) (h2 : i < 4096) : putE (limM M0 s n0 i) i (i : Int) [] = 0 := by
  have e : limM M0 s n0 i (i : Int) = Option.none := by unfold limM; rw [if_neg (by omega)]; exact h.none _ (by omega)
  unfold putE
  rw [if_neg (by omega), if_neg (by simp), e, if_neg (by simp), if_neg (by omega)]
theorem Lim.putE8 {M0 : Int → Option Ent} {n0 : Nat} {ks0 : List Int} (h : Lim M0 n0 ks0) (s : Nat) (m : Int) (h1 : 1 ≤ m) (h2 : m ≤ 4095) : putE (limM M0 s n0 4096) 4096 m [] = 8 := by
  have e : limM M0 s n0 4096 m = some ⟨[], s, false⟩ := by unfold limM; rw [if_pos (by have := h.le.1; omega)]
  unfold putE
  rw [if_neg (by omega), if_neg (by simp), e]; rfl
theorem Lim.putE4 {M0 : Int → Option Ent} {n0 : Nat} {ks0 : List Int} (h : Lim M0 n0 ks0) (s : Nat) (m : Int) (h1 : 1 ≤ m) (h2 : m ≤ 4095) : putE (limM M0 s n0 4096) 4096 (5000 + m) [] = 4 := by
  have e : limM M0 s n0 4096 (5000 + m) = Option.none := by unfold limM; rw [if_neg (by omega)]; exact h.none _ (by omega)
  unfold putE
  rw [if_neg (by omega), if_neg (by simp), e, if_neg (by simp), if_pos (by omega)]
theorem Lim.putE1 {M0 : Int → Option Ent} {n0 : Nat} (s : Nat) (m : Int) (h1 : 1 ≤ m) : putE (limM M0 s n0 4096) 4096 (65536 + m) [] = 1 := by
  unfold putE
  rw [if_pos (by omega)]
theorem Lim.end {M0 : Int → Option Ent} {n0 : Nat} {ks0 ks : List Int} (h : Lim M0 n0 ks0) (s : Nat) (hk : MKeys (limM M0 s n0 4096) ks) : (ks.filter fun k => !opE (limM M0 s n0 4096) k).length = 4096 := by
  have h0 : MKeys (limM M0 s n0 4096) ((List.range' n0 (4096 - n0)).map (fun j : Nat => (j : Int)) ++ ks0) := by
    have hl := h.le
    refine ⟨List.pairwise_append.2 ⟨?_, h.keys.1, ?_⟩, fun k => ?_⟩
    · rw [List.pairwise_map]
      exact (List.pairwise_lt_range' (s := n0) (n := 4096 - n0)).imp fun h => by omega
    · intro x hx y hy
      obtain ⟨j, hj, rfl⟩ := List.mem_map.1 hx
      have hj2 := List.mem_range'_1.1 hj
      rcases h.kind with ⟨_, h2⟩ | ⟨_, h2⟩
      · rw [h2] at hy; cases hy
      · rw [h2, List.mem_singleton] at hy; omega
    · rw [List.mem_append, h.keys.2]
      unfold limM
      by_cases h1 : (n0 : Int) ≤ k ∧ k < ((4096 : Nat) : Int)
      · rw [if_pos h1]
        refine ⟨fun _ => rfl, fun _ => .inl (List.mem_map.2 ⟨k.toNat, List.mem_range'_1.2 (by omega), by omega⟩)⟩
      · rw [if_neg h1]
        constructor
        · rintro (h3 | h3)
          · obtain ⟨j, hj, rfl⟩ := List.mem_map.1 h3
            have hj2 := List.mem_range'_1.1 hj
            exact absurd ⟨by omega, by omega⟩ h1
          · exact h3
        · exact .inr
  rw [hk.uniq h0]
  have e : ∀ k, opE (limM M0 s n0 4096) k = false := fun k => by
    have := h.shut k
    unfold opE limM at *
    split <;> rename_i h2
    · split at h2
      · cases h2; rfl
      · rw [h2] at this; exact this
    · rfl
  rw [List.filter_eq_self.2 (fun k _ => by rw [e]; rfl), List.length_append, List.length_map, List.length_range', h.le.2]
  have := h.le.1; omega
theorem lim0 : Lim (fun _ => Option.none) 0 [] := ⟨⟨by simp, fun k => by simp⟩, .inl ⟨rfl, rfl⟩, fun _ => rfl⟩
theorem lim1 (b : List UInt8) (s : Nat) : Lim (eset (fun _ => Option.none) 60000 ⟨b, s, false⟩) 1 [60000] :=
  ⟨⟨by simp, fun k => by unfold eset; by_cases e : k = 60000 <;> simp [e]⟩, .inr ⟨rfl, rfl⟩, fun k => by unfold opE eset; by_cases e : k = 60000 <;> simp [e]⟩
end PA
namespace Go.Proofs.Ytcnonbhhlbplpaa
open Go.RowKit PA
theorem nil_rel (I : Mem) : rBytes.rel I [.slice none 0 0] [] := bytes_rel.2 ⟨none, 0, rfl, ⟨Nat.le_refl _, Nat.zero_le _, fun _ => rfl⟩, .inl rfl⟩
theorem sput_any {W w : World} {A : Assn} {I : Mem} (p : Nat) (M : Int → Option Ent) (n : Nat) (k : Int) (v : Value) (x : List UInt8) (s : Nat) (h : Sat W w (sep (isBox p M n) (sep (kn I) A))) (hv : rBytes.rel I [v] x) :
    Calls Try.prog 11 #[.pointer (some ⟨p, 0, none⟩), .int .i64 k, v, .int .u64 (s : Nat)] w fun e w' => e = .returned (.tuple #[.int .u64 (putC M n k x s : Nat), .int .i64 (putE M n k x : Nat)]) ∧ Sat W w' (sep (isBox p (putM M n k x s) (putN M n k x)) (sep (kn I) A)) := by
  by_cases hk : putE M n k x = 0
  · refine (sput_ok p M n k v x s h hv hk).mono ?_
    rintro e w' ⟨rfl, h1⟩
    rw [putC, putM, putN, if_pos hk, if_pos hk, if_pos hk, hk]
    exact ⟨rfl, h1⟩
  · refine (sput_no p M n k v x s h hv hk).mono ?_
    rintro e w' ⟨rfl, h1⟩
    rw [putC, putM, putN, if_neg hk, if_neg hk, if_neg hk]
    exact ⟨rfl, h1⟩
end Go.Proofs.Ytcnonbhhlbplpaa
