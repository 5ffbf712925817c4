/- slices.stableCmpFunc, SortStableFunc at fewer than 40 acts. -/
import Derived.Test.YtfapiopnjllnnaaGreatDoorGTitleChainSIn6
import Derived.Deep.CutBlock
import Derived.Test.YtfapiopnjllnnaaGreatDoorKn
import Derived.Lib.AppendStr
namespace Go.Proofs.YtfapiopnjllnnaaGreatDoor
open Go.RowKit PA
set_option maxRecDepth 100000 in
set_option maxHeartbeats 4000000 in
theorem stable_spec {W w : World} {A A0 : Assn} {D : Ac → Ac → Prop} {c : Ac → Ac → Int} {g N : Nat} {f : Nat → Ac} {tl : List Value} (hT : Total c) (hC : CmpOK W A0 D c) (hD : DF D N f) (hN : N < 40) (cp : Nat)
    (h : Sat W w (sep (arow g N f tl) (sep A0 A))) :
    Calls Tryz.prog 61 #[.slice (some ⟨g, 0, none⟩) N cp, .int .i64 N, .func (.func 40) #[] #[]] w fun e w' => e = .returned (.tuple #[]) ∧ ∃ f', Sw 0 N f f' ∧ SrtF c 0 N f' ∧ Sat W w' (sep (arow g N f' tl) (sep A0 A)) := by
  have HI : Hid (∀ (a b : Nat) (f' : Nat → Ac) (w' : World), a ≤ b → b ≤ N → DF D N f' → Sat W w' (sep (arow g N f' tl) (sep A0 A)) → Calls Tryz.prog 83 #[.slice (some ⟨g, 0, none⟩) N cp, .int .i64 a, .int .i64 b, .func (.func 40) #[] #[]] w' fun e w' => ∃ f'', e = .returned (.tuple #[]) ∧ Sw a b f' f'' ∧ SrtF c a b f'' ∧ Sat W w' (sep (arow g N f'' tl) (sep A0 A))) :=
    Lib.hid fun a b f' w' q1 q2 q3 q4 => ins_spec hT hC q3 (by omega) cp a b q1 q2 q4
  have HY : Hid (∀ (a m b : Nat) (f' : Nat → Ac) (w' : World), a < m → m < b → b ≤ N → SrtF c a m f' → SrtF c m b f' → DF D N f' → Sat W w' (sep (arow g N f' tl) (sep A0 A)) → SymOK W A0 A c g N cp tl a m b f' w') :=
    Lib.hid fun a m b f' w' q1 q2 q3 q4 q5 q6 q7 => sym_spec hT hC (by omega) cp (b - a) a m b f' w' (Nat.le_refl _) q1 q2 q3 q4 q5 q6 q7
  have HD := Lib.hid hD
  have H := Lib.hid h
  clear hT hC hD h
  go_enter Tryz.func61, Tryz.ntmps61
  go_wp2
  go_loopw [7, 8] (fun av bv wr => ∃ (f' : Nat → Ac) (s : Nat), av = .int .i64 s ∧ bv = .int .i64 ((s + 20 : Nat) : Int) ∧ (s = 0 ∨ s = 20) ∧ s ≤ N ∧ Hid (Sw 0 s f f' ∧ SrtF c 0 s f') ∧ Sat W wr (sep (arow g N f' tl) (sep A0 A))) (fun av _ _ => 40 - (intOf av).toNat)
  case atStart => exact ⟨f, 0, rfl, rfl, .inl rfl, by omega, Lib.hid ⟨.refl, fun p q p1 p2 p3 => by omega⟩, H.out⟩
  case round =>
    obtain ⟨f1, s, rfl, rfl, hs, hsN, HF1, hS⟩ := hrel
    have HS := Lib.hid hS
    clear hS
    by_cases hb : s + 20 ≤ N
    · obtain rfl : s = 0 := by omega
      have hbz : ((0 + 20 : Nat) : Int) ≤ (N : Int) := by omega
      have hi := HI.out 0 20 f1 wr (by omega) (by omega) (HD.out.sw HF1.out.1 (by omega)) HS.out
      have HII := Lib.hid hi
      clear hi
      go_wp2_with fail
      refine HII.out.mono ?_
      rintro e w3 ⟨f2, rfl, r1, r2, r3⟩
      have HR := Lib.hid (And.intro r1 (And.intro r2 r3))
      clear r1 r2 r3 HII
      go_wp2_with fail
      go_roundw
      case rel => exact ⟨f2, 20, rfl, rfl, .inr rfl, by omega, Lib.hid ⟨(HF1.out.1.mono (Nat.le_refl _) (by omega)).trans HR.out.1, HR.out.2.1⟩, HR.out.2.2⟩
      case measure => simp [intOf]
    · have hbz : ¬ ((s + 20 : Nat) : Int) ≤ (N : Int) := by omega
      have hi := HI.out s N f1 wr hsN (Nat.le_refl _) (HD.out.sw HF1.out.1 hsN) HS.out
      have HII := Lib.hid hi
      clear hi HS
      go_wp2_with fail
      refine HII.out.mono ?_
      rintro e w3 ⟨f2, rfl, r1, r2, r3⟩
      have k1 : SrtF c 0 s f2 := HF1.out.2.congr fun k p1 p2 => r1.out (.inl p2)
      have k2 : Sw 0 N f f2 := (HF1.out.1.mono (Nat.le_refl _) hsN).trans (r1.mono (by omega) (Nat.le_refl _))
      have HR := Lib.hid (And.intro k1 (And.intro k2 r2))
      have HS := Lib.hid r3
      clear r1 r2 r3 HII k1 k2 hbz HF1 H
      go_wp2
      go_loopw [6] (fun bv wr => ∃ (z : Nat) (f' : Nat → Ac), bv = .int .i64 z ∧ ((z = 20 ∧ f' = f2) ∨ (z = 40 ∧ Hid (Sw 0 N f f' ∧ SrtF c 0 N f'))) ∧ Sat W wr (sep (arow g N f' tl) (sep A0 A))) (fun bv _ => 40 - (intOf bv).toNat)
      case atStart => exact ⟨20, f2, rfl, .inl ⟨rfl, rfl⟩, HS.out⟩
      case round =>
        obtain ⟨z, f3, rfl, hz, hS3⟩ := hrel
        have HS3 := Lib.hid hS3
        clear hS3 HS
        rcases hz with ⟨rfl, rfl⟩ | ⟨rfl, HZ⟩
        · by_cases hn : 20 < N
          · have hs20 : s = 20 := by omega
            have kk := HR.out.1
            rw [hs20] at kk
            have hnz : ((20 : Nat) : Int) < (N : Int) := by omega
            have hnz2 : (20 : Int) < (N : Int) := by omega
            have hnz3 : ¬ (40 : Int) ≤ (N : Int) := by omega
            have hy := HY.out 0 20 N f3 wr (by omega) hn (Nat.le_refl _) kk (by have k5 := HR.out.2.2; rw [hs20] at k5; exact k5) (HD.out.sw HR.out.2.1 (Nat.le_refl _)) HS3.out
            unfold SymOK at hy
            have HYY := Lib.hid hy
            clear hy kk hs20 hs
            go_wp2
            go_loopw [7, 8] (fun av bv wx => av = .int .i64 0 ∧ bv = .int .i64 40 ∧ wx = wr) (fun _ _ _ => 0)
            case atStart => exact ⟨rfl, by first | rfl | go_num, rfl⟩
            case round =>
              obtain ⟨rfl, rfl, rfl⟩ := hrel
              go_wp2_with fail
              refine HYY.out.mono ?_
              rintro e w3 ⟨rfl, f4, r1, r2, r3⟩
              have HR4 := Lib.hid (And.intro r1 (And.intro r2 r3))
              clear r1 r2 r3 HYY
              go_wp2
              go_roundw
              case rel => exact ⟨40, f4, rfl, .inr ⟨rfl, Lib.hid ⟨HR.out.2.1.trans HR4.out.1, HR4.out.2.1⟩⟩, HR4.out.2.2⟩
              case measure => simp [intOf]
          · have hnz : ¬ ((20 : Nat) : Int) < (N : Int) := by omega
            have hnz2 : ¬ (20 : Int) < (N : Int) := by omega
            have hfin : SrtF c 0 N f3 := by
              rcases hs with e | e
              · have h6 := HR.out.2.2; rw [e] at h6; exact h6
              · have h6 := HR.out.1; rw [show s = N by omega] at h6; exact h6
            have HFN := Lib.hid hfin
            clear hfin
            go_wp2
            go_end0
            exact ⟨rfl, f3, HR.out.2.1, HFN.out, HS3.out⟩
        · have hnz : ¬ ((40 : Nat) : Int) < (N : Int) := by omega
          have hnz2 : ¬ (40 : Int) < (N : Int) := by omega
          go_wp2
          go_end0
          exact ⟨rfl, f3, HZ.out.1, HZ.out.2, HS3.out⟩
end Go.Proofs.YtfapiopnjllnnaaGreatDoor
/- 'append' of a string onto an owned row of bytes. Plain Lean, no program in sight. -/
namespace PA
open Go Go.RowKit
section
variable {P : Program} {W w : World} {A : Assn}
theorem strCells_bv (s : ByteArray) : Lib.strCells s = s.data.toList.map bv := rfl
theorem run_append_osl_str (t u ty E : Nat) (i : TypeInfo) (ht : P.underlying t = some (.slice E)) (hu : P.underlying u = some .string) (hi : P.info? E = some i) (hz : i.zero = some (.int .u8 0))
    (hk : i.size = 1) (hb : i.bytes = 1) {a : Option Addr} {n c : Nat} {xs : List Value} (h : Sat W w (sep (osl E 1 a n c xs) A)) (s : ByteArray) (h63 : n + s.size ≤ 140737488355328) :
    ∃ a' c' w', (Builtin.append_ #[t, u] ty #[.slice a n c, .string s]).run P w = .ok (.slice a' (n + s.size) c') w' ∧ Sat W w' (sep (osl E 1 a' (n + s.size) c' (xs ++ s.data.toList.map bv)) A) := by
  have hsl : (s.data.toList.map bv).length = s.size := by simp
  have hmx : n + s.size ≤ maxLen := by unfold maxLen; omega
  rcases h.osl_cases with ⟨rfl, rfl, rfl, rfl, h0⟩ | ⟨g, cur, rfl, hlen, hnc, hcm, hcs, htake, hS⟩
  · by_cases hm : s.size = 0
    · have hn : s.data.toList.map bv = [] := List.eq_nil_of_length_eq_zero (by rw [hsl]; exact hm)
      refine ⟨none, 0, w, ?_, by rw [hm, hn]; exact h⟩
      have hf := Lib.run_firstCells_string (P := P) w 1 s
      rw [hm] at hf
      simp [Builtin.append_, run_underlying ht, run_underlying hu, Go.sizeOf, typeInfo, hi, hk, Builtin.lenOf, hm, hf]
    · have hr := run_append_nil_string (P := P) w t u ty E i (.int .u8 0) ht hu hi hz s (by omega) (by omega) (by rw [hb]; omega)
      have e1 : (s.data.map fun b => Value.int .u8 b.toNat) = (s.data.toList.map bv).toArray := by
        apply Array.ext'
        simp [bv, Function.comp_def]
      rw [e1] at hr
      have hcap := grownCap_ok w s.size 0 E (by omega)
      refine ⟨_, _, _, by rw [Nat.zero_add]; exact hr, ?_⟩
      refine ((h0.drew.alloc _).osl_mk (0 + s.size) _ 1 ([] ++ s.data.toList.map bv) (by simp) (by omega) hcap.2 ?_ ?_)
      · have hz1 : (Value.int IntKind.u8 0).cells.size = 1 := rfl
        simp only [Array.size_append, List.size_toArray, size_zeroCells', hz1, hsl]
        omega
      · simp
  · simp only [Nat.mul_one] at hlen hcs htake
    by_cases hroom : n + s.size ≤ c
    · have hr := Lib.run_append_room_string (P := P) w t u ty E i ht hu hi hk g n c cur hS.blk_heap s hroom (by omega)
      refine ⟨_, _, _, hr, (hS.setRow _).osl_mk (n + s.size) c 1 _ (by rw [List.length_append, hlen, hsl]; omega) hroom hcm ?_ ?_⟩
      · simp only [strCells_bv, List.size_toArray, List.length_append, List.length_take, List.length_drop, Array.length_toList, hsl]
        omega
      · rw [strCells_bv, htake]
        have hl2 : (xs ++ s.data.toList.map bv).length = (n + s.size) * 1 := by rw [List.length_append, hlen, hsl]; omega
        rw [← hl2]
        exact List.take_left
    · have hr := Lib.run_append_grow_string (P := P) w t u ty E i (.int .u8 0) ht hu hi hz ⟨g, 0, none⟩ n c xs (by rw [hk]; omega) (fun j u hu => by
          obtain ⟨g', e, hc⟩ := h.osl_at (fun e => by rw [e] at hu; simp at hu)
          cases e
          have := hc j u hu
          unfold Addr.add
          split
          · rename_i e; subst e; exact this
          · simpa using this) s (by omega) (by omega) (by rw [hb]; exact growslice_fits (by omega) (by omega))
      have hcap := grownCap_ok w (n + s.size) c E hmx
      refine ⟨_, _, _, hr, ((hS.forget.drew).alloc _).osl_mk (n + s.size) _ 1 _ (by rw [List.length_append, hlen, hsl]; omega) hcap.1 hcap.2 ?_ ?_⟩
      · have hz1 : (Value.int IntKind.u8 0).cells.size = 1 := rfl
        simp only [strCells_bv, Array.size_append, List.size_toArray, size_zeroCells', hz1, hsl, hlen]
        omega
      · have hl2 : (xs ++ s.data.toList.map bv).length = (n + s.size) * 1 := by rw [List.length_append, hlen, hsl]; omega
        rw [← hl2, strCells_bv]
        simp only [Array.toList_append, List.append_assoc]
        rw [← List.append_assoc]
        exact List.take_left
theorem wpl_append_osl_str {ops : Array Oper} {rest : List Oper} {o : Oper} {ac : Act} {Q : Exit → Act → World → Prop} (hgd : o.guard = none) (sl y : Operand) (t u : TypeId)
    (ho : o.op = .call { callee := .builtin .append, args := #[sl, y], argTypes := #[t, u] })
    (E : Nat) (ht : P.underlying t = some (.slice E)) (hu : P.underlying u = some .string) (hi : (P.info? E).map (fun i => (i.zero, i.size, i.bytes)) = some (some (.int .u8 0), 1, 1))
    {a : Option Addr} {n c : Nat} {xs : List Value} (hs : ac.eval sl = .slice a n c) (h : Sat W w (sep (osl E 1 a n c xs) A))
    (s : ByteArray) (hy : ac.eval y = .string s) (h63 : n + s.size ≤ 140737488355328)
    (hK : ∀ a' c' w', Sat W w' (sep (osl E 1 a' (n + s.size) c' (xs ++ s.data.toList.map bv)) A) → wpList P ops Q rest (ac.put o.dst (.slice a' (n + s.size) c')) w') : wpList P ops Q (o :: rest) ac w := by
  obtain ⟨i, hi1, hi2, hi3, hi4⟩ := info_parts hi
  obtain ⟨a', c', w', hr, hS⟩ := run_append_osl_str t u o.type E i ht hu hi1 hi2 hi3 hi4 h s h63
  refine wpList_plain hgd fun _ hk => wp_of_run ?_ (hk _ _ (hK _ _ _ hS))
  simp only [execOp, ho, resolve, invoke, builtin]
  simp [hs, hy, hr]
end
end PA
