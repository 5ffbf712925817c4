/- slices.stableCmpFunc, SortStableFunc at fewer than 40 acts. -/
import Derived.Test.YtfapiopnjllnnaaGreatDoorGTitleApartSIn6
import Derived.Deep.CutBlock
import Derived.Test.YtfapiopnjllnnaaGreatDoorGTitleApart4
import Derived.Lib.AppendStr
import Derived.Test.YtfapiopnjllnnaaGreatDoorRows
import Derived.Test.YtfapiopnjllnnaaGreatDoorVal
import Derived.BigQuiet
import Derived.Deep.QuietTactic
import Derived.LoopTactic
import Derived.OpenShut
import Derived.Laws.BytesString
import Derived.Lib.SliceRun
namespace Go.Proofs.YtfapiopnjllnnaaGreatDoor
open Go.RowKit PA
set_option maxRecDepth 100000 in
set_option maxHeartbeats 4000000 in
theorem stable_spec {W w : World} {A A0 : Assn} {D : Ac → Ac → Prop} {c : Ac → Ac → Int} {g N : Nat} {f : Nat → Ac} {tl : List Value} (hT : Total c) (hC : CmpOK W A0 D c) (hD : DF D N f) (hN : N < 40) (cp : Nat)
    (h : Sat W w (sep (arow g N f tl) (sep A0 A))) :
    Calls Tryz.prog 61 #[.slice (some ⟨g, 0, none⟩) N cp, .int .i64 N, .func (.func 40) #[] #[]] w fun e w' => e = .returned (.tuple #[]) ∧ ∃ f', Sw 0 N f f' ∧ SrtF c 0 N f' ∧ Sat W w' (sep (arow g N f' tl) (sep A0 A)) := by
  have HI : Hid (∀ (a b : Nat) (f' : Nat → Ac) (w' : World), a ≤ b → b ≤ N → DF D N f' → Sat W w' (sep (arow g N f' tl) (sep A0 A)) → Calls Tryz.prog 83 #[.slice (some ⟨g, 0, none⟩) N cp, .int .i64 a, .int .i64 b, .func (.func 40) #[] #[]] w' fun e w' => ∃ f'', e = .returned (.tuple #[]) ∧ Sw a b f' f'' ∧ SrtF c a b f'' ∧ Sat W w' (sep (arow g N f'' tl) (sep A0 A))) :=
    Lib.hid fun a b f' w' q1 q2 q3 q4 => ins_spec hT hC q3 (by omega) cp a b q1 q2 q4
  have HY : Hid (∀ (a m b : Nat) (f' : Nat → Ac) (w' : World), a < m → m < b → b ≤ N → SrtF c a m f' → SrtF c m b f' → DF D N f' → Sat W w' (sep (arow g N f' tl) (sep A0 A)) → SymOK W A0 A c g N cp tl a m b f' w') :=
    Lib.hid fun a m b f' w' q1 q2 q3 q4 q5 q6 q7 => sym_spec hT hC (by omega) cp (b - a) a m b f' w' (Nat.le_refl _) q1 q2 q3 q4 q5 q6 q7
  have HD := Lib.hid hD
  have H := Lib.hid h
  clear hT hC hD h
  go_enter Tryz.func61, Tryz.ntmps61
  go_wp2
  go_loopw [7, 8] (fun av bv wr => ∃ (f' : Nat → Ac) (s : Nat), av = .int .i64 s ∧ bv = .int .i64 ((s + 20 : Nat) : Int) ∧ (s = 0 ∨ s = 20) ∧ s ≤ N ∧ Hid (Sw 0 s f f' ∧ SrtF c 0 s f') ∧ Sat W wr (sep (arow g N f' tl) (sep A0 A))) (fun av _ _ => 40 - (intOf av).toNat)
  case atStart => exact ⟨f, 0, rfl, rfl, .inl rfl, by omega, Lib.hid ⟨.refl, fun p q p1 p2 p3 => by omega⟩, H.out⟩
  case round =>
    obtain ⟨f1, s, rfl, rfl, hs, hsN, HF1, hS⟩ := hrel
    have HS := Lib.hid hS
    clear hS
    by_cases hb : s + 20 ≤ N
    · obtain rfl : s = 0 := by omega
      have hbz : ((0 + 20 : Nat) : Int) ≤ (N : Int) := by omega
      have hi := HI.out 0 20 f1 wr (by omega) (by omega) (HD.out.sw HF1.out.1 (by omega)) HS.out
      have HII := Lib.hid hi
      clear hi
      go_wp2_with fail
      refine HII.out.mono ?_
      rintro e w3 ⟨f2, rfl, r1, r2, r3⟩
      have HR := Lib.hid (And.intro r1 (And.intro r2 r3))
      clear r1 r2 r3 HII
      go_wp2_with fail
      go_roundw
      case rel => exact ⟨f2, 20, rfl, rfl, .inr rfl, by omega, Lib.hid ⟨(HF1.out.1.mono (Nat.le_refl _) (by omega)).trans HR.out.1, HR.out.2.1⟩, HR.out.2.2⟩
      case measure => simp [intOf]
    · have hbz : ¬ ((s + 20 : Nat) : Int) ≤ (N : Int) := by omega
      have hi := HI.out s N f1 wr hsN (Nat.le_refl _) (HD.out.sw HF1.out.1 hsN) HS.out
      have HII := Lib.hid hi
      clear hi HS
      go_wp2_with fail
      refine HII.out.mono ?_
      rintro e w3 ⟨f2, rfl, r1, r2, r3⟩
      have k1 : SrtF c 0 s f2 := HF1.out.2.congr fun k p1 p2 => r1.out (.inl p2)
      have k2 : Sw 0 N f f2 := (HF1.out.1.mono (Nat.le_refl _) hsN).trans (r1.mono (by omega) (Nat.le_refl _))
      have HR := Lib.hid (And.intro k1 (And.intro k2 r2))
      have HS := Lib.hid r3
      clear r1 r2 r3 HII k1 k2 hbz HF1 H
      go_wp2
      go_loopw [6] (fun bv wr => ∃ (z : Nat) (f' : Nat → Ac), bv = .int .i64 z ∧ ((z = 20 ∧ f' = f2) ∨ (z = 40 ∧ Hid (Sw 0 N f f' ∧ SrtF c 0 N f'))) ∧ Sat W wr (sep (arow g N f' tl) (sep A0 A))) (fun bv _ => 40 - (intOf bv).toNat)
      case atStart => exact ⟨20, f2, rfl, .inl ⟨rfl, rfl⟩, HS.out⟩
      case round =>
        obtain ⟨z, f3, rfl, hz, hS3⟩ := hrel
        have HS3 := Lib.hid hS3
        clear hS3 HS
        rcases hz with ⟨rfl, rfl⟩ | ⟨rfl, HZ⟩
        · by_cases hn : 20 < N
          · have hs20 : s = 20 := by omega
            have kk := HR.out.1
            rw [hs20] at kk
            have hnz : ((20 : Nat) : Int) < (N : Int) := by omega
            have hnz2 : (20 : Int) < (N : Int) := by omega
            have hnz3 : ¬ (40 : Int) ≤ (N : Int) := by omega
            have hy := HY.out 0 20 N f3 wr (by omega) hn (Nat.le_refl _) kk (by have k5 := HR.out.2.2; rw [hs20] at k5; exact k5) (HD.out.sw HR.out.2.1 (Nat.le_refl _)) HS3.out
            unfold SymOK at hy
            have HYY := Lib.hid hy
            clear hy kk hs20 hs
            go_wp2
            go_loopw [7, 8] (fun av bv wx => av = .int .i64 0 ∧ bv = .int .i64 40 ∧ wx = wr) (fun _ _ _ => 0)
            case atStart => exact ⟨rfl, by first | rfl | go_num, rfl⟩
            case round =>
              obtain ⟨rfl, rfl, rfl⟩ := hrel
              go_wp2_with fail
              refine HYY.out.mono ?_
              rintro e w3 ⟨rfl, f4, r1, r2, r3⟩
              have HR4 := Lib.hid (And.intro r1 (And.intro r2 r3))
              clear r1 r2 r3 HYY
              go_wp2
              go_roundw
              case rel => exact ⟨40, f4, rfl, .inr ⟨rfl, Lib.hid ⟨HR.out.2.1.trans HR4.out.1, HR4.out.2.1⟩⟩, HR4.out.2.2⟩
              case measure => simp [intOf]
          · have hnz : ¬ ((20 : Nat) : Int) < (N : Int) := by omega
            have hnz2 : ¬ (20 : Int) < (N : Int) := by omega
            have hfin : SrtF c 0 N f3 := by
              rcases hs with e | e
              · have h6 := HR.out.2.2; rw [e] at h6; exact h6
              · have h6 := HR.out.1; rw [show s = N by omega] at h6; exact h6
            have HFN := Lib.hid hfin
            clear hfin
            go_wp2
            go_end0
            exact ⟨rfl, f3, HR.out.2.1, HFN.out, HS3.out⟩
        · have hnz : ¬ ((40 : Nat) : Int) < (N : Int) := by omega
          have hnz2 : ¬ (40 : Int) < (N : Int) := by omega
          go_wp2
          go_end0
          exact ⟨rfl, f3, HZ.out.1, HZ.out.2, HS3.out⟩
end Go.Proofs.YtfapiopnjllnnaaGreatDoor
/- 'append' of a string onto an owned row of bytes. Plain Lean, no program in sight. -/
namespace PA
open Go Go.RowKit
section
variable {P : Program} {W w : World} {A : Assn}
theorem strCells_bv (s : ByteArray) : Lib.strCells s = s.data.toList.map bv := rfl
theorem run_append_osl_str (t u ty E : Nat) (i : TypeInfo) (ht : P.underlying t = some (.slice E)) (hu : P.underlying u = some .string) (hi : P.info? E = some i) (hz : i.zero = some (.int .u8 0))
    (hk : i.size = 1) (hb : i.bytes = 1) {a : Option Addr} {n c : Nat} {xs : List Value} (h : Sat W w (sep (osl E 1 a n c xs) A)) (s : ByteArray) (h63 : n + s.size ≤ 140737488355328) :
    ∃ a' c' w', (Builtin.append_ #[t, u] ty #[.slice a n c, .string s]).run P w = .ok (.slice a' (n + s.size) c') w' ∧ Sat W w' (sep (osl E 1 a' (n + s.size) c' (xs ++ s.data.toList.map bv)) A) := by
  have hsl : (s.data.toList.map bv).length = s.size := by simp
  have hmx : n + s.size ≤ maxLen := by unfold maxLen; omega
  rcases h.osl_cases with ⟨rfl, rfl, rfl, rfl, h0⟩ | ⟨g, cur, rfl, hlen, hnc, hcm, hcs, htake, hS⟩
  · by_cases hm : s.size = 0
    · have hn : s.data.toList.map bv = [] := List.eq_nil_of_length_eq_zero (by rw [hsl]; exact hm)
      refine ⟨none, 0, w, ?_, by rw [hm, hn]; exact h⟩
      have hf := Lib.run_firstCells_string (P := P) w 1 s
      rw [hm] at hf
      simp [Builtin.append_, run_underlying ht, run_underlying hu, Go.sizeOf, typeInfo, hi, hk, Builtin.lenOf, hm, hf]
    · have hr := run_append_nil_string (P := P) w t u ty E i (.int .u8 0) ht hu hi hz s (by omega) (by omega) (by rw [hb]; omega)
      have e1 : (s.data.map fun b => Value.int .u8 b.toNat) = (s.data.toList.map bv).toArray := by
        apply Array.ext'
        simp [bv, Function.comp_def]
      rw [e1] at hr
      have hcap := grownCap_ok w s.size 0 E (by omega)
      refine ⟨_, _, _, by rw [Nat.zero_add]; exact hr, ?_⟩
      refine ((h0.drew.alloc _).osl_mk (0 + s.size) _ 1 ([] ++ s.data.toList.map bv) (by simp) (by omega) hcap.2 ?_ ?_)
      · have hz1 : (Value.int IntKind.u8 0).cells.size = 1 := rfl
        simp only [Array.size_append, List.size_toArray, size_zeroCells', hz1, hsl]
        omega
      · simp
  · simp only [Nat.mul_one] at hlen hcs htake
    by_cases hroom : n + s.size ≤ c
    · have hr := Lib.run_append_room_string (P := P) w t u ty E i ht hu hi hk g n c cur hS.blk_heap s hroom (by omega)
      refine ⟨_, _, _, hr, (hS.setRow _).osl_mk (n + s.size) c 1 _ (by rw [List.length_append, hlen, hsl]; omega) hroom hcm ?_ ?_⟩
      · simp only [strCells_bv, List.size_toArray, List.length_append, List.length_take, List.length_drop, Array.length_toList, hsl]
        omega
      · rw [strCells_bv, htake]
        have hl2 : (xs ++ s.data.toList.map bv).length = (n + s.size) * 1 := by rw [List.length_append, hlen, hsl]; omega
        rw [← hl2]
        exact List.take_left
    · have hr := Lib.run_append_grow_string (P := P) w t u ty E i (.int .u8 0) ht hu hi hz ⟨g, 0, none⟩ n c xs (by rw [hk]; omega) (fun j u hu => by
          obtain ⟨g', e, hc⟩ := h.osl_at (fun e => by rw [e] at hu; simp at hu)
          cases e
          have := hc j u hu
          unfold Addr.add
          split
          · rename_i e; subst e; exact this
          · simpa using this) s (by omega) (by omega) (by rw [hb]; exact growslice_fits (by omega) (by omega))
      have hcap := grownCap_ok w (n + s.size) c E hmx
      refine ⟨_, _, _, hr, ((hS.forget.drew).alloc _).osl_mk (n + s.size) _ 1 _ (by rw [List.length_append, hlen, hsl]; omega) hcap.1 hcap.2 ?_ ?_⟩
      · have hz1 : (Value.int IntKind.u8 0).cells.size = 1 := rfl
        simp only [strCells_bv, Array.size_append, List.size_toArray, size_zeroCells', hz1, hsl, hlen]
        omega
      · have hl2 : (xs ++ s.data.toList.map bv).length = (n + s.size) * 1 := by rw [List.length_append, hlen, hsl]; omega
        rw [← hl2, strCells_bv]
        simp only [Array.toList_append, List.append_assoc]
        rw [← List.append_assoc]
        exact List.take_left
theorem wpl_append_osl_str {ops : Array Oper} {rest : List Oper} {o : Oper} {ac : Act} {Q : Exit → Act → World → Prop} (hgd : o.guard = none) (sl y : Operand) (t u : TypeId)
    (ho : o.op = .call { callee := .builtin .append, args := #[sl, y], argTypes := #[t, u] })
    (E : Nat) (ht : P.underlying t = some (.slice E)) (hu : P.underlying u = some .string) (hi : (P.info? E).map (fun i => (i.zero, i.size, i.bytes)) = some (some (.int .u8 0), 1, 1))
    {a : Option Addr} {n c : Nat} {xs : List Value} (hs : ac.eval sl = .slice a n c) (h : Sat W w (sep (osl E 1 a n c xs) A))
    (s : ByteArray) (hy : ac.eval y = .string s) (h63 : n + s.size ≤ 140737488355328)
    (hK : ∀ a' c' w', Sat W w' (sep (osl E 1 a' (n + s.size) c' (xs ++ s.data.toList.map bv)) A) → wpList P ops Q rest (ac.put o.dst (.slice a' (n + s.size) c')) w') : wpList P ops Q (o :: rest) ac w := by
  obtain ⟨i, hi1, hi2, hi3, hi4⟩ := info_parts hi
  obtain ⟨a', c', w', hr, hS⟩ := run_append_osl_str t u o.type E i ht hu hi1 hi2 hi3 hi4 h s h63
  refine wpList_plain hgd fun _ hk => wp_of_run ?_ (hk _ _ (hK _ _ _ hS))
  simp only [execOp, ho, resolve, invoke, builtin]
  simp [hs, hy, hr]
end
end PA
/- Slices of elements of several cells; bytes from a literal; Around, SameBytes. -/
namespace PA
open Go Go.RowKit
section
variable {W w : World} {A : Assn}
theorem Sat.slice_open {α : Type} {R : Rep α} {k : Nat} {v : Value} {xs : List α} (h : Sat W w (sep ((R.slice k).is [v] xs) A)) :
    ∃ a c cells, v = .slice a xs.length c ∧ Swf a xs.length c ∧ cells.length = xs.length * k ∧ Sat W w (sep (rsl a cells) (sep ((R.rows k).is cells xs) (sep ((R.slice k).is [v] xs) A))) := by
  have h0 := h
  obtain ⟨h1, h2, h3, I, m, h4, h5, h6, x, y, d, rfl, ⟨rfl, a, c, cells, e1, e2, e3, e4⟩, hA⟩ := h
  cases e1
  refine ⟨a, c, cells, rfl, e2, ?_, h1, h2, h3, I, _, h4, h5, h6, Mem.no, _, fun _ => .inl rfl, (Mem.un_no _).symm, ⟨rfl, e3⟩, Mem.no, _, fun _ => .inl rfl, (Mem.un_no _).symm, ⟨rfl, e4⟩, Mem.no, y, d, rfl, ⟨rfl, a, c, cells, rfl, e2, e3, e4⟩, hA⟩
  obtain ⟨css, rfl, hall⟩ := e4
  clear h0 e3
  have : ∀ (css : List (List Value)) (xs : List α), All2 (fun c x => R.rel I c x ∧ c.length = k) css xs → css.flatten.length = xs.length * k := by
    intro css
    induction css with
    | nil => intro xs h; cases xs with
      | nil => simp
      | cons _ _ => exact h.elim
    | cons c css ih => intro xs h; cases xs with
      | nil => exact h.elim
      | cons x xs => simp [ih xs h.2, h.1.2, Nat.add_mul, Nat.add_comm]
  exact this _ _ hall
theorem Sat.slice_mk {α : Type} {R : Rep α} {k : Nat} {a : Option Addr} {c : Nat} {cells : List Value} {xs : List α} (h : Sat W w (sep (rsl a cells) (sep ((R.rows k).is cells xs) A))) (hw : Swf a xs.length c) : Sat W w (sep ((R.slice k).is [.slice a xs.length c] xs) A) := by
  obtain ⟨h1, h2, h3, I, m, h4, h5, h6, x, y, d, rfl, ⟨rfl, e1⟩, x2, y2, d2, rfl, ⟨rfl, e2⟩, hA⟩ := h
  exact ⟨h1, h2, h3, I, _, h4, h5, by simpa only [Mem.un_no] using h6, Mem.no, y2, fun _ => .inl rfl, (Mem.un_no _).symm, ⟨rfl, a, c, cells, rfl, hw, e1, e2⟩, hA⟩
/-- An owned row is given up. -/
theorem Sat.slice_of_osl {α : Type} {R : Rep α} {E k : Nat} {a : Option Addr} {n c : Nat} {cells : List Value} {xs : List α} (h : Sat W w (sep (osl E k a n c cells) (sep ((R.rows k).is cells xs) A))) (hn : n = xs.length) : Sat W w (sep ((R.slice k).is [.slice a n c] xs) A) := by
  subst hn
  exact h.osl_settle.slice_mk h.swf_of_osl
/-- One element of such a slice: where its cells lie. -/
theorem Sat.slice_get {α : Type} {R : Rep α} {k : Nat} {a : Option Addr} {n c : Nat} {xs : List α} (h : Sat W w (sep ((R.slice k).is [.slice a n c] xs) A)) (i : Nat) (hi : i < xs.length) (hk : 0 < k) :
    ∃ b o cv, a = some ⟨b, o, none⟩ ∧ cv.length = k ∧ (∀ j u, cv[j]? = some u → w.cell? ⟨b, o + (i * k + j), none⟩ = some u) ∧ Sat W w (sep (R.is cv xs[i]) (sep ((R.slice k).is [.slice a n c] xs) A)) := by
  obtain ⟨a', c', cells, e, hw, hl, h2⟩ := h.slice_open
  cases e
  have hne : cells ≠ [] := by intro e; rw [e] at hl; have : 0 < xs.length * k := Nat.mul_pos (by omega) hk; simp at hl; omega
  obtain ⟨b, o, rfl, hc⟩ := h2.rsl_at hne
  obtain ⟨cv, hcv, hget, h3⟩ := h2.p1.rows_get i hi
  refine ⟨b, o, cv, rfl, hcv, fun j u hu => hc _ _ ?_, h3.p1.tail.p1.tail⟩
  have hj : j < k := by rw [← hcv]; exact (List.getElem?_eq_some_iff.1 hu).1
  rw [hget j hj, hu]
theorem Sat.bytes_of_alloc (h : Sat W w A) (bs : List UInt8) (t : TypeId) (f : Nat × Nat) (hb : bs.length ≤ maxLen) :
    Sat W (w.alloc (.cells (bs.map bv).toArray t f)) (sep (rBytes.is [.slice (some ⟨w.heap.size, 0, none⟩) bs.length bs.length] bs) A) := by
  have h1 := (h.alloc (.cells (bs.map bv).toArray t f)).settle
  refine Sat.bytes_mk (h1.wk ?_) ⟨Nat.le_refl _, hb, fun h => (by cases h)⟩
  rintro I m ⟨x, y, d, e, ⟨rfl, hI⟩, hA⟩
  exact ⟨Mem.no, y, d, e, ⟨rfl, .inr ⟨w.heap.size, 0, _, t, f, rfl, hI, fun i u hu => by simpa using hu⟩⟩, hA⟩
theorem madeCells_one (z : Value) (n : Nat) : (madeCells #[z] n).toList = List.replicate n z := by
  apply List.ext_getElem
  · simp [madeCells]
  · intro i h1 h2
    simp [madeCells, Nat.mod_one]
/-- 'make([]byte, n)'. -/
theorem make_bytes {P : Program} {t e : TypeId} (ht : P.underlying t = some (.slice e)) (hi : (P.info? e).map (fun i => (i.zero, i.size, i.bytes)) = some (some (.int .u8 0), 1, 1)) (h : Sat W w A) (n : Nat) (hn : (n : Int) ≤ 281474976710656) :
    ∃ w', (Instr.makeSlice t (.int .i64 n) (.int .i64 n)).run P w = .ok (.slice (some ⟨w.heap.size, 0, none⟩) n n) w' ∧ Sat W w' (sep (osl e 1 (some ⟨w.heap.size, 0, none⟩) n n ((List.replicate n (0 : UInt8)).map bv)) A) := by
  obtain ⟨i, h1, h2, h3, h4⟩ := info_parts hi
  have hr := run_make (P := P) w t e i (.int .u8 0) ht h1 h2 .i64 .i64 n n (by omega) (Int.le_refl _) (by rw [h4]; omega) (by omega)
  refine ⟨_, by simpa using hr, ?_⟩
  have hz : (Value.int .u8 0).cells = #[Value.int .u8 0] := rfl
  rw [h3, hz]
  refine (h.alloc _).osl_mk n n 1 _ (by simp) (Nat.le_refl _) (by unfold maxLen; omega) (by rw [← Array.length_toList, madeCells_one]; simp) ?_
  rw [madeCells_one]
  simp [bv]
theorem foldl_push_bytes : ∀ (bs : List UInt8) (s : ByteArray), (bs.map fun b => (b.toNat : Int)).foldl (fun r n => r.push (UInt8.ofNat n.toNat)) s = ⟨s.data ++ bs.toArray⟩
  | [], s => by simp
  | b :: bs, s => by
    rw [List.map_cons, List.foldl_cons, foldl_push_bytes bs]
    congr 1
    simp [ByteArray.push]
/-- 'string(b)'. -/
theorem run_string_bytes {P : Program} {src dst e : TypeId} (hs : P.underlying src = some (.slice e)) (he : P.underlying e = some (.int .u8)) (hd : P.underlying dst = some .string)
    {v : Value} {bs : List UInt8} (h : Sat W w (sep (rBytes.is [v] bs) A)) : (convert src dst v).run P w = .ok (.string ⟨bs.toArray⟩) w := by
  obtain ⟨a, c, rfl, hw, hx⟩ := h.bytes_open
  rw [run_convert_bytes_string w src dst e a _ c hs he hd]
  cases a with
  | none =>
    have : bs = [] := by have := hw.2.2 rfl; have := hw.1; exact List.eq_nil_of_length_eq_zero (by omega)
    subst this
    simp [Conv.bytesToString]; rfl
  | some a =>
    have hl : (loadCells a bs.length).run P w = .ok ((bs.map fun b => (b.toNat : Int)).map (Value.int .u8)).toArray w := by
      have := run_loadCells_list (P := P) w a (bs.map bv) hx.rsl_src
      rw [List.length_map] at this
      rw [this]; simp [bv, Function.comp_def]
    rw [run_bytesToString w a bs.length c _ hl, foldl_push_bytes]
    simp
end
end PA
namespace Go.Proofs.YtfapiopnjllnnaaGreatDoor
open Go.RowKit PA
theorem i64_of_wf {a : Int} (h : (Lit.int .i64 a).wf = true) : -9223372036854775808 ≤ a ∧ a ≤ 9223372036854775807 := bounds_i64 h
def aroundI (n m : Int) : Int := (if n < 0 then -(n + 1) else n) % m
theorem aroundI_lt (n m : Int) (h : 0 < m) : 0 ≤ aroundI n m ∧ aroundI n m < m := by
  unfold aroundI; exact ⟨Int.emod_nonneg _ (by omega), Int.emod_lt_of_pos _ h⟩
theorem ret_i {a b : Int} (h : a = b) : Ending.returned (.int .i64 a) = .returned (.int .i64 b) := by rw [h]
theorem ret_b {a b : Bool} (h : a = b) : Ending.returned (.bool a) = .returned (.bool b) := by rw [h]
set_option maxHeartbeats 400000 in
theorem around_spec (n m : Int) (w : World) (hn : -9223372036854775808 ≤ n) (hn2 : n ≤ 9223372036854775807) (hm : 1 ≤ m) (hm2 : m ≤ 9223372036854775807) :
    Calls Tryz.prog 12 #[.int .i64 n, .int .i64 m] w fun e w' => e = .returned (.int .i64 (aroundI n m)) ∧ w = w' := by
  by_cases h : n < 0
  · go_enter Tryz.func12, Tryz.ntmps12
    go_wp2
    go_ret
    exact ⟨ret_i (by unfold aroundI; rw [if_pos h, ← Int.neg_tmod, Int.tmod_eq_emod_of_nonneg (by omega)]), rfl⟩
  · go_enter Tryz.func12, Tryz.ntmps12
    go_wp2
    go_ret
    exact ⟨ret_i (by unfold aroundI; rw [if_neg (by omega)]), rfl⟩
theorem bv_cell {bs : List UInt8} {i : Nat} (h : i < bs.length) : (bs.map bv)[i]? = some (.int .u8 (bs[i].toNat : Int)) := by
  rw [List.getElem?_map, List.getElem?_eq_getElem h]; rfl
end Go.Proofs.YtfapiopnjllnnaaGreatDoor
/- Package acts: Sort (slices.Clone, SortStableFunc) of 1 to 39 acts. -/
namespace Go.Proofs.YtfapiopnjllnnaaGreatDoor
open Go.RowKit PA
theorem infoAct : (Tryz.prog.info? 57).map (fun i => (i.zero, i.size, i.bytes)) = some (some (.agg Ac.zero.cells.toArray), 19, 248) := by kernel_rfl
theorem cloneActs_spec {W w : World} {A : Assn} {I : Mem} (b : Addr) (n c : Nat) (xs : List Ac) (hn : xs.length = n) (h40 : n ≤ 65536) (hw : Swf (some b) n c) (hc : cellsAt (some b) (acs xs) I) (h : Sat W w (sep (kn I) A)) :
    Calls Tryz.prog 38 #[.slice (some b) n c] w fun e w' => ∃ a' c', e = .returned (.slice a' n c') ∧ Sat W w' (sep (osl 57 19 a' n c' (acs xs)) (sep (kn I) A)) := by
  obtain ⟨hw1, hw2, hw3⟩ := hw
  have hq := fun w a n c => Lib.run_eql_slice_nil (P := Tryz.prog) w 29 57 a n c 0 0 Tryz.underlying29
  have hS := (h.alloc (.cells #[] 57)).osl_mk 0 0 19 [] rfl (by omega) (by unfold maxLen; omega) rfl rfl
  have hsrc := src_ext hc h.ext b rfl
  have hc2 := Lib.hid (old_src hsrc (.cells #[] 57))
  have hl : (acs xs).length = n * 19 := by rw [acs_len, hn]
  have h1 := acs_one xs
  obtain ⟨vs, hvs⟩ : ∃ vs, vs = acs xs := ⟨_, rfl⟩
  rw [← hvs] at hc2 hl h1 ⊢
  have HW2 := Lib.hid hw2
  have HL := Lib.hid hl
  have H1 := Lib.hid h1
  have h40I : (n : Int) ≤ 65536 := by omega
  clear hsrc hw1 hw2 hw3 hc hvs hl h1 h hn
  go_enter Tryz.func38, Tryz.ntmps38
  go_wp2_with (at_builtin; refine wpl_append_osl rfl _ _ 29 rfl 57 19 248 _ Tryz.underlying29 infoAct rfl rfl hS rfl vs HL.out (by simp) (by intro b' hb; cases hb; exact hc2.out) H1.out (by omega) (by unfold maxLen; omega) ?_)
  intro a' c' w' hS'
  go_wp2
  go_ret
  refine ⟨a', c', ?_, ?_⟩
  · simp
  · simpa using hS'
theorem osl_arow {W w : World} {A : Assn} {a : Option Addr} {n c : Nat} {xs : List Ac} (hn : xs.length = n) (h0 : 0 < n) (h : Sat W w (sep (osl 57 19 a n c (acs xs)) A)) :
    ∃ g tl, a = some ⟨g, 0, none⟩ ∧ n ≤ c ∧ c ≤ maxLen ∧ (n * 19 + tl.length = c * 19) ∧ Sat W w (sep (arow g n (fun i => xs.getD i default) tl) A) := by
  rcases h.osl_cases with ⟨-, rfl, -, -, -⟩ | ⟨g, cur, rfl, h1, h2, h3, h4, h5, h6⟩
  · omega
  · have hle : n * 19 ≤ c * 19 := Nat.mul_le_mul_right _ h2
    refine ⟨g, cur.toList.drop (n * 19), rfl, h2, h3, by rw [List.length_drop, Array.length_toList, h4]; omega, ?_⟩
    unfold arow
    subst hn
    rw [list_of_fn, ← h5, List.take_append_drop, Array.toArray_toList]
    exact h6
theorem arow_osl {W w : World} {A : Assn} {g n c : Nat} {f : Nat → Ac} {tl : List Value} (h2 : n ≤ c) (h3 : c ≤ maxLen) (h4 : n * 19 + tl.length = c * 19) (h : Sat W w (sep (arow g n f tl) A)) :
    Sat W w (sep (osl 57 19 (some ⟨g, 0, none⟩) n c (acs ((List.range n).map f))) A) := by
  have hl : (acs ((List.range n).map f)).length = n * 19 := by rw [acs_len]; simp
  refine h.osl_mk n c 19 _ hl h2 h3 (by simp [hl]; omega) ?_
  show (acs ((List.range n).map f) ++ tl).take (n * 19) = _
  rw [← hl, List.take_left]
set_option maxHeartbeats 1000000 in
theorem sort_spec {W w : World} {A A0 : Assn} {D : Ac → Ac → Prop} {c : Ac → Ac → Int} {I : Mem} (hT : Total c) (hC : CmpOK W A0 D c) (hsy : ∀ x y, D x y → D y x) (b : Addr) (n cp : Nat) (xs : List Ac) (hn : xs.length = n) (hD : xs.Pairwise D) (h0 : 0 < n) (h40 : n < 40)
    (hw : Swf (some b) n cp) (hc : cellsAt (some b) (acs xs) I) (h : Sat W w (sep (kn I) (sep A0 A))) :
    Calls Tryz.prog 22 #[.slice (some b) n cp] w fun e w' => ∃ ys g c' J, e = .returned (.slice (some ⟨g, 0, none⟩) n c') ∧ ys.Perm xs ∧ Asc c ys ∧ Mem.le I J ∧ n ≤ c' ∧ c' ≤ maxLen ∧ cellsAt (some ⟨g, 0, none⟩) (acs ys) J ∧ Sat W w' (sep (kn J) (sep A0 A)) := by
  have hcl := Lib.hid (cloneActs_spec b n cp xs hn (by omega) hw hc h)
  have HN := Lib.hid hn
  have HD : Hid (DF D n fun i => xs.getD i default) := Lib.hid (by have := DF.of_list hsy hD; rw [hn] at this; exact this)
  have HTC := Lib.hid (And.intro hT hC)
  clear hn hD hsy hc hw hT hC h
  go_enter Tryz.func22, Tryz.ntmps22
  go_wp2_with fail
  refine hcl.out.mono ?_
  rintro e w2 ⟨a', c', rfl, h2⟩
  obtain ⟨g, tl, rfl, hc1, hc2, hc3, h3⟩ := osl_arow HN.out h0 h2
  have hst := stable_spec (A := sep (kn I) A) HTC.out.1 HTC.out.2 HD.out h40 c' (show Sat W w2 (sep (arow g n (fun i => xs.getD i default) tl) (sep A0 (sep (kn I) A))) by simpa only [sep_comm, sep_lcomm, sep_assoc] using h3)
  have HST := Lib.hid hst
  have HCC := Lib.hid (And.intro hc1 (And.intro hc2 hc3))
  clear hcl h2 h3 hst hc1 hc2 hc3
  go_wp2_with (first | (go_at_call 61; refine HST.out.mono ?_) | go_in)
  rintro e w4 ⟨rfl, f', r1, r2, r3⟩
  have h5 := (arow_osl HCC.out.1 HCC.out.2.1 HCC.out.2.2 r3).osl_settle
  have hp := r1.perm
  have hl := r2.list
  have HPL := Lib.hid (And.intro hp hl)
  have HF : Hid (Sat W w4 (sep (rsl (some ⟨g, 0, none⟩) (acs ((List.range n).map f'))) (sep (kn I) (sep A0 A)))) := Lib.hid (by simpa only [sep_comm, sep_lcomm, sep_assoc] using h5)
  clear r1 r2 r3 h5 hp hl HST
  go_wp2
  go_end0
  go_wp2
  go_ret
  obtain ⟨J, hle, hJ, hS⟩ := HF.out.learn
  refine ⟨_, g, c', J, rfl, ?_, HPL.out.2, hle, HCC.out.1, HCC.out.2.1, hJ, hS⟩
  refine HPL.out.1.trans ?_
  have := HN.out
  subst this
  rw [list_of_fn]
theorem cmpK_total : Total cmpK := ⟨fun _ _ _ => cmpK_trans, cmpK_flip⟩
theorem cmpK_ok (W : World) : CmpOK W emp KeyNe cmpK := fun x y w B hne h => by
  rw [emp_sep] at h
  refine (compareK_spec x y hne h).mono ?_
  rintro e w' ⟨rfl, h2⟩
  exact ⟨rfl, by rw [emp_sep]; exact h2⟩
end Go.Proofs.YtfapiopnjllnnaaGreatDoor
