/- Package wire: the reader's Uint at an error, Int, End, Raw. -/
import Derived.Test.YtcmjbjlliehdiaaDoorGAuthmapSound31
import Derived.Deep.DeepCutAuto
namespace Go.Proofs.YtcmjbjlliehdiaaDoor
open Go.RowKit PA
def RSt.small : RSt → Prop
  | .ok l => l.length ≤ 1073742900
  | .error _ => True
theorem rduint_spec {W w : World} {A : Assn} (p : Nat) (st : RSt) (h : Sat W w (sep (isRd 129 p st) A)) (hl : RSt.small st) :
    Calls Tryd.prog 67 #[.pointer (some ⟨p, 0, none⟩)] w fun r w' => r = .returned (.int .u64 ((stU st).1 : Nat)) ∧ Sat W w' (sep (isRd 129 p (stU st).2) A) := by
  cases st with
  | ok l => exact rduint_ok p l h hl
  | error e =>
    obtain ⟨c1, he⟩ := isRd_cell_er h
    have b1 : (e == 0) = false := by simp; omega
    clear he hl
    go_enter Tryd.func67, Tryd.ntmps67
    go_wp2_with fail
    go_loop [3, 4] (fun _ iv => iv = .int .i64 0) (fun _ _ => 0)
    case atStart => exact rfl
    case round =>
      obtain rfl := hrel
      go_wp2_with fail
      go_ret
      exact ⟨rfl, h⟩
theorem stU_small {st : RSt} (h : RSt.small st) : RSt.small (stU st).2 := by
  cases st with
  | error e => exact h
  | ok l =>
    unfold stU; dsimp only
    cases hu : uintP l with
    | error e => trivial
    | ok x =>
      obtain ⟨n, l'⟩ := x
      obtain ⟨-, k, e⟩ := uintGo_lt l 0 0 (by omega) (by decide) n l' hu
      show l'.length ≤ _
      have : l.length ≤ 1073742900 := h
      rw [e, List.length_drop]; omega
theorem rdint_spec {W w : World} {A : Assn} (p : Nat) (st : RSt) (h : Sat W w (sep (isRd 129 p st) A)) (hl : RSt.small st) :
    Calls Tryd.prog 66 #[.pointer (some ⟨p, 0, none⟩)] w fun r w' => r = .returned (.int .i64 (stI st).1) ∧ Sat W w' (sep (isRd 129 p (stI st).2) A) := by
  have HU := Lib.hid (rduint_spec p st h hl)
  have HZ := Lib.hid (stU_lt st)
  obtain ⟨z, hz⟩ : ∃ z, z = (stU st).1 := ⟨_, rfl⟩
  have e1 : stI st = (unz z, (stU st).2) := by rw [hz]; rfl
  rw [← hz] at HU HZ
  have HE := Lib.hid e1
  clear e1 h hl hz
  go_enter Tryd.func66, Tryd.ntmps66
  go_wp2_with fail
  refine HU.out.mono ?_
  rintro r w2 ⟨rfl, hS⟩
  go_wp2_with fail
  refine (unzigzag_spec z _ HZ.out).mono ?_
  rintro r w3 ⟨rfl, rfl⟩
  go_wp2_with fail
  go_ret
  rw [HE.out]
  exact ⟨rfl, hS⟩
theorem rdend_spec {W w : World} {A : Assn} (p : Nat) (st : RSt) (h : Sat W w (sep (isRd 129 p st) A)) (hl : RSt.small st) :
    Calls Tryd.prog 68 #[.pointer (some ⟨p, 0, none⟩)] w fun r w' => r = .returned (.int .i64 (stE st)) ∧ Sat W w' (sep (isRd 129 p st) A) := by
  cases st with
  | error e =>
    obtain ⟨c1, he⟩ := isRd_cell_er h
    have b1 : (e == 0) = false := by simp; omega
    clear he hl
    go_enter Tryd.func68, Tryd.ntmps68
    go_wp2_with fail
    go_ret
    exact ⟨rfl, h⟩
  | ok l =>
    obtain ⟨a, c, -, h1⟩ := isRd_ok h
    obtain ⟨n, hn⟩ : ∃ n, n = l.length := ⟨_, rfl⟩
    rw [← hn] at h1
    have c0 : w.cell? ⟨p, 0, none⟩ = some (.slice a n c) := h1.cell 0
    have c1 : w.cell? ⟨p, 1, none⟩ = some (.int .i64 0) := h1.cell 1
    have hv : stE (.ok l) = if n = 0 then 0 else 2 := by
      unfold stE; dsimp only
      cases l with
      | nil => simp [hn]
      | cons x l => simp [hn]
    have HV := Lib.hid hv
    clear h1 hl hv hn
    by_cases h0 : n = 0
    · subst h0
      go_enter Tryd.func68, Tryd.ntmps68
      go_wp2_with fail
      go_ret
      exact ⟨by rw [HV.out]; rfl, h⟩
    · have hp : 0 < n := by omega
      have HP := Lib.hid h0
      clear h0
      go_enter Tryd.func68, Tryd.ntmps68
      go_wp2_with fail
      go_ret
      exact ⟨by rw [HV.out, if_neg HP.out]; rfl, h⟩
theorem isRd_slice {W w : World} {A : Assn} {T p : Nat} {st : RSt} (h : Sat W w (sep (isRd T p st) A)) : ∃ a n c, w.cell? ⟨p, 0, none⟩ = some (.slice a n c) ∧ (∀ l, st = .ok l → n = l.length) := by
  cases st with
  | error e =>
    obtain ⟨-, a, n, c, h1⟩ := isRd_er h
    exact ⟨a, n, c, h1.cell 0, fun l e => (by cases e)⟩
  | ok l =>
    obtain ⟨a, c, -, h1⟩ := isRd_ok h
    exact ⟨a, _, c, h1.cell 0, fun l' e => by cases e; rfl⟩
set_option maxHeartbeats 1000000 in
theorem list_er {W w : World} {A : Assn} (p : Nat) (st : RSt) (h : Sat W w (sep (isRd 129 p st) A)) (hl : RSt.small st) (e : Int) (he : stU st = (0, .error e)) (f : Value) :
    Calls Tryd.prog 72 #[.pointer (some ⟨p, 0, none⟩), f] w fun r w' => r = .returned (.slice none 0 0) ∧ Sat W w' (sep (isRd 129 p (.error e)) A) := by
  have hu := rduint_spec p st h hl
  rw [he] at hu
  have HU := Lib.hid hu
  clear hu he h hl
  go_enter Tryd.func72, Tryd.ntmps72
  go_wp2_with fail
  refine HU.out.mono ?_
  rintro r w2 ⟨rfl, hS⟩
  obtain ⟨c1, he⟩ := isRd_cell_er hS
  obtain ⟨a, n, c, c0, -⟩ := isRd_slice hS
  have b1 : (e == 0) = false := by simp; omega
  have b2 : (e != 0) = true := by simp; omega
  have e0 : ((0 : Nat) : Int) = 0 := rfl
  have hw0 : 0 ≤ IntKind.u64.wrap (n : Int) := by rw [IntKind.wrap_u64]; omega
  have hw1 : decide (IntKind.u64.wrap (n : Int) < 0) = false := by simp; omega
  have hw2 : ¬ IntKind.u64.wrap (n : Int) < 0 := by omega
  clear he hw0 hw2
  go_wp2_with fail
  go_loop [7] (fun iv => iv = .int .u64 0) (fun _ => 0)
  case atStart => exact rfl
  case round =>
    obtain rfl := hrel
    go_wp2_with fail
    go_ret
    exact ⟨rfl, hS⟩
end Go.Proofs.YtcmjbjlliehdiaaDoor
/- Package wire: the reader's Raw. -/
namespace Go.Proofs.YtcmjbjlliehdiaaDoor
open Go.RowKit PA
set_option maxHeartbeats 1000000 in
theorem list_short {W w : World} {A : Assn} (p : Nat) (st : RSt) (h : Sat W w (sep (isRd 129 p st) A)) (hl : RSt.small st) (n : Nat) (l : List UInt8) (he : stU st = (n, .ok l)) (hn : l.length < n) (f : Value) :
    Calls Tryd.prog 72 #[.pointer (some ⟨p, 0, none⟩), f] w fun r w' => r = .returned (.slice none 0 0) ∧ Sat W w' (sep (isRd 129 p (.error 3)) A) := by
  have hu := rduint_spec p st h hl
  have hsm := stU_small hl
  rw [he] at hu hsm
  have hll : l.length ≤ 1073742900 := hsm
  have HU := Lib.hid hu
  obtain ⟨m, hm⟩ : ∃ m, m = l.length := ⟨_, rfl⟩
  rw [← hm] at hn hll
  have hwl : IntKind.u64.wrap (m : Int) = (m : Int) := wraps_u64 _ (by omega) (by omega)
  have HM := Lib.hid hm
  have hnI : (m : Int) < n := by omega
  have hn0 : (0 : Int) < (n : Int) := by omega
  clear hu he h hl hm hsm hll hn
  go_enter Tryd.func72, Tryd.ntmps72
  go_wp2_with fail
  refine HU.out.mono ?_
  rintro r w2 ⟨rfl, hS⟩
  have c1 := isRd_cell_ok hS
  obtain ⟨a, k, c, c0, hk⟩ := isRd_slice hS
  have hk2 := (hk l rfl).trans HM.out.symm
  subst hk2
  clear hk
  go_wp2_with fail
  refine (fail_ok p l 3 (by omega) hS).mono ?_
  rintro r w3 ⟨rfl, hS3⟩
  obtain ⟨c3, -⟩ := isRd_cell_er hS3
  clear c1 c0 hS
  go_wp2_with fail
  go_loop [7] (fun iv => iv = .int .u64 0) (fun _ => 0)
  case atStart => exact rfl
  case round =>
    obtain rfl := hrel
    go_wp2_with fail
    go_ret
    exact ⟨rfl, hS3⟩
set_option maxHeartbeats 2000000 in
theorem list_ok {W w : World} {A : Assn} (p : Nat) (st : RSt) (h : Sat W w (sep (isRd 129 p st) A)) (hl : RSt.small st) (n : Nat) (l : List UInt8) (he : stU st = (n, .ok l)) (hn : n ≤ l.length) :
    Calls Tryd.prog 72 #[.pointer (some ⟨p, 0, none⟩), .func (.func 73) #[.pointer (some ⟨p, 0, none⟩)] #[]] w fun r w' => ∃ v, r = .returned v ∧ Sat W w' (sep (rBytes.is [v] (l.take n)) (sep (isRd 129 p (.ok (l.drop n))) A)) := by
  have hu := rduint_spec p st h hl
  have hsm := stU_small hl
  rw [he] at hu hsm
  have hll : l.length ≤ 1073742900 := hsm
  have HU := Lib.hid hu
  have HLL := Lib.hid hll
  have HNL := Lib.hid hn
  obtain ⟨m, hm⟩ : ∃ m, m = l.length := ⟨_, rfl⟩
  rw [← hm] at hn hll
  have hwl : IntKind.u64.wrap (m : Int) = (m : Int) := wraps_u64 _ (by omega) (by omega)
  have HM := Lib.hid hm
  have hnI : ¬ m < n := by omega
  have hnb : (n : Int) ≤ 1073742900 := by omega
  clear hu he h hl hm hsm hll hn
  go_enter Tryd.func72, Tryd.ntmps72
  go_wp2_with fail
  refine HU.out.mono ?_
  rintro r w2 ⟨rfl, hS⟩
  have c1 := isRd_cell_ok hS
  obtain ⟨a, k, c, c0, hk⟩ := isRd_slice hS
  have hk2 := (hk l rfl).trans HM.out.symm
  subst hk2
  clear hk
  go_wp2_with fail
  clear c0 c1 hwl hnI
  go_loopw [6, 7] (fun ov iv wr => ∃ (i : Nat) (a : Option Addr) (c : Nat) (vs : List Value), iv = .int .u64 (i : Nat) ∧ i ≤ n ∧ ov = .slice a i c ∧ Hid (vs = (l.take i).map bv) ∧ Sat W wr (sep (osl 5 1 a i c vs) (sep (isRd 129 p (.ok (l.drop i))) A))) (fun _ iv _ => n - (intOf iv).toNat)
  case atStart => exact ⟨0, none, 0, [], rfl, Nat.zero_le _, rfl, Lib.hid rfl, hS.osl_nil _ _⟩
  case round =>
    clear hS
    obtain ⟨i, a, c, vs, rfl, hi, rfl, HV, hS⟩ := hrel
    by_cases hin : i < n
    · have hil : i < l.length := by have := HNL.out; omega
      obtain ⟨x, hx⟩ : ∃ x, x = l[i] := ⟨_, rfl⟩
      have hd : l.drop i = x :: l.drop (i + 1) := by rw [hx]; exact List.drop_eq_getElem_cons hil
      have c1 := isRd_cell_ok hS.p1
      have hS2 := hS.p1
      rw [hd] at hS2
      have hnx := Lib.hid (next_ok p x _ hS2 (by rw [List.length_drop]; have := HLL.out; omega))
      have hinI : (i : Int) < n := by omega
      have HX := Lib.hid hx
      have HI := Lib.hid hi
      have HIL := Lib.hid hil
      clear hx hd hS hS2 hi
      go_wp2_with fail
      refine hnx.out.mono ?_
      rintro r w3 ⟨rfl, hS3⟩
      have hB := (hS3.p1.alloc0 (.cells #[.int .u8 (x.toNat : Nat)] 5))
      clear hS3 c1 hnx
      go_wp2_with (at_builtin; (refine wpl_append_osl rfl (.tmp 32) (.tmp 35) 32 rfl 5 1 1 (.int .u8 0) Tryd.underlying32 infoU8w rfl rfl hB rfl [.int .u8 (x.toNat : Nat)] rfl (by simp) (by intro b hb; cases hb; exact new_src _ [_] _) (by simp [Value.oneCell']) (by omega) (by unfold maxLen; omega) ?_))
      intro a2 c2 w4 h4
      clear hB
      go_wp2_with fail
      go_roundw
      case rel =>
        refine ⟨i + 1, a2, c2, _, by go_num, by omega, rfl, Lib.hid ?_, h4⟩
        rw [HV.out, List.take_succ_eq_append_getElem HIL.out, List.map_append, List.map_cons, List.map_nil, bv, ← HX.out]
      case measure => simp [intOf]; omega
    · obtain rfl : i = n := by omega
      have hinI : ¬ (i : Int) < (i : Int) := by omega
      have c1 := isRd_cell_ok hS.p1
      go_wp2_with fail
      go_ret
      rw [HV.out] at hS
      exact ⟨_, rfl, hS.bytes_of_osl.2⟩
theorem stR_er {st : RSt} {e : Int} (h : stU st = (0, .error e)) : stR st = ([], .error e) := by
  cases st with
  | error e' => have := congrArg Prod.snd h; simp [stU] at this; subst this; rfl
  | ok l =>
    unfold stU at h; dsimp only at h
    unfold stR rawP; dsimp only
    cases hu : uintP l with
    | error e' => rw [hu] at h; simp at h; subst h; rfl
    | ok x => rw [hu] at h; simp at h
theorem stR_ok {st : RSt} {n : Nat} {l : List UInt8} (h : stU st = (n, .ok l)) : stR st = if l.length < n then ([], .error 3) else (l.take n, .ok (l.drop n)) := by
  cases st with
  | error e' => simp [stU] at h
  | ok l' =>
    unfold stU at h; dsimp only at h
    unfold stR rawP; dsimp only
    cases hu : uintP l' with
    | error e' => rw [hu] at h; simp at h
    | ok x =>
      obtain ⟨n', l2⟩ := x
      rw [hu] at h; simp at h
      obtain ⟨rfl, rfl⟩ := h
      dsimp only
      by_cases hlt : l2.length < n'
      · rw [if_pos hlt, if_pos hlt]
      · rw [if_neg hlt, if_neg hlt]
theorem stU_cases (st : RSt) : (∃ e, stU st = (0, .error e)) ∨ ∃ n l, stU st = (n, .ok l) := by
  cases st with
  | error e => exact .inl ⟨e, rfl⟩
  | ok l =>
    unfold stU; dsimp only
    cases uintP l with
    | error e => exact .inl ⟨e, rfl⟩
    | ok x => exact .inr ⟨_, _, rfl⟩
theorem list_spec {W w : World} {A : Assn} (p : Nat) (st : RSt) (h : Sat W w (sep (isRd 129 p st) A)) (hl : RSt.small st) :
    Calls Tryd.prog 72 #[.pointer (some ⟨p, 0, none⟩), .func (.func 73) #[.pointer (some ⟨p, 0, none⟩)] #[]] w fun r w' => ∃ v, r = .returned v ∧ Sat W w' (sep (rBytes.is [v] (stR st).1) (sep (isRd 129 p (stR st).2) A)) := by
  rcases stU_cases st with ⟨e, he⟩ | ⟨n, l, he⟩
  · rw [stR_er he]
    exact (list_er p st h hl e he _).mono fun r w' ⟨h1, h2⟩ => ⟨_, h1, h2.bytes_nil⟩
  · rw [stR_ok he]
    by_cases hlt : l.length < n
    · rw [if_pos hlt]
      exact (list_short p st h hl n l he hlt _).mono fun r w' ⟨h1, h2⟩ => ⟨_, h1, h2.bytes_nil⟩
    · rw [if_neg hlt]
      exact list_ok p st h hl n l he (by omega)
theorem rdraw_spec {W w : World} {A : Assn} (p : Nat) (st : RSt) (h : Sat W w (sep (isRd 129 p st) A)) (hl : RSt.small st) :
    Calls Tryd.prog 36 #[.pointer (some ⟨p, 0, none⟩)] w fun r w' => ∃ v, r = .returned v ∧ Sat W w' (sep (rBytes.is [v] (stR st).1) (sep (isRd 129 p (stR st).2) A)) := by
  have HU := Lib.hid (list_spec p st h hl)
  clear h hl
  go_enter Tryd.func36, Tryd.ntmps36
  go_wp2_with fail
  refine HU.out.mono ?_
  rintro r w2 ⟨v, rfl, hS⟩
  go_wp2_with fail
  go_ret
  exact ⟨v, rfl, hS⟩
theorem stR_small {st : RSt} (h : RSt.small st) : RSt.small (stR st).2 := by
  have h1 := stU_small h
  rcases stU_cases st with ⟨e, he⟩ | ⟨n, l, he⟩
  · rw [stR_er he]; trivial
  · rw [stR_ok he]
    rw [he] at h1
    by_cases hlt : l.length < n
    · rw [if_pos hlt]; trivial
    · rw [if_neg hlt]
      have : l.length ≤ 1073742900 := h1
      show (l.drop n).length ≤ _
      rw [List.length_drop]; omega
theorem stR_len {st : RSt} (h : RSt.small st) : (stR st).1.length ≤ 1073742900 := by
  have h1 := stU_small h
  rcases stU_cases st with ⟨e, he⟩ | ⟨n, l, he⟩
  · rw [stR_er he]; exact Nat.zero_le _
  · rw [stR_ok he]
    rw [he] at h1
    by_cases hlt : l.length < n
    · rw [if_pos hlt]; exact Nat.zero_le _
    · rw [if_neg hlt]
      have : l.length ≤ 1073742900 := h1
      show (l.take n).length ≤ _
      rw [List.length_take]; omega
end Go.Proofs.YtcmjbjlliehdiaaDoor
/- The reference's reader: Uint. -/
namespace Go.Proofs.YtcmjbjlliehdiaaDoor
open Go.RowKit PA
theorem isRd_read {W w : World} {A : Assn} {T p : Nat} {l : List UInt8} (h : Sat W w (sep (isRd T p (.ok l)) A)) : ∃ a c, w.cell? ⟨p, 0, none⟩ = some (.slice a l.length c) ∧ Swf a l.length c ∧ (∀ j (hj : j < l.length), ∃ b o, a = some ⟨b, o, none⟩ ∧ w.cell? ⟨b, o + j, none⟩ = some (.int .u8 (l[j].toNat : Nat))) ∧
    (∀ j, j ≤ l.length → ∀ b o, a = some ⟨b, o, none⟩ → Sat W (w.setCell ⟨p, 0, none⟩ (.slice (if c = j then some ⟨b, o, none⟩ else some ⟨b, o + j, none⟩) (l.length - j) (c - j))) (sep (isRd T p (.ok (l.drop j))) A)) ∧
    (∀ e : Int, 0 < e → Sat W (w.setCell ⟨p, 1, none⟩ (.int .i64 e)) (sep (isRd T p (.error e)) A)) ∧ w.frozen? ⟨p, 0, none⟩ = false ∧ w.frozen? ⟨p, 1, none⟩ = false := by
  obtain ⟨a, c, hw, h1⟩ := isRd_ok h
  obtain ⟨-, -, -, hc⟩ := h1.p1.bytes_src
  refine ⟨a, c, h1.cell 0, hw, hc, fun j hj b o e => ?_, fun e he => ?_, h1.unfrozen 0, h1.unfrozen 1⟩
  · subst e
    have h2 : ∀ v, Sat W (w.setCell ⟨p, 0, none⟩ v) (sep (blk p (.cells #[v, .int .i64 0] T (0, 0))) (sep (rBytes.is [.slice (some ⟨b, o, none⟩) l.length c] l) A)) := fun v => h1.setCell 0 v
    exact isRd_okmk (by simp) ((h2 _).p1.bytes_drop j rfl hj).p1
  · have h2 : Sat W (w.setCell ⟨p, 1, none⟩ (.int .i64 e)) (sep (blk p (.cells #[.slice a l.length c, .int .i64 e] T (0, 0))) (sep (rBytes.is [.slice a l.length c] l) A)) := h1.setCell 1 _
    exact isRd_ermk he h2.p1.tail
end Go.Proofs.YtcmjbjlliehdiaaDoor
/- The reference's reader: length, Raw, Int. -/
namespace Go.Proofs.YtcmjbjlliehdiaaDoor
open Go.RowKit PA
/-- 's[:k]' of bytes that are known. -/
theorem _root_.PA.Sat.bytes_take {W w : World} {A : Assn} {a : Option Addr} {n c : Nat} {l : List UInt8} (k : Nat) (hn : n = l.length) (hk : k ≤ n) (h : Sat W w (sep (rBytes.is [.slice a n c] l) A)) :
    Sat W w (sep (rBytes.is [.slice a k c] (l.take k)) A) := by
  subst hn
  refine h.wk ?_
  rintro I m ⟨x, y, h5, h6, ⟨h7, hr⟩, h9⟩
  refine ⟨x, y, h5, h6, ⟨h7, ?_⟩, h9⟩
  obtain ⟨a', c', e, hw, hc⟩ := bytes_rel.1 hr
  cases e
  have hl : (l.take k).length = k := by simp; omega
  refine bytes_rel.2 ⟨a, c, by rw [hl], ⟨by rw [hl]; have := hw.1; omega, hw.2.1, hw.2.2⟩, ?_⟩
  rcases hc with hc | ⟨b', o', cs, t, f, e1, e2, e3⟩
  · left
    have : l = [] := by simpa using hc
    rw [this]; simp
  · right
    refine ⟨b', o', cs, t, f, e1, e2, fun i u hu => e3 i u ?_⟩
    rw [List.map_take, List.getElem?_take] at hu
    split at hu
    · exact hu
    · cases hu
theorem rd_split {W w : World} {A : Assn} {T p b o n m c : Nat} {l : List UInt8} (hm : m = l.length) (hn : n ≤ m)
    (h : Sat W w (sep (blk p (.cells #[.slice (if c = n then some ⟨b, o, none⟩ else some ⟨b, o + n, none⟩) (m - n) (c - n), .int .i64 0] T (0, 0))) (sep (rBytes.is [.slice (some ⟨b, o, none⟩) m c] l) A))) :
    Sat W w (sep (rBytes.is [.slice (some ⟨b, o, none⟩) n c] (l.take n)) (sep (isRd T p (.ok (l.drop n))) A)) := by
  have h1 : Sat W w (sep (rBytes.is [.slice (some ⟨b, o, none⟩) m c] l) (sep (rBytes.is [.slice (some ⟨b, o, none⟩) m c] l) _)) := h.p1.dup
  have h2 := h1.bytes_take n hm hn
  have h3 := h2.p1.bytes_drop n hm hn
  have h4 : Sat W w (sep (blk p (.cells #[.slice (if c = n then some ⟨b, o, none⟩ else some ⟨b, o + n, none⟩) (m - n) (c - n), .int .i64 0] T (0, 0))) (sep (rBytes.is [.slice (if c = n then some ⟨b, o, none⟩ else some ⟨b, o + n, none⟩) (m - n) (c - n)] (l.drop n)) (sep (rBytes.is [.slice (some ⟨b, o, none⟩) n c] (l.take n)) A))) := by
    simpa only [sep_comm, sep_lcomm, sep_assoc] using h3
  exact (isRd_okmk (by rw [List.length_drop, hm]) h4).p1
theorem rd_split_nil {W w : World} {A : Assn} {T p : Nat} {a a2 : Option Addr} {c c2 : Nat} (hw : Swf a2 0 c2)
    (h : Sat W w (sep (blk p (.cells #[.slice a2 0 c2, .int .i64 0] T (0, 0))) (sep (rBytes.is [.slice a 0 c] []) A))) :
    Sat W w (sep (rBytes.is [.slice a 0 c] []) (sep (isRd T p (.ok [])) A)) := by
  have h2 := (h.rsl_nil a2).bytes_mk (bs := []) hw
  exact (isRd_okmk (T := T) (p := p) (l := []) rfl (h2.p1)).p1
end Go.Proofs.YtcmjbjlliehdiaaDoor
