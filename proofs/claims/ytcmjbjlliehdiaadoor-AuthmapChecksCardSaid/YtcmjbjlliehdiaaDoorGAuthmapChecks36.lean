/- Package wire: the reader's Raw. -/
import Derived.Test.YtcmjbjlliehdiaaDoorGAuthmapChecks35
import Derived.Deep.DeepCutAuto
import Derived.Test.YtcmjbjlliehdiaaDoorGAuthmapChecks23
import Derived.Test.YtcmjbjlliehdiaaDoorGAuthmapChecks34
namespace Go.Proofs.YtcmjbjlliehdiaaDoor
open Go.RowKit PA
set_option maxHeartbeats 1000000 in
theorem list_short {W w : World} {A : Assn} (p : Nat) (st : RSt) (h : Sat W w (sep (isRd 129 p st) A)) (hl : RSt.small st) (n : Nat) (l : List UInt8) (he : stU st = (n, .ok l)) (hn : l.length < n) (f : Value) :
    Calls Tryd.prog 72 #[.pointer (some ⟨p, 0, none⟩), f] w fun r w' => r = .returned (.slice none 0 0) ∧ Sat W w' (sep (isRd 129 p (.error 3)) A) := by
  have hu := rduint_spec p st h hl
  have hsm := stU_small hl
  rw [he] at hu hsm
  have hll : l.length ≤ 1073742900 := hsm
  have HU := Lib.hid hu
  obtain ⟨m, hm⟩ : ∃ m, m = l.length := ⟨_, rfl⟩
  rw [← hm] at hn hll
  have hwl : IntKind.u64.wrap (m : Int) = (m : Int) := wraps_u64 _ (by omega) (by omega)
  have HM := Lib.hid hm
  have hnI : (m : Int) < n := by omega
  have hn0 : (0 : Int) < (n : Int) := by omega
  clear hu he h hl hm hsm hll hn
  go_enter Tryd.func72, Tryd.ntmps72
  go_wp2_with fail
  refine HU.out.mono ?_
  rintro r w2 ⟨rfl, hS⟩
  have c1 := isRd_cell_ok hS
  obtain ⟨a, k, c, c0, hk⟩ := isRd_slice hS
  have hk2 := (hk l rfl).trans HM.out.symm
  subst hk2
  clear hk
  go_wp2_with fail
  refine (fail_ok p l 3 (by omega) hS).mono ?_
  rintro r w3 ⟨rfl, hS3⟩
  obtain ⟨c3, -⟩ := isRd_cell_er hS3
  clear c1 c0 hS
  go_wp2_with fail
  go_loop [7] (fun iv => iv = .int .u64 0) (fun _ => 0)
  case atStart => exact rfl
  case round =>
    obtain rfl := hrel
    go_wp2_with fail
    go_ret
    exact ⟨rfl, hS3⟩
set_option maxHeartbeats 2000000 in
theorem list_ok {W w : World} {A : Assn} (p : Nat) (st : RSt) (h : Sat W w (sep (isRd 129 p st) A)) (hl : RSt.small st) (n : Nat) (l : List UInt8) (he : stU st = (n, .ok l)) (hn : n ≤ l.length) :
    Calls Tryd.prog 72 #[.pointer (some ⟨p, 0, none⟩), .func (.func 73) #[.pointer (some ⟨p, 0, none⟩)] #[]] w fun r w' => ∃ v, r = .returned v ∧ Sat W w' (sep (rBytes.is [v] (l.take n)) (sep (isRd 129 p (.ok (l.drop n))) A)) := by
  have hu := rduint_spec p st h hl
  have hsm := stU_small hl
  rw [he] at hu hsm
  have hll : l.length ≤ 1073742900 := hsm
  have HU := Lib.hid hu
  have HLL := Lib.hid hll
  have HNL := Lib.hid hn
  obtain ⟨m, hm⟩ : ∃ m, m = l.length := ⟨_, rfl⟩
  rw [← hm] at hn hll
  have hwl : IntKind.u64.wrap (m : Int) = (m : Int) := wraps_u64 _ (by omega) (by omega)
  have HM := Lib.hid hm
  have hnI : ¬ m < n := by omega
  have hnb : (n : Int) ≤ 1073742900 := by omega
  clear hu he h hl hm hsm hll hn
  go_enter Tryd.func72, Tryd.ntmps72
  go_wp2_with fail
  refine HU.out.mono ?_
  rintro r w2 ⟨rfl, hS⟩
  have c1 := isRd_cell_ok hS
  obtain ⟨a, k, c, c0, hk⟩ := isRd_slice hS
  have hk2 := (hk l rfl).trans HM.out.symm
  subst hk2
  clear hk
  go_wp2_with fail
  clear c0 c1 hwl hnI
  go_loopw [6, 7] (fun ov iv wr => ∃ (i : Nat) (a : Option Addr) (c : Nat) (vs : List Value), iv = .int .u64 (i : Nat) ∧ i ≤ n ∧ ov = .slice a i c ∧ Hid (vs = (l.take i).map bv) ∧ Sat W wr (sep (osl 5 1 a i c vs) (sep (isRd 129 p (.ok (l.drop i))) A))) (fun _ iv _ => n - (intOf iv).toNat)
  case atStart => exact ⟨0, none, 0, [], rfl, Nat.zero_le _, rfl, Lib.hid rfl, hS.osl_nil _ _⟩
  case round =>
    clear hS
    obtain ⟨i, a, c, vs, rfl, hi, rfl, HV, hS⟩ := hrel
    by_cases hin : i < n
    · have hil : i < l.length := by have := HNL.out; omega
      obtain ⟨x, hx⟩ : ∃ x, x = l[i] := ⟨_, rfl⟩
      have hd : l.drop i = x :: l.drop (i + 1) := by rw [hx]; exact List.drop_eq_getElem_cons hil
      have c1 := isRd_cell_ok hS.p1
      have hS2 := hS.p1
      rw [hd] at hS2
      have hnx := Lib.hid (next_ok p x _ hS2 (by rw [List.length_drop]; have := HLL.out; omega))
      have hinI : (i : Int) < n := by omega
      have HX := Lib.hid hx
      have HI := Lib.hid hi
      have HIL := Lib.hid hil
      clear hx hd hS hS2 hi
      go_wp2_with fail
      refine hnx.out.mono ?_
      rintro r w3 ⟨rfl, hS3⟩
      have hB := (hS3.p1.alloc0 (.cells #[.int .u8 (x.toNat : Nat)] 5))
      clear hS3 c1 hnx
      go_wp2_with (at_builtin; (refine wpl_append_osl rfl (.tmp 32) (.tmp 35) 32 rfl 5 1 1 (.int .u8 0) Tryd.underlying32 infoU8w rfl rfl hB rfl [.int .u8 (x.toNat : Nat)] rfl (by simp) (by intro b hb; cases hb; exact new_src _ [_] _) (by simp [Value.oneCell']) (by omega) (by unfold maxLen; omega) ?_))
      intro a2 c2 w4 h4
      clear hB
      go_wp2_with fail
      go_roundw
      case rel =>
        refine ⟨i + 1, a2, c2, _, by go_num, by omega, rfl, Lib.hid ?_, h4⟩
        rw [HV.out, List.take_succ_eq_append_getElem HIL.out, List.map_append, List.map_cons, List.map_nil, bv, ← HX.out]
      case measure => simp [intOf]; omega
    · obtain rfl : i = n := by omega
      have hinI : ¬ (i : Int) < (i : Int) := by omega
      have c1 := isRd_cell_ok hS.p1
      go_wp2_with fail
      go_ret
      rw [HV.out] at hS
      exact ⟨_, rfl, hS.bytes_of_osl.2⟩
theorem stR_er {st : RSt} {e : Int} (h : stU st = (0, .error e)) : stR st = ([], .error e) := by
  cases st with
  | error e' => have := congrArg Prod.snd h; simp [stU] at this; subst this; rfl
  | ok l =>
    unfold stU at h; dsimp only at h
    unfold stR rawP; dsimp only
    cases hu : uintP l with
    | error e' => rw [hu] at h; simp at h; subst h; rfl
    | ok x => rw [hu] at h; simp at h
theorem stR_ok {st : RSt} {n : Nat} {l : List UInt8} (h : stU st = (n, .ok l)) : stR st = if l.length < n then ([], .error 3) else (l.take n, .ok (l.drop n)) := by
  cases st with
  | error e' => simp [stU] at h
  | ok l' =>
    unfold stU at h; dsimp only at h
    unfold stR rawP; dsimp only
    cases hu : uintP l' with
    | error e' => rw [hu] at h; simp at h
    | ok x =>
      obtain ⟨n', l2⟩ := x
      rw [hu] at h; simp at h
      obtain ⟨rfl, rfl⟩ := h
      dsimp only
      by_cases hlt : l2.length < n'
      · rw [if_pos hlt, if_pos hlt]
      · rw [if_neg hlt, if_neg hlt]
theorem stU_cases (st : RSt) : (∃ e, stU st = (0, .error e)) ∨ ∃ n l, stU st = (n, .ok l) := by
  cases st with
  | error e => exact .inl ⟨e, rfl⟩
  | ok l =>
    unfold stU; dsimp only
    cases uintP l with
    | error e => exact .inl ⟨e, rfl⟩
    | ok x => exact .inr ⟨_, _, rfl⟩
theorem list_spec {W w : World} {A : Assn} (p : Nat) (st : RSt) (h : Sat W w (sep (isRd 129 p st) A)) (hl : RSt.small st) :
    Calls Tryd.prog 72 #[.pointer (some ⟨p, 0, none⟩), .func (.func 73) #[.pointer (some ⟨p, 0, none⟩)] #[]] w fun r w' => ∃ v, r = .returned v ∧ Sat W w' (sep (rBytes.is [v] (stR st).1) (sep (isRd 129 p (stR st).2) A)) := by
  rcases stU_cases st with ⟨e, he⟩ | ⟨n, l, he⟩
  · rw [stR_er he]
    exact (list_er p st h hl e he _).mono fun r w' ⟨h1, h2⟩ => ⟨_, h1, h2.bytes_nil⟩
  · rw [stR_ok he]
    by_cases hlt : l.length < n
    · rw [if_pos hlt]
      exact (list_short p st h hl n l he hlt _).mono fun r w' ⟨h1, h2⟩ => ⟨_, h1, h2.bytes_nil⟩
    · rw [if_neg hlt]
      exact list_ok p st h hl n l he (by omega)
theorem rdraw_spec {W w : World} {A : Assn} (p : Nat) (st : RSt) (h : Sat W w (sep (isRd 129 p st) A)) (hl : RSt.small st) :
    Calls Tryd.prog 36 #[.pointer (some ⟨p, 0, none⟩)] w fun r w' => ∃ v, r = .returned v ∧ Sat W w' (sep (rBytes.is [v] (stR st).1) (sep (isRd 129 p (stR st).2) A)) := by
  have HU := Lib.hid (list_spec p st h hl)
  clear h hl
  go_enter Tryd.func36, Tryd.ntmps36
  go_wp2_with fail
  refine HU.out.mono ?_
  rintro r w2 ⟨v, rfl, hS⟩
  go_wp2_with fail
  go_ret
  exact ⟨v, rfl, hS⟩
theorem stR_small {st : RSt} (h : RSt.small st) : RSt.small (stR st).2 := by
  have h1 := stU_small h
  rcases stU_cases st with ⟨e, he⟩ | ⟨n, l, he⟩
  · rw [stR_er he]; trivial
  · rw [stR_ok he]
    rw [he] at h1
    by_cases hlt : l.length < n
    · rw [if_pos hlt]; trivial
    · rw [if_neg hlt]
      have : l.length ≤ 1073742900 := h1
      show (l.drop n).length ≤ _
      rw [List.length_drop]; omega
theorem stR_len {st : RSt} (h : RSt.small st) : (stR st).1.length ≤ 1073742900 := by
  have h1 := stU_small h
  rcases stU_cases st with ⟨e, he⟩ | ⟨n, l, he⟩
  · rw [stR_er he]; exact Nat.zero_le _
  · rw [stR_ok he]
    rw [he] at h1
    by_cases hlt : l.length < n
    · rw [if_pos hlt]; exact Nat.zero_le _
    · rw [if_neg hlt]
      have : l.length ≤ 1073742900 := h1
      show (l.take n).length ≤ _
      rw [List.length_take]; omega
end Go.Proofs.YtcmjbjlliehdiaaDoor
/- The reference's reader: Uint. -/
namespace Go.Proofs.YtcmjbjlliehdiaaDoor
open Go.RowKit PA
theorem isRd_read {W w : World} {A : Assn} {T p : Nat} {l : List UInt8} (h : Sat W w (sep (isRd T p (.ok l)) A)) : ∃ a c, w.cell? ⟨p, 0, none⟩ = some (.slice a l.length c) ∧ Swf a l.length c ∧ (∀ j (hj : j < l.length), ∃ b o, a = some ⟨b, o, none⟩ ∧ w.cell? ⟨b, o + j, none⟩ = some (.int .u8 (l[j].toNat : Nat))) ∧
    (∀ j, j ≤ l.length → ∀ b o, a = some ⟨b, o, none⟩ → Sat W (w.setCell ⟨p, 0, none⟩ (.slice (if c = j then some ⟨b, o, none⟩ else some ⟨b, o + j, none⟩) (l.length - j) (c - j))) (sep (isRd T p (.ok (l.drop j))) A)) ∧
    (∀ e : Int, 0 < e → Sat W (w.setCell ⟨p, 1, none⟩ (.int .i64 e)) (sep (isRd T p (.error e)) A)) ∧ w.frozen? ⟨p, 0, none⟩ = false ∧ w.frozen? ⟨p, 1, none⟩ = false := by
  obtain ⟨a, c, hw, h1⟩ := isRd_ok h
  obtain ⟨-, -, -, hc⟩ := h1.p1.bytes_src
  refine ⟨a, c, h1.cell 0, hw, hc, fun j hj b o e => ?_, fun e he => ?_, h1.unfrozen 0, h1.unfrozen 1⟩
  · subst e
    have h2 : ∀ v, Sat W (w.setCell ⟨p, 0, none⟩ v) (sep (blk p (.cells #[v, .int .i64 0] T (0, 0))) (sep (rBytes.is [.slice (some ⟨b, o, none⟩) l.length c] l) A)) := fun v => h1.setCell 0 v
    exact isRd_okmk (by simp) ((h2 _).p1.bytes_drop j rfl hj).p1
  · have h2 : Sat W (w.setCell ⟨p, 1, none⟩ (.int .i64 e)) (sep (blk p (.cells #[.slice a l.length c, .int .i64 e] T (0, 0))) (sep (rBytes.is [.slice a l.length c] l) A)) := h1.setCell 1 _
    exact isRd_ermk he h2.p1.tail
end Go.Proofs.YtcmjbjlliehdiaaDoor
/- The reference's reader: length, Raw, Int. -/
namespace Go.Proofs.YtcmjbjlliehdiaaDoor
open Go.RowKit PA
/-- 's[:k]' of bytes that are known. -/
theorem _root_.PA.Sat.bytes_take {W w : World} {A : Assn} {a : Option Addr} {n c : Nat} {l : List UInt8} (k : Nat) (hn : n = l.length) (hk : k ≤ n) (h : Sat W w (sep (rBytes.is [.slice a n c] l) A)) :
    Sat W w (sep (rBytes.is [.slice a k c] (l.take k)) A) := by
  subst hn
  refine h.wk ?_
  rintro I m ⟨x, y, h5, h6, ⟨h7, hr⟩, h9⟩
  refine ⟨x, y, h5, h6, ⟨h7, ?_⟩, h9⟩
  obtain ⟨a', c', e, hw, hc⟩ := bytes_rel.1 hr
  cases e
  have hl : (l.take k).length = k := by simp; omega
  refine bytes_rel.2 ⟨a, c, by rw [hl], ⟨by rw [hl]; have := hw.1; omega, hw.2.1, hw.2.2⟩, ?_⟩
  rcases hc with hc | ⟨b', o', cs, t, f, e1, e2, e3⟩
  · left
    have : l = [] := by simpa using hc
    rw [this]; simp
  · right
    refine ⟨b', o', cs, t, f, e1, e2, fun i u hu => e3 i u ?_⟩
    rw [List.map_take, List.getElem?_take] at hu
    split at hu
    · exact hu
    · cases hu
theorem rd_split {W w : World} {A : Assn} {T p b o n m c : Nat} {l : List UInt8} (hm : m = l.length) (hn : n ≤ m)
    (h : Sat W w (sep (blk p (.cells #[.slice (if c = n then some ⟨b, o, none⟩ else some ⟨b, o + n, none⟩) (m - n) (c - n), .int .i64 0] T (0, 0))) (sep (rBytes.is [.slice (some ⟨b, o, none⟩) m c] l) A))) :
    Sat W w (sep (rBytes.is [.slice (some ⟨b, o, none⟩) n c] (l.take n)) (sep (isRd T p (.ok (l.drop n))) A)) := by
  have h1 : Sat W w (sep (rBytes.is [.slice (some ⟨b, o, none⟩) m c] l) (sep (rBytes.is [.slice (some ⟨b, o, none⟩) m c] l) _)) := h.p1.dup
  have h2 := h1.bytes_take n hm hn
  have h3 := h2.p1.bytes_drop n hm hn
  have h4 : Sat W w (sep (blk p (.cells #[.slice (if c = n then some ⟨b, o, none⟩ else some ⟨b, o + n, none⟩) (m - n) (c - n), .int .i64 0] T (0, 0))) (sep (rBytes.is [.slice (if c = n then some ⟨b, o, none⟩ else some ⟨b, o + n, none⟩) (m - n) (c - n)] (l.drop n)) (sep (rBytes.is [.slice (some ⟨b, o, none⟩) n c] (l.take n)) A))) := by
    simpa only [sep_comm, sep_lcomm, sep_assoc] using h3
  exact (isRd_okmk (by rw [List.length_drop, hm]) h4).p1
theorem rd_split_nil {W w : World} {A : Assn} {T p : Nat} {a a2 : Option Addr} {c c2 : Nat} (hw : Swf a2 0 c2)
    (h : Sat W w (sep (blk p (.cells #[.slice a2 0 c2, .int .i64 0] T (0, 0))) (sep (rBytes.is [.slice a 0 c] []) A))) :
    Sat W w (sep (rBytes.is [.slice a 0 c] []) (sep (isRd T p (.ok [])) A)) := by
  have h2 := (h.rsl_nil a2).bytes_mk (bs := []) hw
  exact (isRd_okmk (T := T) (p := p) (l := []) rfl (h2.p1)).p1
end Go.Proofs.YtcmjbjlliehdiaaDoor
/- authmap.Encode. -/
namespace PA
open Go
def uvsE (hs : List Nat) : List UInt8 := hs.flatMap Lib.uvarint
def hvsE (hs : List Nat) : List UInt8 := PA.encI hs.length ++ uvsE hs
theorem uvsE_snoc (hs : List Nat) (h : Nat) : uvsE (hs ++ [h]) = uvsE hs ++ Lib.uvarint h := by unfold uvsE; rw [List.flatMap_append]; simp
theorem uvsE_len : ∀ (hs : List Nat), (∀ h ∈ hs, h < 18446744073709551616) → (uvsE hs).length ≤ 10 * hs.length
  | [], _ => by simp [uvsE]
  | h :: hs, hb => by
    have ih := uvsE_len hs fun x hx => hb x (by simp [hx])
    have h1 := Lib.uvarint_length64 (hb h (by simp))
    unfold uvsE at ih ⊢
    rw [List.flatMap_cons, List.length_append, List.length_cons]
    omega
theorem hvsE_len (hs : List Nat) (hl : hs.length ≤ 1000000) (hb : ∀ h ∈ hs, h < 18446744073709551616) : (hvsE hs).length ≤ 10 + 10 * hs.length := by
  have h1 := uvsE_len hs hb
  have h2 := encI_length (hs.length : Int) (by omega) (by omega)
  unfold hvsE
  rw [List.length_append]
  omega
end PA
namespace Go.Proofs.YtcmjbjlliehdiaaDoor
open Go.RowKit PA
attribute [local go_sem] Oper.semAt_some
/-- The encoding of a proof. -/
def encP (p : Prf) : List UInt8 := encR p.s ++ hvsE p.l ++ hvsE p.r
structure PrfOK (p : Prf) : Prop where
  l : p.l.length ≤ 1000000
  r : p.r.length ≤ 1000000
  s : p.s.length ≤ 1000000
  bl : ∀ h ∈ p.l, h < 18446744073709551616
  br : ∀ h ∈ p.r, h < 18446744073709551616
theorem newWrQ {W w : World} {A : Assn} (h : Sat W w A) : Sat W (w.alloc (.cells #[.slice none 0 0] 120)) (sep (isWr w.heap.size []) A) :=
  isWr_mk (a := none) (n := 0) (c := 0) (bs := []) ((h.osl_nil 5 1).alloc (.cells #[.slice none 0 0] 120))
theorem hs_ext {I : Mem} {a : Option Addr} {n c : Nat} {ns : List Nat} (h : rHs.rel I [.slice a n c] ns) (hne : ns ≠ []) :
    ∃ b o, a = some ⟨b, o, none⟩ ∧ ∀ w, Ext I w → ∀ (k : Nat) (hk : k < ns.length), w.cell? ⟨b, o + k, none⟩ = some (.int .u64 ((ns[k] : Nat) : Int)) := by
  obtain ⟨a', c', e, -, hc⟩ := hs_rel.1 h
  simp only [Value.slice.injEq] at e
  obtain ⟨rfl, -, rfl⟩ := e
  obtain ⟨b, o, e, h2⟩ := cells_ext hc (fun e => hne (by simpa using e))
  exact ⟨b, o, e, fun w he k hk => h2 w he k _ (by rw [List.getElem?_map, List.getElem?_eq_getElem hk]; rfl)⟩
theorem encR_lenQ (b : List UInt8) (h : b.length ≤ 1000000) : (encR b).length ≤ b.length + 10 := by
  have h1 := Lib.uvarint_length64 (x := b.length) (by omega)
  rw [encR, List.length_append]
  omega
/-- One list of hashes is written. -/
def WroteA (W : World) (y : Nat) (bs : List UInt8) (J : Mem) (A : Assn) (w : World) : Prop := Sat W w (sep (isWr y bs) (sep (kn J) A))
set_option maxRecDepth 100000 in
set_option maxHeartbeats 8000000 in
theorem aencode_spec {W w : World} {A : Assn} {I : Mem} (v : Value) (p : Prf) (h : Sat W w (sep (kn I) A)) (hv : prfR I v p) (hp : PrfOK p) :
    Calls Tryd.prog 30 #[v] w fun e w' => ∃ a c, e = .returned (.slice a (encP p).length c) ∧ Sat W w' (sep (osl 5 1 a (encP p).length c ((encP p).map bv)) (sep (kn I) A)) := by
  obtain ⟨v1, v2, v3, rfl, r1, r2, r3⟩ := hv
  obtain ⟨la, lc, rfl, hw1, -⟩ := hs_rel.1 r1
  obtain ⟨ra, rc, rfl, hw2, -⟩ := hs_rel.1 r2
  obtain ⟨sa, sc, rfl, -⟩ := bytes_rel.1 r3
  obtain ⟨nl, hnl⟩ : ∃ z, z = p.l.length := ⟨_, rfl⟩
  obtain ⟨nr, hnr⟩ : ∃ z, z = p.r.length := ⟨_, rfl⟩
  obtain ⟨ns, hns⟩ : ∃ z, z = p.s.length := ⟨_, rfl⟩
  rw [← hnl] at r1 hw1 ⊢
  rw [← hnr] at r2 hw2 ⊢
  rw [← hns] at r3 ⊢
  have hnl6 : nl ≤ 1000000 := by rw [hnl]; exact hp.l
  have hnr6 : nr ≤ 1000000 := by rw [hnr]; exact hp.r
  have hns6 : ns ≤ 1000000 := by rw [hns]; exact hp.s
  obtain ⟨x, hx⟩ : ∃ x, x = w.heap.size := ⟨_, rfl⟩
  have h1 := newWrQ (h.alloc (.cells #[.slice la nl lc, .slice ra nr rc, .slice sa ns sc] 40))
  rw [World.size_alloc, ← hx] at h1
  obtain ⟨w1, hw1'⟩ : ∃ w1, w1 = (w.alloc (.cells #[.slice la nl lc, .slice ra nr rc, .slice sa ns sc] 40)).alloc (.cells #[.slice none 0 0] 120) := ⟨_, rfl⟩
  rw [← hw1'] at h1
  obtain ⟨J, hJ, hbx, h2⟩ := (show Sat W w1 (sep (imm x (.cells #[.slice la nl lc, .slice ra nr rc, .slice sa ns sc] 40 (0, 0))) (sep (kn I) (sep (isWr (x + 1) []) A))) from by
    have := (show Sat W w1 (sep (blk x (.cells #[.slice la nl lc, .slice ra nr rc, .slice sa ns sc] 40 (0, 0))) (sep (kn I) (sep (isWr (x + 1) []) A))) by simpa only [sep_comm, sep_lcomm, sep_assoc] using h1).settle
    exact this).learn
  have hcx : ∀ w', Ext J w' → w'.cell? ⟨x, 0, none⟩ = some (.slice la nl lc) ∧ w'.cell? ⟨x, 1, none⟩ = some (.slice ra nr rc) ∧ w'.cell? ⟨x, 2, none⟩ = some (.slice sa ns sc) := fun w' he =>
    ⟨cell_of_row w' x 0 _ _ _ (he _ _ hbx), cell_of_row w' x 1 _ _ _ (he _ _ hbx), cell_of_row w' x 2 _ _ _ (he _ _ hbx)⟩
  have c2 := (hcx w1 h2.ext).2.2
  have HR := Lib.hid (wraw_spec (x + 1) [] (.slice sa ns sc) p.s (show Sat W w1 (sep (isWr (x + 1) []) (sep (kn J) A)) by simpa only [sep_comm, sep_lcomm, sep_assoc] using h2) (rBytes.mono hJ r3) (by simp) (by rw [← hns]; omega))
  have HX := Lib.hid (And.intro hx hw1')
  have HN := Lib.hid (And.intro hnl (And.intro hnr hns))
  have HP := Lib.hid (And.intro hp (And.intro hJ (And.intro (rHs.mono hJ r1) (rHs.mono hJ r2))))
  have HCX := Lib.hid hcx
  have HSL := Lib.hid (encR_lenQ p.s hp.s)
  clear h h1 h2 r1 r2 r3 hx hw1' hnl hnr hns hp hJ hbx hcx hw1 hw2
  go_enter Tryd.func30, Tryd.ntmps30
  go_upto_region 2 with (fail)
  rw [← HX.out.2, ← HX.out.1]
  go_wp2_with fail
  refine HR.out.mono ?_
  rintro e w2 ⟨rfl, h3⟩
  rw [List.nil_append] at h3
  obtain ⟨d0, d1, -⟩ := HCX.out w2 h3.p1.ext
  have h4 := h3.alloc (.cells #[.slice la nl lc, .slice ra nr rc] 38)
  obtain ⟨g, hg⟩ : ∃ g, g = w2.heap.size := ⟨_, rfl⟩
  obtain ⟨w3, hw3⟩ : ∃ w3, w3 = w2.alloc (.cells #[.slice la nl lc, .slice ra nr rc] 38) := ⟨_, rfl⟩
  rw [← hg, ← hw3] at h4
  have HG := Lib.hid (And.intro hg hw3)
  have H4 := Lib.hid h4
  obtain ⟨Wj, hWj⟩ : ∃ Wj : Nat → List UInt8, Wj = fun j => if j = 0 then encR p.s else if j = 1 then encR p.s ++ hvsE p.l else encR p.s ++ hvsE p.l ++ hvsE p.r := ⟨_, rfl⟩
  have HWJ := Lib.hid hWj
  clear HR h3 h4 hg hw3 c2 hWj
  go_upto_block 0 with (fail)
  rw [← HG.out.1, ← HG.out.2]
  clear d0 d1
  go_wp2_with fail
  go_loopw [17] (fun iv wr => ∃ j : Nat, j ≤ 2 ∧ iv = .int .i64 (j : Nat) ∧ Hid (Sat W wr (sep (blk g (.cells #[.slice la nl lc, .slice ra nr rc] 38 (0, 0))) (sep (isWr (x + 1) (Wj j)) (sep (kn J) A))))) (fun iv _ => 2 - (intOf iv).toNat)
  case atStart => exact ⟨0, by omega, rfl, Lib.hid (by rw [HWJ.out]; exact H4.out)⟩
  case round =>
    clear H4
    obtain ⟨j, hj, rfl, HS⟩ := hrel
    have k0 : wr.cell? ⟨g, 0, none⟩ = some (.slice la nl lc) := HS.out.cell 0
    have k1 : wr.cell? ⟨g, 1, none⟩ = some (.slice ra nr rc) := HS.out.cell 1
    obtain rfl | rfl | rfl : j = 0 ∨ j = 1 ∨ j = 2 := by omega
    · obtain ⟨L, hL⟩ : ∃ L, L = p.l := ⟨_, rfl⟩
      have hLn : nl = L.length := by rw [hL]; exact HN.out.1
      have hLb : ∀ h ∈ L, h < 18446744073709551616 := by rw [hL]; exact HP.out.1.bl
      have hrel : rHs.rel J [.slice la nl lc] L := by rw [hL]; exact HP.out.2.2.1
      obtain ⟨B0, hB0⟩ : ∃ B0, B0 = Wj 0 := ⟨_, rfl⟩
      have hB0l : B0.length ≤ 20000100 := by
        have h1 := hvsE_len p.l HP.out.1.l HP.out.1.bl
        have h3 := HSL.out
        have h4 := HN.out
        rw [hB0, HWJ.out]
        show (encR p.s).length ≤ _
        omega
      have hstep : Wj (0 + 1) = B0 ++ hvsE L := by rw [hB0, HWJ.out, hL]; rfl
      rw [← hB0] at HS
      have hIl := encI_length (nl : Int) (by omega) (by omega)
      have HWI := Lib.hid (wint_spec (x + 1) B0 (nl : Int) (by omega) (by omega) HS.out.p1 (by omega))
      have HL := Lib.hid (And.intro hLn (And.intro hLb (And.intro hrel hstep)))
      have HIl := Lib.hid hIl
      have HB0l := Lib.hid hB0l
      clear hL hLn hLb hrel hB0 hB0l hstep hIl
      go_wp2_with fail
      refine HWI.out.mono ?_
      rintro e w4 ⟨rfl, h5⟩
      have H5 : Hid (Sat W w4 (sep (isWr (x + 1) (B0 ++ PA.encI (nl : Int) ++ uvsE (L.take 0))) (sep (kn J) (sep (blk g (.cells #[.slice la nl lc, .slice ra nr rc] 38 (0, 0))) A)))) := Lib.hid (by
        rw [List.take_zero, show uvsE [] = [] from rfl, List.append_nil]
        simpa only [sep_comm, sep_lcomm, sep_assoc] using h5)
      clear HWI h5 k0 k1 HS
      go_wp2_with fail
      go_loopw [26] (fun kv wr => ∃ k : Nat, k ≤ nl ∧ kv = .int .i64 (k : Nat) ∧ Hid (Sat W wr (sep (isWr (x + 1) (B0 ++ PA.encI (nl : Int) ++ uvsE (L.take k))) (sep (kn J) (sep (blk g (.cells #[.slice la nl lc, .slice ra nr rc] 38 (0, 0))) A))))) (fun kv _ => nl - (intOf kv).toNat)
      case atStart => exact ⟨0, Nat.zero_le _, rfl, H5⟩
      case round =>
        clear H5
        obtain ⟨k, hk, rfl, HS⟩ := hrel
        by_cases hlt : k < nl
        · have g1 : (k : Int) < (nl : Int) := by omega
          have hkL : k < L.length := by rw [← HL.out.1]; exact hlt
          obtain ⟨gb, go, rfl, hc⟩ := hs_ext HL.out.2.2.1 (fun e => by rw [e] at hkL; simp at hkL)
          have k2 := hc wr HS.out.p1.ext k hkL
          have htk : L.take (k + 1) = L.take k ++ [L[k]] := List.take_succ_eq_append_getElem hkL
          have hlt64 := HL.out.2.1 _ (List.getElem_mem hkL)
          obtain ⟨hh, hhh⟩ : ∃ z, z = L[k] := ⟨_, rfl⟩
          rw [← hhh] at k2 htk hlt64
          have hul := uvsE_len (L.take k) (fun h hh => HL.out.2.1 h (List.mem_of_mem_take hh))
          rw [List.length_take] at hul
          have HU := Lib.hid (wuint_spec (x + 1) _ hh hlt64 HS.out (by rw [List.length_append, List.length_append]; have := HIl.out; have := HB0l.out; omega))
          have HT := Lib.hid htk
          clear hc htk hlt64 hhh hul hkL HS
          go_wp2_with fail
          refine HU.out.mono ?_
          rintro e w5 ⟨rfl, h6⟩
          have H6 : Hid (Sat W w5 (sep (isWr (x + 1) (B0 ++ PA.encI (nl : Int) ++ uvsE (L.take (k + 1)))) (sep (kn J) (sep (blk g (.cells #[.slice (some ⟨gb, go, none⟩) nl lc, .slice ra nr rc] 38 (0, 0))) A)))) := Lib.hid (by
            rw [HT.out, uvsE_snoc, ← List.append_assoc]
            exact h6)
          clear HU h6 k2
          go_wp2_with fail
          go_roundw
          case rel => exact ⟨k + 1, by omega, by go_num, H6⟩
          case measure => simp only [intOf]; omega
        · have g1 : ¬ (k : Int) < (nl : Int) := by omega
          have htk : L.take k = L := List.take_of_length_le (by rw [← HL.out.1]; omega)
          have H6 : Hid (Sat W wr (sep (blk g (.cells #[.slice la nl lc, .slice ra nr rc] 38 (0, 0))) (sep (isWr (x + 1) (Wj (0 + 1))) (sep (kn J) A)))) := Lib.hid (by
            rw [HL.out.2.2.2, hvsE, ← HL.out.1, ← List.append_assoc]
            have := HS.out
            rw [htk] at this
            simpa only [sep_comm, sep_lcomm, sep_assoc] using this)
          clear htk HS
          go_wp2_with fail
          go_roundw
          case rel => exact ⟨0 + 1, by omega, by rfl, H6⟩
          case measure => simp [intOf]
    · obtain ⟨L, hL⟩ : ∃ L, L = p.r := ⟨_, rfl⟩
      have hLn : nr = L.length := by rw [hL]; exact HN.out.2.1
      have hLb : ∀ h ∈ L, h < 18446744073709551616 := by rw [hL]; exact HP.out.1.br
      have hrel : rHs.rel J [.slice ra nr rc] L := by rw [hL]; exact HP.out.2.2.2
      obtain ⟨B0, hB0⟩ : ∃ B0, B0 = Wj 1 := ⟨_, rfl⟩
      have hB0l : B0.length ≤ 20000100 := by
        have h1 := hvsE_len p.l HP.out.1.l HP.out.1.bl
        have h3 := HSL.out
        have h4 := HN.out
        rw [hB0, HWJ.out]
        show (encR p.s ++ hvsE p.l).length ≤ _
        rw [List.length_append]
        omega
      have hstep : Wj (1 + 1) = B0 ++ hvsE L := by rw [hB0, HWJ.out, hL]; rfl
      rw [← hB0] at HS
      have hIl := encI_length (nr : Int) (by omega) (by omega)
      have HWI := Lib.hid (wint_spec (x + 1) B0 (nr : Int) (by omega) (by omega) HS.out.p1 (by omega))
      have HL := Lib.hid (And.intro hLn (And.intro hLb (And.intro hrel hstep)))
      have HIl := Lib.hid hIl
      have HB0l := Lib.hid hB0l
      clear hL hLn hLb hrel hB0 hB0l hstep hIl
      go_wp2_with fail
      refine HWI.out.mono ?_
      rintro e w4 ⟨rfl, h5⟩
      have H5 : Hid (Sat W w4 (sep (isWr (x + 1) (B0 ++ PA.encI (nr : Int) ++ uvsE (L.take 0))) (sep (kn J) (sep (blk g (.cells #[.slice la nl lc, .slice ra nr rc] 38 (0, 0))) A)))) := Lib.hid (by
        rw [List.take_zero, show uvsE [] = [] from rfl, List.append_nil]
        simpa only [sep_comm, sep_lcomm, sep_assoc] using h5)
      clear HWI h5 k0 k1 HS
      go_wp2_with fail
      go_loopw [26] (fun kv wr => ∃ k : Nat, k ≤ nr ∧ kv = .int .i64 (k : Nat) ∧ Hid (Sat W wr (sep (isWr (x + 1) (B0 ++ PA.encI (nr : Int) ++ uvsE (L.take k))) (sep (kn J) (sep (blk g (.cells #[.slice la nl lc, .slice ra nr rc] 38 (0, 0))) A))))) (fun kv _ => nr - (intOf kv).toNat)
      case atStart => exact ⟨0, Nat.zero_le _, rfl, H5⟩
      case round =>
        clear H5
        obtain ⟨k, hk, rfl, HS⟩ := hrel
        by_cases hlt : k < nr
        · have g1 : (k : Int) < (nr : Int) := by omega
          have hkL : k < L.length := by rw [← HL.out.1]; exact hlt
          obtain ⟨gb, go, rfl, hc⟩ := hs_ext HL.out.2.2.1 (fun e => by rw [e] at hkL; simp at hkL)
          have k2 := hc wr HS.out.p1.ext k hkL
          have htk : L.take (k + 1) = L.take k ++ [L[k]] := List.take_succ_eq_append_getElem hkL
          have hlt64 := HL.out.2.1 _ (List.getElem_mem hkL)
          obtain ⟨hh, hhh⟩ : ∃ z, z = L[k] := ⟨_, rfl⟩
          rw [← hhh] at k2 htk hlt64
          have hul := uvsE_len (L.take k) (fun h hh => HL.out.2.1 h (List.mem_of_mem_take hh))
          rw [List.length_take] at hul
          have HU := Lib.hid (wuint_spec (x + 1) _ hh hlt64 HS.out (by rw [List.length_append, List.length_append]; have := HIl.out; have := HB0l.out; omega))
          have HT := Lib.hid htk
          clear hc htk hlt64 hhh hul hkL HS
          go_wp2_with fail
          refine HU.out.mono ?_
          rintro e w5 ⟨rfl, h6⟩
          have H6 : Hid (Sat W w5 (sep (isWr (x + 1) (B0 ++ PA.encI (nr : Int) ++ uvsE (L.take (k + 1)))) (sep (kn J) (sep (blk g (.cells #[.slice la nl lc, .slice (some ⟨gb, go, none⟩) nr rc] 38 (0, 0))) A)))) := Lib.hid (by
            rw [HT.out, uvsE_snoc, ← List.append_assoc]
            exact h6)
          clear HU h6 k2
          go_wp2_with fail
          go_roundw
          case rel => exact ⟨k + 1, by omega, by go_num, H6⟩
          case measure => simp only [intOf]; omega
        · have g1 : ¬ (k : Int) < (nr : Int) := by omega
          have htk : L.take k = L := List.take_of_length_le (by rw [← HL.out.1]; omega)
          have H6 : Hid (Sat W wr (sep (blk g (.cells #[.slice la nl lc, .slice ra nr rc] 38 (0, 0))) (sep (isWr (x + 1) (Wj (1 + 1))) (sep (kn J) A)))) := Lib.hid (by
            rw [HL.out.2.2.2, hvsE, ← HL.out.1, ← List.append_assoc]
            have := HS.out
            rw [htk] at this
            simpa only [sep_comm, sep_lcomm, sep_assoc] using this)
          clear htk HS
          go_wp2_with fail
          go_roundw
          case rel => exact ⟨1 + 1, by omega, by rfl, H6⟩
          case measure => simp [intOf]
    · have HD := Lib.hid (wdone_spec (x + 1) (Wj 2) HS.out.p1 (by
        have h1 := hvsE_len p.l HP.out.1.l HP.out.1.bl
        have h2 := hvsE_len p.r HP.out.1.r HP.out.1.br
        have h3 := HSL.out
        have h4 := HN.out
        rw [HWJ.out]
        show (encR p.s ++ hvsE p.l ++ hvsE p.r).length ≤ _
        rw [List.length_append, List.length_append]
        omega))
      have hfin : Wj 2 = encP p := by rw [HWJ.out]; rfl
      rw [hfin] at HD
      obtain ⟨el, hel⟩ : ∃ el, el = (encP p).length := ⟨_, rfl⟩
      rw [← hel] at HD
      have HEL := Lib.hid hel
      clear HS k0 k1 hfin hel
      go_wp2_with fail
      refine HD.out.mono ?_
      rintro e w5 ⟨ea, ec, rfl, h5⟩
      go_wp2_with fail
      go_ret
      rw [← HEL.out]
      refine ⟨ea, ec, rfl, ?_⟩
      obtain ⟨wa, wn, wc', -, h6⟩ := isWr_open (show Sat W w5 (sep (isWr (x + 1) (encP p)) (sep (osl 5 1 ea el ec ((encP p).map bv)) (sep (blk g (.cells #[.slice la nl lc, .slice ra nr rc] 38 (0, 0))) (sep (kn J) A)))) by simpa only [sep_comm, sep_lcomm, sep_assoc] using h5)
      have h7 := h6.forget.forget_osl
      have h8 := (show Sat W w5 (sep (blk g (.cells #[.slice la nl lc, .slice ra nr rc] 38 (0, 0))) (sep (kn J) (sep (osl 5 1 ea el ec ((encP p).map bv)) A))) by simpa only [sep_comm, sep_lcomm, sep_assoc] using h7).forget
      have h9 := h8.kn_mono HP.out.2.1
      simpa only [sep_comm, sep_lcomm, sep_assoc] using h9
end Go.Proofs.YtcmjbjlliehdiaaDoor
