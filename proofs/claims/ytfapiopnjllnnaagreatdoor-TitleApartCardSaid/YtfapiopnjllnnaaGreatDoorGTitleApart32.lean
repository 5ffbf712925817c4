/- Package title: Licences (no error), its closure. -/
import Derived.Test.YtfapiopnjllnnaaGreatDoorGTitleApart25
import Derived.Test.YtfapiopnjllnnaaGreatDoorGTitleApart20
import Derived.Test.YtfapiopnjllnnaaGreatDoorGTitleApart27
import Derived.Deep.DeepCutAuto
import Derived.Lib.Varint
import Derived.Lib.Zigzag
import Derived.Lib.EndianBits
import Derived.Laws.Bits64
import Derived.WalkKit
namespace Go.Proofs.YtfapiopnjllnnaaGreatDoor
open Go.RowKit PA
/-- A licence: from, to, first and last day. -/
structure Hl where
  a : Int
  b : Int
  c : Int
  d : Int
  deriving DecidableEq
def hlC (s : List Hl) : List Value := s.flatMap fun h => [.int .i64 h.a, .int .i64 h.b, .int .i64 h.c, .int .i64 h.d]
theorem hlC_len (s : List Hl) : (hlC s).length = s.length * 4 := by
  induction s with
  | nil => rfl
  | cons x xs ih => rw [hlC, List.flatMap_cons, List.length_append, ← hlC, ih, List.length_cons]; simp; omega
theorem hlC_append (s t : List Hl) : hlC (s ++ t) = hlC s ++ hlC t := by simp [hlC]
theorem infoTHeld : (Tryz.prog.info? 68).map (fun i => (i.zero, i.size, i.bytes)) = some (some (.agg #[.int .i64 0, .int .i64 0, .int .i64 0, .int .i64 0]), 4, 32) := by kernel_rfl
/-- The licences that have effect and hold on a day, told one by one. -/
def evL (day : Int) (s : List Hl) (_ : Nat) (x : Ac) (dn : Bool) : List Hl := if x.k = 17 ∧ dn = true ∧ day ≤ x.u then s ++ [⟨x.p, x.q, x.d, x.u⟩] else s
theorem evL_len {day : Int} {s : List Hl} {i : Nat} {x : Ac} {dn : Bool} (h : s.length ≤ i) : (evL day s i x dn).length ≤ i + 1 := by
  unfold evL
  split
  · rw [List.length_append, List.length_singleton]; omega
  · omega
/-- The boxed day and the captured slice of licences. -/
def capH (D V : Nat) (day : Int) (s : List Hl) : Assn := ex fun ac : Option Addr × Nat => sep (blk V (.cells #[.slice ac.1 s.length ac.2] 61 (0, 0))) (sep (osl 68 4 ac.1 s.length ac.2 (hlC s)) (blk D (.cells #[.int .i64 day] 3 (0, 0))))
theorem capH_open {W w : World} {A : Assn} {D V : Nat} {day : Int} {s : List Hl} (h : Sat W w (sep (capH D V day s) A)) : ∃ a c, Sat W w (sep (blk V (.cells #[.slice a s.length c] 61 (0, 0))) (sep (osl 68 4 a s.length c (hlC s)) (sep (blk D (.cells #[.int .i64 day] 3 (0, 0))) A))) := by
  rw [capH, ex_sep, Sat.ex] at h
  obtain ⟨⟨a, c⟩, h⟩ := h
  rw [sep_assoc, sep_assoc] at h
  exact ⟨a, c, h⟩
theorem capH_mk {W w : World} {A : Assn} {D V : Nat} {day : Int} {s : List Hl} {a : Option Addr} {c : Nat} (h : Sat W w (sep (blk V (.cells #[.slice a s.length c] 61 (0, 0))) (sep (osl 68 4 a s.length c (hlC s)) (sep (blk D (.cells #[.int .i64 day] 3 (0, 0))) A)))) : Sat W w (sep (capH D V day s) A) := by
  rw [capH, ex_sep, Sat.ex]
  exact ⟨(a, c), by rw [sep_assoc, sep_assoc]; exact h⟩
set_option maxHeartbeats 2000000 in
theorem licences1_spec {W w : World} {B : Assn} (D V : Nat) (day : Int) (s : List Hl) (i : Nat) (x : Ac) (dn : Bool) (pt : Value) (hi : i < 40) (hs : s.length ≤ i) (h : Sat W w (sep (capH D V day s) B)) :
    Calls Tryz.prog 43 #[pt, .int .i64 i, .agg x.cells.toArray, .bool dn, .pointer (some ⟨D, 0, none⟩), .pointer (some ⟨V, 0, none⟩)] w fun e w' => e = .returned (.tuple #[]) ∧ Sat W w' (sep (capH D V day (evL day s i x dn)) B) := by
  obtain ⟨a, c, h0⟩ := capH_open h
  have h1 := h0.alloc0 (.cells x.cells.toArray 57)
  obtain ⟨w1, hw1⟩ : ∃ w1, w1 = w.alloc (.cells x.cells.toArray 57) := ⟨_, rfl⟩
  have b0 : (w.alloc (.cells x.cells.toArray 57)).cell? ⟨w.heap.size, 0, none⟩ = some (.int .i64 x.k) := act_box w x 0
  have b1 : (w.alloc (.cells x.cells.toArray 57)).cell? ⟨w.heap.size, 1, none⟩ = some (.int .i64 x.d) := act_box w x 1
  have b5 : (w.alloc (.cells x.cells.toArray 57)).cell? ⟨w.heap.size, 5, none⟩ = some (.int .i64 x.p) := act_box w x 5
  have b6 : (w.alloc (.cells x.cells.toArray 57)).cell? ⟨w.heap.size, 6, none⟩ = some (.int .i64 x.q) := act_box w x 6
  have b7 : (w.alloc (.cells x.cells.toArray 57)).cell? ⟨w.heap.size, 7, none⟩ = some (.int .i64 x.u) := act_box w x 7
  obtain ⟨Bx, hBx⟩ : ∃ Bx, Bx = w.heap.size := ⟨_, rfl⟩
  rw [← hw1, ← hBx] at b0 b1 b5 b6 b7
  rw [← hw1] at h1
  obtain ⟨n, hn⟩ : ∃ n, n = s.length := ⟨_, rfl⟩
  rw [← hn] at h1
  have d0 : w1.cell? ⟨D, 0, none⟩ = some (.int .i64 day) := h1.p2.cell 0
  have H1 := Lib.hid h1
  have HW1 := Lib.hid hw1
  have HBX := Lib.hid hBx
  have HN := Lib.hid hn
  have hn40 : n ≤ 40 := by omega
  clear h h0 h1 hw1 hBx hn hs
  by_cases hc : x.k = 17 ∧ dn = true ∧ day ≤ x.u
  · obtain ⟨hk, rfl, hu⟩ := hc
    have HE : Hid (evL day s i x true = s ++ [⟨x.p, x.q, x.d, x.u⟩]) := Lib.hid (by unfold evL; rw [if_pos ⟨hk, rfl, hu⟩])
    rw [hk] at b0
    have v0 : w1.cell? ⟨V, 0, none⟩ = some (.slice a n c) := H1.out.cell 0
    obtain ⟨w2, hw2⟩ : ∃ w2, w2 = w1.alloc (.cells #[.int .i64 x.p, .int .i64 x.q, .int .i64 x.d, .int .i64 x.u] 68) := ⟨_, rfl⟩
    have hB : Sat W w2 (sep (osl 68 4 a n c (hlC s)) (sep (blk V (.cells #[.slice a n c] 61 (0, 0))) (sep (blk D (.cells #[.int .i64 day] 3 (0, 0))) B))) := by rw [hw2]; exact (H1.out.alloc0 _).p1
    have hsrc := new_src w1 [.int .i64 x.p, .int .i64 x.q, .int .i64 x.d, .int .i64 x.u] 68
    have HSRC := Lib.hid hsrc
    rw [hw2] at hB
    clear hk hsrc hw2
    go_enter Tryz.func43, Tryz.ntmps43
    go_upto_region 1 with (fail)
    rw [← HBX.out, ← HW1.out]
    go_wp2_with (at_builtin; refine wpl_append_osl rfl _ _ 61 rfl 68 4 32 _ Tryz.underlying61 infoTHeld rfl rfl hB rfl [.int .i64 x.p, .int .i64 x.q, .int .i64 x.d, .int .i64 x.u] rfl (by simp) (by intro b' hb; cases hb; exact HSRC.out) (by simp [Value.oneCell']) (by omega) (by unfold maxLen; omega) ?_)
    intro a2 c2 w4 h5
    have h6 := h5.p1
    have u0 := h6.unfrozen 0
    have v1 : w4.cell? ⟨V, 0, none⟩ = some (.slice a n c) := h6.cell 0
    have H7 := Lib.hid (h6.setCell 0 (.slice a2 (n + 1) c2))
    clear h5 h6 hB
    go_wp2
    go_end0
    refine ⟨rfl, ?_⟩
    rw [HE.out]
    have hl : (s ++ [(⟨x.p, x.q, x.d, x.u⟩ : Hl)]).length = n + 1 := by rw [List.length_append, ← HN.out]; rfl
    refine capH_mk (a := a2) (c := c2) ?_
    rw [hl, hlC_append]
    exact H7.out
  · have HE : Hid (evL day s i x dn = s) := Lib.hid (by unfold evL; rw [if_neg hc])
    have HFIN : Hid (Sat W w1 (sep (capH D V day s) B)) := Lib.hid (capH_mk (a := a) (c := c) (by rw [← HN.out]; exact H1.out))
    clear b1 b5 b6
    by_cases hk : x.k = 17
    · by_cases hdn : dn = true
      · have hu : ¬ day ≤ x.u := fun e => hc ⟨hk, hdn, e⟩
        rw [hk] at b0
        subst hdn
        clear hc hk
        go_enter Tryz.func43, Tryz.ntmps43
        go_upto_region 1 with (fail)
        rw [← HBX.out, ← HW1.out]
        go_wp2
        go_end0
        exact ⟨rfl, by rw [HE.out]; exact HFIN.out⟩
      · have hdn : dn = false := by cases dn <;> simp_all
        rw [hk] at b0
        subst hdn
        clear hc hk
        go_enter Tryz.func43, Tryz.ntmps43
        go_upto_region 1 with (fail)
        rw [← HBX.out, ← HW1.out]
        go_wp2
        go_end0
        exact ⟨rfl, by rw [HE.out]; exact HFIN.out⟩
    · have bz : (x.k == 17) = false := by simp [hk]
      clear hc hk
      go_enter Tryz.func43, Tryz.ntmps43
      go_upto_region 1 with (fail)
      rw [← HBX.out, ← HW1.out]
      go_wp2
      go_end0
      exact ⟨rfl, by rw [HE.out]; exact HFIN.out⟩
/-- The licences that hold. -/
def licT (file day : Int) (f : Ac) (xs : List Ac) : List Hl := (walkT file f.d day (evL day) 0 (sortK xs) (first1 f.p) []).2
set_option maxRecDepth 100000 in
set_option maxHeartbeats 2000000 in
theorem licences_ok {W w : World} {A : Assn} {I : Mem} (file day : Int) (f : Ac) (b : Addr) (n c : Nat) (xs : List Ac) (hn : xs.length = n) (h0 : 0 < n) (h40 : n < 40) (hD : xs.Pairwise KeyNe) (hfine : ActsFine xs) (hw : Swf (some b) n c) (hc : cellsAt (some b) (acs xs) I)
    (hf : filedT file (sortK xs) = some f) (hr : titleErr file day (sortK xs) = 0) (h : Sat W w (sep (kn I) A)) :
    Calls Tryz.prog 25 #[.int .i64 file, .int .i64 day, .slice (some b) n c] w fun e w' => ∃ a c' J, e = .returned (.tuple #[.slice a (licT file day f xs).length c', .int .i64 0]) ∧ Mem.le I J ∧ Sat W w' (sep (osl 68 4 a (licT file day f xs).length c' (hlC (licT file day f xs))) (sep (kn J) A)) := by
  have hmf : ∀ (fn : Fn) (first cap : Array Value) (w : World), (Instr.makeFunc fn first cap).run Tryz.prog w = .ok (.func fn first cap) w := fun _ _ _ _ => rfl
  have eg : ∀ args w, (callFunc 43 args).run Tryz.prog w = .ok (.enter 43 args) w := enters_of Tryz.func43 (by kernel_rfl) rfl
  obtain ⟨D, hD'⟩ : ∃ D, D = w.heap.size := ⟨_, rfl⟩
  obtain ⟨w0, hw0⟩ : ∃ w0, w0 = w.alloc (.cells #[.int .i64 day] 3) := ⟨_, rfl⟩
  have h0' := h.alloc (.cells #[.int .i64 day] 3)
  rw [← hw0, ← hD'] at h0'
  obtain ⟨V, hV⟩ : ∃ V, V = w0.heap.size := ⟨_, rfl⟩
  obtain ⟨w1, hw1⟩ : ∃ w1, w1 = w0.alloc (.cells #[.slice none 0 0] 61) := ⟨_, rfl⟩
  have h1 : Sat W w1 (sep (capH D V day []) (sep (kn I) A)) := by
    rw [hw1, hV]
    exact capH_mk (a := none) (c := 0) ((h0'.osl_nil 68 4).alloc (.cells #[.slice none 0 0] 61))
  have d0 : w1.cell? ⟨D, 0, none⟩ = some (.int .i64 day) := by
    obtain ⟨a', c', hh⟩ := capH_open h1
    exact hh.p2.cell 0
  have hwk := Lib.hid (walkFn_spec (fun s => capH D V day s) (evL day) [] 43 #[.pointer (some ⟨D, 0, none⟩), .pointer (some ⟨V, 0, none⟩)] eg (fun k s => s.length ≤ k) (Nat.zero_le _) (fun k s x dn hk => evL_len hk) (fun k s hk => by omega)
    (fun s i x dn pt w B q1 q2 q3 => licences1_spec D V day s i x dn pt q1 q2 q3) file day f b n c xs hn h0 h40 hD hfine hw hc hf hr h1.p1)
  obtain ⟨R, hR⟩ : ∃ R, R = licT file day f xs := ⟨_, rfl⟩
  rw [show (walkT file f.d day (evL day) 0 (sortK xs) (first1 f.p) []).2 = R from hR.symm] at hwk
  rw [← hR]
  have HV := Lib.hid hV
  have HW1 := Lib.hid hw1
  have HD := Lib.hid hD'
  have HW0 := Lib.hid hw0
  clear hn h0 h40 hD hfine hw hc hf hr h h1 h0' hV hw1 hD' hw0 hR eg
  go_enter Tryz.func25, Tryz.ntmps25
  go_upto_region 1 with (fail)
  rw [← HD.out, ← HW0.out]
  go_upto_region 2 with (fail)
  rw [← HV.out, ← HW1.out]
  go_wp2_with fail
  refine hwk.out.mono ?_
  rintro e w2 ⟨p, J, rfl, hle, h2⟩
  obtain ⟨a, c', h3⟩ := capH_open (show Sat W w2 (sep (capH D V day R) (sep (isT p f.p _) (sep (kn J) A))) from h2.p2)
  have v0 : w2.cell? ⟨V, 0, none⟩ = some (.slice a R.length c') := h3.cell 0
  have H3 := Lib.hid h3
  have HLE := Lib.hid hle
  clear hwk h2 h3 hle
  go_wp2
  go_ret2
  refine ⟨a, c', J, rfl, HLE.out, ?_⟩
  have := H3.out.forget.p1.drop.p1.drop
  exact this
end Go.Proofs.YtfapiopnjllnnaaGreatDoor
/- The generator of chapter 18: Pick, and the maker's next number. -/
namespace PA
open Go Go.Proofs.YtfapiopnjllnnaaGreatDoor
/-- The number at an index, below a bound; 0 behind the end. -/
def pickA (l : List Int) (i : Nat) (n : Int) : Int := match l[i]? with | some x => aroundI x n | none => 0
theorem pickA_bd (l : List Int) (i : Nat) (n : Int) (hn : 0 < n) : 0 ≤ pickA l i n ∧ pickA l i n < n := by
  unfold pickA
  split
  · exact aroundI_lt _ _ hn
  · omega
end PA
namespace Go.Proofs.YtfapiopnjllnnaaGreatDoor
open Go.RowKit PA
/-- What the maker reads its numbers from. -/
def MkV (I : Mem) (va : Value) (l : List Int) : Prop := (∃ a c, va = .slice a l.length c) ∧ (rInt.slice 1).rel I [va] l ∧ ∀ z ∈ l, I64' z
theorem MkV.mono {I J : Mem} {va : Value} {l : List Int} (hl : Mem.le I J) (h : MkV I va l) : MkV J va l := ⟨h.1, (rInt.slice 1).mono hl h.2.1, h.2.2⟩
def mkr (B : Nat) (va : Value) (pos day : Int) (fv : Value) : Assn := blk B (.cells #[va, .int .i64 pos, .int .i64 day, fv] 111 (0, 0))
theorem pick_spec {W w : World} {A : Assn} {I : Mem} (va : Value) (l : List Int) (i : Nat) (n : Int) (hn0 : 0 < n) (hn1 : n ≤ 1099511627776) (hi : i ≤ 1000000) (hv : MkV I va l) (h : Sat W w (sep (kn I) A)) :
    Calls Tryz.prog 72 #[va, .int .i64 i, .int .i64 n] w fun e w' => e = .returned (.int .i64 (pickA l i n)) ∧ w = w' := by
  obtain ⟨⟨a, c, rfl⟩, hv, hl⟩ := hv
  obtain ⟨a', c', e, hsw, hc⟩ := ints_rel.1 hv
  simp only [Value.slice.injEq] at e
  obtain ⟨rfl, -, rfl⟩ := e
  obtain ⟨r, hr⟩ : ∃ r, r = pickA l i n := ⟨_, rfl⟩
  rw [← hr]
  unfold pickA at hr
  have HR := Lib.hid hr
  have hlen : (l.length : Int) ≤ 9223372036854775807 := by
    have h1 := hsw.1; have h2 := hsw.2.1; unfold maxLen at h2; omega
  have hiI : (i : Int) ≤ 1000000 := by omega
  by_cases hlt : i < l.length
  · have hltz : ¬ (l.length : Int) ≤ (i : Int) := by omega
    have hltz2 : (i : Int) < (l.length : Int) := by omega
    obtain ⟨b, o, rfl, hcell⟩ := cells_ext hc (fun e => by have := congrArg List.length e; simp at this; rw [this] at hlt; simp at hlt)
    obtain ⟨x, hx⟩ : ∃ x, x = l[i] := ⟨_, rfl⟩
    have c0 := hcell w h.ext i (PA.iv x) (by rw [List.getElem?_map, List.getElem?_eq_getElem hlt, hx]; rfl)
    unfold PA.iv at c0
    have hx64 := hl x (by rw [hx]; exact List.getElem_mem hlt)
    have HX : Hid (r = aroundI x n) := Lib.hid (by rw [HR.out, List.getElem?_eq_getElem hlt, hx])
    have HA := Lib.hid (around_spec x n w hx64.1 hx64.2 (by omega) (by omega))
    obtain ⟨ll, hll⟩ : ∃ ll, ll = l.length := ⟨_, rfl⟩
    rw [← hll] at hlen hltz hltz2 ⊢
    clear hv hc hcell hl hr hx hll h hsw hx64 HR
    go_enter Tryz.func72, Tryz.ntmps72
    go_wp2_with fail
    refine HA.out.mono ?_
    rintro e w2 ⟨rfl, rfl⟩
    go_wp2
    go_ret
    exact ⟨ret_i HX.out.symm, rfl⟩
  · have hltz : (l.length : Int) ≤ (i : Int) := by omega
    have HX : Hid (r = 0) := Lib.hid (by rw [HR.out, List.getElem?_eq_none (by omega)])
    obtain ⟨ll, hll⟩ : ∃ ll, ll = l.length := ⟨_, rfl⟩
    rw [← hll] at hlen hltz ⊢
    clear hv hc hl hr hll h hsw HR
    go_enter Tryz.func72, Tryz.ntmps72
    go_wp2
    go_ret
    exact ⟨ret_i HX.out.symm, rfl⟩
theorem next_spec {W w : World} {A : Assn} {I : Mem} {B : Nat} {day : Int} {fv : Value} (va : Value) (l : List Int) (i : Nat) (n : Int) (hn0 : 0 < n) (hn1 : n ≤ 1099511627776) (hi : i < 1000000) (hv : MkV I va l) (h : Sat W w (sep (mkr B va i day fv) (sep (kn I) A))) :
    Calls Tryz.prog 50 #[.pointer (some ⟨B, 0, none⟩), .int .i64 n] w fun e w' => e = .returned (.int .i64 (pickA l i n)) ∧ Sat W w' (sep (mkr B va ((i + 1 : Nat) : Int) day fv) (sep (kn I) A)) := by
  unfold mkr at h ⊢
  obtain ⟨r, hr⟩ : ∃ r, r = pickA l i n := ⟨_, rfl⟩
  rw [← hr]
  have c1 : w.cell? ⟨B, 1, none⟩ = some (.int .i64 i) := h.cell 1
  have f1 : w.frozen? ⟨B, 1, none⟩ = false := h.unfrozen 1
  obtain ⟨w1, hw1⟩ : ∃ w1, w1 = w.setCell ⟨B, 1, none⟩ (.int .i64 ((i + 1 : Nat) : Int)) := ⟨_, rfl⟩
  have h1 := h.setCell 1 (.int .i64 ((i + 1 : Nat) : Int))
  rw [← hw1] at h1
  have h1d : Sat W w1.drew (sep (blk B (.cells #[va, .int .i64 ((i + 1 : Nat) : Int), .int .i64 day, fv] 111 (0, 0))) (sep (kn I) A)) := h1.drew
  have hx : (i : Int) + 1 = ((i + 1 : Nat) : Int) := by omega
  obtain ⟨i1, hi1⟩ : ∃ i1, i1 = ((i + 1 : Nat) : Int) := ⟨_, rfl⟩
  rw [← hi1] at hw1 hx h1d ⊢
  have hiI : (i : Int) < 1000000 := by omega
  have d0 : w1.drew.cell? ⟨B, 0, none⟩ = some va := h1d.cell 0
  have d1 : w1.drew.cell? ⟨B, 1, none⟩ = some (.int .i64 i1) := h1d.cell 1
  have hx2 : IntKind.i64.wrap (i1 - 1) = (i : Int) := by
    have : i1 - 1 = (i : Int) := by omega
    rw [this]; unfold IntKind.wrap; simp [IntKind.bits, IntKind.signed]; omega
  have HP := Lib.hid (pick_spec va l i n hn0 hn1 (by omega) hv h1d.p1)
  have HD := Lib.hid h1d
  have HW1 := Lib.hid hw1
  rw [← hr] at HP
  clear hr h h1 h1d hi1 hw1
  go_enter Tryz.func50, Tryz.ntmps50
  go_upto_region 2 with (fail)
  rw [← HW1.out]
  refine wp_region_canon rfl (fun _ => True) [(0, .p), (1, .p), (2, .p), (3, .t), (4, .p), (5, .p), (6, .p), (7, .t), (8, .p), (9, .p), (10, .e false), (11, .p)] (by kernel_rfl) ?_
  have hS0 : True := trivial
  (repeat ((first | (refine C_p (v := ?_) rfl rfl (fun w' => ?_) ?_; rotate_left; (go_simp; with_reducible rfl)) | (refine C_s (v := ?_) rfl rfl hS0 (fun w' hS => ?_) ?_; rotate_left; ((try dsimp only at hS); go_simp; with_reducible rfl)) | (refine C_t (v := ?_) rfl rfl ?_ ?_; rotate_left; (go_simp; with_reducible rfl)) | (refine C_po rfl rfl ?_) | (refine C_so rfl rfl hS0 ?_) | (refine C_to rfl rfl ?_)); simp only [Act.put, List.setIfInBounds_toArray, List.set_cons_zero, List.set_cons_succ]))
  (refine C_e rfl rfl (fun K hK => ?_); go_simp)
  refine HP.out.mono ?_
  rintro e w2 ⟨rfl, rfl⟩
  (refine hK _ _ (fun h => by cases h) ?_; clear hK K; (try simp only [Act.put, List.setIfInBounds_toArray, List.set_cons_zero, List.set_cons_succ]))
  (repeat ((first | (refine C_p (v := ?_) rfl rfl (fun w' => ?_) ?_; rotate_left; (go_simp; with_reducible rfl)) | (refine C_s (v := ?_) rfl rfl hS0 (fun w' hS => ?_) ?_; rotate_left; ((try dsimp only at hS); go_simp; with_reducible rfl)) | (refine C_t (v := ?_) rfl rfl ?_ ?_; rotate_left; (go_simp; with_reducible rfl)) | (refine C_po rfl rfl ?_) | (refine C_so rfl rfl hS0 ?_) | (refine C_to rfl rfl ?_)); simp only [Act.put, List.setIfInBounds_toArray, List.set_cons_zero, List.set_cons_succ]))
  refine C_nil ?_
  go_wp2
  go_ret
  exact ⟨rfl, HD.out⟩
end Go.Proofs.YtfapiopnjllnnaaGreatDoor
/- The wire's numbers in plain. No program in sight. -/
namespace PA
open Go RowKit
theorem bits_xor_comm (k : IntKind) (x y : Int) : bits .xor k x y = bits .xor k y x := by
  show IntKind.wrap k ((BitVec.ofInt k.bits x ^^^ BitVec.ofInt k.bits y).toNat : Int) = IntKind.wrap k ((BitVec.ofInt k.bits y ^^^ BitVec.ofInt k.bits x).toNat : Int)
  rw [BitVec.xor_comm]
theorem zz_val (n : Int) (h1 : -9223372036854775808 ≤ n) (h2 : n ≤ 9223372036854775807) :
    bits .xor .u64 (IntKind.u64.wrap (IntKind.u64.wrap n * 2)) (IntKind.u64.wrap (n / 9223372036854775808)) = (Lib.zigzag n : Nat) := by
  by_cases h : 0 ≤ n
  · have e1 : IntKind.u64.wrap (n / 9223372036854775808) = ((0 : Nat) : Int) := by rw [IntKind.wrap_u64]; omega
    have e2 : IntKind.u64.wrap (IntKind.u64.wrap n * 2) = ((2 * n).toNat : Nat) := by rw [IntKind.wrap_u64, IntKind.wrap_u64]; omega
    rw [e1, e2, bits_xor_u64_nat _ _ (by omega) (by decide), Nat.xor_zero]
    unfold Lib.zigzag; rw [if_pos h]
  · have e1 : IntKind.u64.wrap (n / 9223372036854775808) = IntKind.u64.max := by
      rw [IntKind.wrap_u64, show IntKind.u64.max = 18446744073709551615 by decide]; omega
    rw [e1, bits_xor_comm]
    exact Lib.zigzag_neg h1 (by omega)
/-- The number with a zigzag form. -/
def unz (z : Nat) : Int := if z % 2 = 0 then (z / 2 : Nat) else -((z / 2 : Nat) : Int) - 1
theorem unz_val (z : Nat) (h : z < 18446744073709551616) : bits BinOp.xor .i64 ((z : Int) / 2) (wrap64 (-wrap64 (bits BinOp.and .u64 (z : Int) 1))) = unz z := by
  rw [Lib.u64_and1 _ (by omega) (by omega)]
  have e0 : (z : Int) / 2 = ((z / 2 : Nat) : Int) := by omega
  unfold unz
  by_cases h0 : z % 2 = 0
  · have e1 : (z : Int) % 2 = 0 := by omega
    rw [e1, if_pos h0, e0]
    have e2 : wrap64 (-wrap64 0) = 0 := by simp [wrap64]
    rw [e2]
    show IntKind.i64.wrap ((BitVec.ofInt 64 ((z / 2 : Nat) : Int) ^^^ BitVec.ofInt 64 0).toNat : Int) = _
    have e3 : BitVec.ofInt 64 ((z / 2 : Nat) : Int) ^^^ BitVec.ofInt 64 0 = BitVec.ofInt 64 ((z / 2 : Nat) : Int) := by simp
    rw [e3, BitVec.ofInt_natCast, BitVec.toNat_ofNat, IntKind.wrap_i64]
    omega
  · have e1 : (z : Int) % 2 = 1 := by omega
    rw [e1, if_neg h0, e0, bits_xor_comm]
    have e2 : wrap64 (-wrap64 1) = -1 := by simp [wrap64]
    rw [e2]
    exact Lib.i64_not _ (by omega)
def encI (n : Int) : List UInt8 := Lib.uvarint (Lib.zigzag n)
def encR (b : List UInt8) : List UInt8 := Lib.uvarint b.length ++ b
/-- Reading a number: the first byte has index i. -/
def uintGo (i n : Nat) : List UInt8 → Except Int (Nat × List UInt8)
  | [] => .error 3
  | c :: l => if (i = 9 ∧ 1 < c.toNat) ∨ (0 < i ∧ c.toNat = 0) then .error 2 else if c.toNat < 128 then .ok (n + c.toNat * 128 ^ i, l) else uintGo (i + 1) (n + (c.toNat - 128) * 128 ^ i) l
def uintP (l : List UInt8) : Except Int (Nat × List UInt8) := uintGo 0 0 l
def intP (l : List UInt8) : Except Int (Int × List UInt8) := match uintP l with
  | .error e => .error e
  | .ok (z, l) => .ok (unz z, l)
def rawP (l : List UInt8) : Except Int (List UInt8 × List UInt8) := match uintP l with
  | .error e => .error e
  | .ok (n, l) => if l.length < n then .error 3 else .ok (l.take n, l.drop n)
theorem encI_length (n : Int) (h1 : -9223372036854775808 ≤ n) (h2 : n ≤ 9223372036854775807) : (encI n).length ≤ 10 := Lib.uvarint_length64 (Lib.zigzag_lt h1 h2)
/-- A reader: the bytes that are left, or the error. -/
abbrev RSt := Except Int (List UInt8)
def stU : RSt → Nat × RSt
  | .error e => (0, .error e)
  | .ok l => match uintP l with | .error e => (0, .error e) | .ok (n, l') => (n, .ok l')
def stI (st : RSt) : Int × RSt := (unz (stU st).1, (stU st).2)
def stR : RSt → List UInt8 × RSt
  | .error e => ([], .error e)
  | .ok l => match rawP l with | .error e => ([], .error e) | .ok (b, l') => (b, .ok l')
def stE : RSt → Int
  | .error e => e
  | .ok l => if l = [] then 0 else 2
theorem pow128 (i : Nat) : (128 : Nat) ^ i = 2 ^ (7 * i) := by rw [Nat.pow_mul]
theorem andNot128 (c : UInt8) : bits .andNot .u8 (c.toNat : Int) 128 = ((c.toNat % 128 : Nat) : Int) := by
  have h : ∀ n : Fin 256, bits .andNot .u8 (n.val : Int) 128 = ((n.val % 128 : Nat) : Int) := by decide +kernel
  exact h ⟨c.toNat, c.toNat_lt⟩
theorem or_var (n m i : Nat) (hn : n < 128 ^ i) (hm : m < 128) (hi : i ≤ 9) (h9 : i = 9 → m ≤ 1) :
    bits .or .u64 (n : Int) (IntKind.u64.wrap (IntKind.u64.wrap (m : Int) * 2 ^ (7 * i))) = ((n + m * 128 ^ i : Nat) : Int) ∧ n + m * 128 ^ i < 18446744073709551616 := by
  have e' : ((2 : Int) ^ (7 * i)) = ((128 ^ i : Nat) : Int) := by rw [pow128]; push_cast; rfl
  have q9 : (128 : Nat) ^ 9 = 9223372036854775808 := by decide
  have q8 : (128 : Nat) ^ 8 = 72057594037927936 := by decide
  have hp0 : (128 : Nat) ^ i ≤ 9223372036854775808 := q9 ▸ Nat.pow_le_pow_right (by decide) hi
  have hb : m * 128 ^ i + 128 ^ i ≤ 18446744073709551616 := by
    by_cases h : i = 9
    · subst h
      have := h9 rfl
      rw [q9]; omega
    · have hp : (128 : Nat) ^ i ≤ 72057594037927936 := q8 ▸ Nat.pow_le_pow_right (by decide) (by omega)
      have : m * 128 ^ i ≤ 127 * 72057594037927936 := Nat.mul_le_mul (by omega) hp
      omega
  rw [e']
  generalize hp : (128 : Nat) ^ i = p at *
  have e2 : IntKind.u64.wrap (m : Int) = (m : Int) := wraps_u64 _ (by omega) (by omega)
  have e3 : IntKind.u64.wrap (((m : Nat) : Int) * (p : Int)) = ((m * p : Nat) : Int) := by
    rw [← Int.natCast_mul]; exact wraps_u64 _ (by omega) (by have : m * p < 2 ^ 64 := by omega
                                                             exact_mod_cast this)
  rw [e2, e3]
  have hp2 : (2 : Int) ^ (7 * i) = (p : Int) := e'
  have g1 : (n : Int) < (2 : Int) ^ (7 * i) := by rw [hp2]; exact_mod_cast hn
  have g2 : n < 2 ^ 64 := by omega
  have g3 : ((m * p : Nat) : Int) % (2 : Int) ^ (7 * i) = 0 := by rw [hp2]; push_cast; exact Int.mul_emod_left _ _
  have g4 : m * p < 2 ^ 64 := by omega
  refine ⟨?_, by omega⟩
  rw [bits_join_low .u64 64 (by decide) wraps_u64 (7 * i) _ _ (by omega) g1 (by exact_mod_cast g2) (by omega) g3 (by exact_mod_cast g4)]
  exact (Int.natCast_add _ _).symm
theorem uint_step (n c i : Nat) (hn : n < 128 ^ i) (hc : 128 ≤ c) (hc2 : c < 256) : n + (c - 128) * 128 ^ i < 128 ^ (i + 1) := by
  rw [Nat.pow_succ]
  have : (c - 128) * 128 ^ i ≤ 127 * 128 ^ i := Nat.mul_le_mul_right _ (by omega)
  omega
theorem uintGo_lt : ∀ (l : List UInt8) (i n : Nat), i ≤ 9 → n < 128 ^ i → ∀ m l', uintGo i n l = .ok (m, l') → m < 18446744073709551616 ∧ ∃ k, l' = l.drop k
  | [], i, n, _, _, m, l', h => by simp [uintGo] at h
  | c :: l, i, n, hi, hn, m, l', h => by
    have hc := c.toNat_lt
    unfold uintGo at h
    split at h
    · cases h
    · rename_i hbad
      split at h
      · rename_i hs
        cases h
        exact ⟨(or_var n c.toNat i hn hs hi (fun e => by rw [e] at hbad; omega)).2, 1, rfl⟩
      · rename_i hs
        by_cases h9 : i = 9
        · exfalso; rw [h9] at hbad; omega
        · obtain ⟨h1, k, h2⟩ := uintGo_lt l (i + 1) _ (by omega) (uint_step n c.toNat i hn (by omega) (by omega)) m l' h
          exact ⟨h1, k + 1, by rw [h2]; rfl⟩
theorem stU_lt (st : RSt) : (stU st).1 < 18446744073709551616 := by
  cases st with
  | error e => exact (by decide : 0 < 18446744073709551616)
  | ok l =>
    unfold stU
    dsimp only
    cases h : uintP l with
    | error e => exact (by decide : 0 < 18446744073709551616)
    | ok x => obtain ⟨m, l'⟩ := x; exact (uintGo_lt l 0 0 (by omega) (by decide) m l' h).1
end PA
