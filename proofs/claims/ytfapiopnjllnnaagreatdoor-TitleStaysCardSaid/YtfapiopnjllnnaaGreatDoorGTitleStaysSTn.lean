/- Package title: Licences (no error), its closure. -/
import Derived.Test.YtfapiopnjllnnaaGreatDoorGTitleStaysSTa
namespace Go.Proofs.YtfapiopnjllnnaaGreatDoor
open Go.RowKit PA
/-- A licence: from, to, first and last day. -/
structure Hl where
  a : Int
  b : Int
  c : Int
  d : Int
  deriving DecidableEq
def hlC (s : List Hl) : List Value := s.flatMap fun h => [.int .i64 h.a, .int .i64 h.b, .int .i64 h.c, .int .i64 h.d]
theorem hlC_len (s : List Hl) : (hlC s).length = s.length * 4 := by
  induction s with
  | nil => rfl
  | cons x xs ih => rw [hlC, List.flatMap_cons, List.length_append, ← hlC, ih, List.length_cons]; simp; omega
theorem hlC_append (s t : List Hl) : hlC (s ++ t) = hlC s ++ hlC t := by simp [hlC]
theorem infoTHeld : (Tryz.prog.info? 68).map (fun i => (i.zero, i.size, i.bytes)) = some (some (.agg #[.int .i64 0, .int .i64 0, .int .i64 0, .int .i64 0]), 4, 32) := by kernel_rfl
/-- The licences that have effect and hold on a day, told one by one. -/
def evL (day : Int) (s : List Hl) (_ : Nat) (x : Ac) (dn : Bool) : List Hl := if x.k = 17 ∧ dn = true ∧ day ≤ x.u then s ++ [⟨x.p, x.q, x.d, x.u⟩] else s
theorem evL_len {day : Int} {s : List Hl} {i : Nat} {x : Ac} {dn : Bool} (h : s.length ≤ i) : (evL day s i x dn).length ≤ i + 1 := by
  unfold evL
  split
  · rw [List.length_append, List.length_singleton]; omega
  · omega
/-- The boxed day and the captured slice of licences. -/
def capH (D V : Nat) (day : Int) (s : List Hl) : Assn := ex fun ac : Option Addr × Nat => sep (blk V (.cells #[.slice ac.1 s.length ac.2] 61 (0, 0))) (sep (osl 68 4 ac.1 s.length ac.2 (hlC s)) (blk D (.cells #[.int .i64 day] 3 (0, 0))))
theorem capH_open {W w : World} {A : Assn} {D V : Nat} {day : Int} {s : List Hl} (h : Sat W w (sep (capH D V day s) A)) : ∃ a c, Sat W w (sep (blk V (.cells #[.slice a s.length c] 61 (0, 0))) (sep (osl 68 4 a s.length c (hlC s)) (sep (blk D (.cells #[.int .i64 day] 3 (0, 0))) A))) := by
  rw [capH, ex_sep, Sat.ex] at h
  obtain ⟨⟨a, c⟩, h⟩ := h
  rw [sep_assoc, sep_assoc] at h
  exact ⟨a, c, h⟩
theorem capH_mk {W w : World} {A : Assn} {D V : Nat} {day : Int} {s : List Hl} {a : Option Addr} {c : Nat} (h : Sat W w (sep (blk V (.cells #[.slice a s.length c] 61 (0, 0))) (sep (osl 68 4 a s.length c (hlC s)) (sep (blk D (.cells #[.int .i64 day] 3 (0, 0))) A)))) : Sat W w (sep (capH D V day s) A) := by
  rw [capH, ex_sep, Sat.ex]
  exact ⟨(a, c), by rw [sep_assoc, sep_assoc]; exact h⟩
set_option maxHeartbeats 2000000 in
theorem licences1_spec {W w : World} {B : Assn} (D V : Nat) (day : Int) (s : List Hl) (i : Nat) (x : Ac) (dn : Bool) (pt : Value) (hi : i < 40) (hs : s.length ≤ i) (h : Sat W w (sep (capH D V day s) B)) :
    Calls Tryz.prog 43 #[pt, .int .i64 i, .agg x.cells.toArray, .bool dn, .pointer (some ⟨D, 0, none⟩), .pointer (some ⟨V, 0, none⟩)] w fun e w' => e = .returned (.tuple #[]) ∧ Sat W w' (sep (capH D V day (evL day s i x dn)) B) := by
  obtain ⟨a, c, h0⟩ := capH_open h
  have h1 := h0.alloc0 (.cells x.cells.toArray 57)
  obtain ⟨w1, hw1⟩ : ∃ w1, w1 = w.alloc (.cells x.cells.toArray 57) := ⟨_, rfl⟩
  have b0 : (w.alloc (.cells x.cells.toArray 57)).cell? ⟨w.heap.size, 0, none⟩ = some (.int .i64 x.k) := act_box w x 0
  have b1 : (w.alloc (.cells x.cells.toArray 57)).cell? ⟨w.heap.size, 1, none⟩ = some (.int .i64 x.d) := act_box w x 1
  have b5 : (w.alloc (.cells x.cells.toArray 57)).cell? ⟨w.heap.size, 5, none⟩ = some (.int .i64 x.p) := act_box w x 5
  have b6 : (w.alloc (.cells x.cells.toArray 57)).cell? ⟨w.heap.size, 6, none⟩ = some (.int .i64 x.q) := act_box w x 6
  have b7 : (w.alloc (.cells x.cells.toArray 57)).cell? ⟨w.heap.size, 7, none⟩ = some (.int .i64 x.u) := act_box w x 7
  obtain ⟨Bx, hBx⟩ : ∃ Bx, Bx = w.heap.size := ⟨_, rfl⟩
  rw [← hw1, ← hBx] at b0 b1 b5 b6 b7
  rw [← hw1] at h1
  obtain ⟨n, hn⟩ : ∃ n, n = s.length := ⟨_, rfl⟩
  rw [← hn] at h1
  have d0 : w1.cell? ⟨D, 0, none⟩ = some (.int .i64 day) := h1.p2.cell 0
  have H1 := Lib.hid h1
  have HW1 := Lib.hid hw1
  have HBX := Lib.hid hBx
  have HN := Lib.hid hn
  have hn40 : n ≤ 40 := by omega
  clear h h0 h1 hw1 hBx hn hs
  by_cases hc : x.k = 17 ∧ dn = true ∧ day ≤ x.u
  · obtain ⟨hk, rfl, hu⟩ := hc
    have HE : Hid (evL day s i x true = s ++ [⟨x.p, x.q, x.d, x.u⟩]) := Lib.hid (by unfold evL; rw [if_pos ⟨hk, rfl, hu⟩])
    rw [hk] at b0
    have v0 : w1.cell? ⟨V, 0, none⟩ = some (.slice a n c) := H1.out.cell 0
    obtain ⟨w2, hw2⟩ : ∃ w2, w2 = w1.alloc (.cells #[.int .i64 x.p, .int .i64 x.q, .int .i64 x.d, .int .i64 x.u] 68) := ⟨_, rfl⟩
    have hB : Sat W w2 (sep (osl 68 4 a n c (hlC s)) (sep (blk V (.cells #[.slice a n c] 61 (0, 0))) (sep (blk D (.cells #[.int .i64 day] 3 (0, 0))) B))) := by rw [hw2]; exact (H1.out.alloc0 _).p1
    have hsrc := new_src w1 [.int .i64 x.p, .int .i64 x.q, .int .i64 x.d, .int .i64 x.u] 68
    have HSRC := Lib.hid hsrc
    rw [hw2] at hB
    clear hk hsrc hw2
    go_enter Tryz.func43, Tryz.ntmps43
    go_upto_region 1 with (fail)
    rw [← HBX.out, ← HW1.out]
    go_wp2_with (at_builtin; refine wpl_append_osl rfl _ _ 61 rfl 68 4 32 _ Tryz.underlying61 infoTHeld rfl rfl hB rfl [.int .i64 x.p, .int .i64 x.q, .int .i64 x.d, .int .i64 x.u] rfl (by simp) (by intro b' hb; cases hb; exact HSRC.out) (by simp [Value.oneCell']) (by omega) (by unfold maxLen; omega) ?_)
    intro a2 c2 w4 h5
    have h6 := h5.p1
    have u0 := h6.unfrozen 0
    have v1 : w4.cell? ⟨V, 0, none⟩ = some (.slice a n c) := h6.cell 0
    have H7 := Lib.hid (h6.setCell 0 (.slice a2 (n + 1) c2))
    clear h5 h6 hB
    go_wp2
    go_end0
    refine ⟨rfl, ?_⟩
    rw [HE.out]
    have hl : (s ++ [(⟨x.p, x.q, x.d, x.u⟩ : Hl)]).length = n + 1 := by rw [List.length_append, ← HN.out]; rfl
    refine capH_mk (a := a2) (c := c2) ?_
    rw [hl, hlC_append]
    exact H7.out
  · have HE : Hid (evL day s i x dn = s) := Lib.hid (by unfold evL; rw [if_neg hc])
    have HFIN : Hid (Sat W w1 (sep (capH D V day s) B)) := Lib.hid (capH_mk (a := a) (c := c) (by rw [← HN.out]; exact H1.out))
    clear b1 b5 b6
    by_cases hk : x.k = 17
    · by_cases hdn : dn = true
      · have hu : ¬ day ≤ x.u := fun e => hc ⟨hk, hdn, e⟩
        rw [hk] at b0
        subst hdn
        clear hc hk
        go_enter Tryz.func43, Tryz.ntmps43
        go_upto_region 1 with (fail)
        rw [← HBX.out, ← HW1.out]
        go_wp2
        go_end0
        exact ⟨rfl, by rw [HE.out]; exact HFIN.out⟩
      · have hdn : dn = false := by cases dn <;> simp_all
        rw [hk] at b0
        subst hdn
        clear hc hk
        go_enter Tryz.func43, Tryz.ntmps43
        go_upto_region 1 with (fail)
        rw [← HBX.out, ← HW1.out]
        go_wp2
        go_end0
        exact ⟨rfl, by rw [HE.out]; exact HFIN.out⟩
    · have bz : (x.k == 17) = false := by simp [hk]
      clear hc hk
      go_enter Tryz.func43, Tryz.ntmps43
      go_upto_region 1 with (fail)
      rw [← HBX.out, ← HW1.out]
      go_wp2
      go_end0
      exact ⟨rfl, by rw [HE.out]; exact HFIN.out⟩
/-- The licences that hold. -/
def licT (file day : Int) (f : Ac) (xs : List Ac) : List Hl := (walkT file f.d day (evL day) 0 (sortK xs) (first1 f.p) []).2
set_option maxRecDepth 100000 in
set_option maxHeartbeats 2000000 in
theorem licences_ok {W w : World} {A : Assn} {I : Mem} (file day : Int) (f : Ac) (b : Addr) (n c : Nat) (xs : List Ac) (hn : xs.length = n) (h0 : 0 < n) (h40 : n < 40) (hD : xs.Pairwise KeyNe) (hfine : ActsFine xs) (hw : Swf (some b) n c) (hc : cellsAt (some b) (acs xs) I)
    (hf : filedT file (sortK xs) = some f) (hr : titleErr file day (sortK xs) = 0) (h : Sat W w (sep (kn I) A)) :
    Calls Tryz.prog 25 #[.int .i64 file, .int .i64 day, .slice (some b) n c] w fun e w' => ∃ a c' J, e = .returned (.tuple #[.slice a (licT file day f xs).length c', .int .i64 0]) ∧ Mem.le I J ∧ Sat W w' (sep (osl 68 4 a (licT file day f xs).length c' (hlC (licT file day f xs))) (sep (kn J) A)) := by
  have hmf : ∀ (fn : Fn) (first cap : Array Value) (w : World), (Instr.makeFunc fn first cap).run Tryz.prog w = .ok (.func fn first cap) w := fun _ _ _ _ => rfl
  have eg : ∀ args w, (callFunc 43 args).run Tryz.prog w = .ok (.enter 43 args) w := enters_of Tryz.func43 (by kernel_rfl) rfl
  obtain ⟨D, hD'⟩ : ∃ D, D = w.heap.size := ⟨_, rfl⟩
  obtain ⟨w0, hw0⟩ : ∃ w0, w0 = w.alloc (.cells #[.int .i64 day] 3) := ⟨_, rfl⟩
  have h0' := h.alloc (.cells #[.int .i64 day] 3)
  rw [← hw0, ← hD'] at h0'
  obtain ⟨V, hV⟩ : ∃ V, V = w0.heap.size := ⟨_, rfl⟩
  obtain ⟨w1, hw1⟩ : ∃ w1, w1 = w0.alloc (.cells #[.slice none 0 0] 61) := ⟨_, rfl⟩
  have h1 : Sat W w1 (sep (capH D V day []) (sep (kn I) A)) := by
    rw [hw1, hV]
    exact capH_mk (a := none) (c := 0) ((h0'.osl_nil 68 4).alloc (.cells #[.slice none 0 0] 61))
  have d0 : w1.cell? ⟨D, 0, none⟩ = some (.int .i64 day) := by
    obtain ⟨a', c', hh⟩ := capH_open h1
    exact hh.p2.cell 0
  have hwk := Lib.hid (walkFn_spec (fun s => capH D V day s) (evL day) [] 43 #[.pointer (some ⟨D, 0, none⟩), .pointer (some ⟨V, 0, none⟩)] eg (fun k s => s.length ≤ k) (Nat.zero_le _) (fun k s x dn hk => evL_len hk) (fun k s hk => by omega)
    (fun s i x dn pt w B q1 q2 q3 => licences1_spec D V day s i x dn pt q1 q2 q3) file day f b n c xs hn h0 h40 hD hfine hw hc hf hr h1.p1)
  obtain ⟨R, hR⟩ : ∃ R, R = licT file day f xs := ⟨_, rfl⟩
  rw [show (walkT file f.d day (evL day) 0 (sortK xs) (first1 f.p) []).2 = R from hR.symm] at hwk
  rw [← hR]
  have HV := Lib.hid hV
  have HW1 := Lib.hid hw1
  have HD := Lib.hid hD'
  have HW0 := Lib.hid hw0
  clear hn h0 h40 hD hfine hw hc hf hr h h1 h0' hV hw1 hD' hw0 hR eg
  go_enter Tryz.func25, Tryz.ntmps25
  go_upto_region 1 with (fail)
  rw [← HD.out, ← HW0.out]
  go_upto_region 2 with (fail)
  rw [← HV.out, ← HW1.out]
  go_wp2_with fail
  refine hwk.out.mono ?_
  rintro e w2 ⟨p, J, rfl, hle, h2⟩
  obtain ⟨a, c', h3⟩ := capH_open (show Sat W w2 (sep (capH D V day R) (sep (isT p f.p _) (sep (kn J) A))) from h2.p2)
  have v0 : w2.cell? ⟨V, 0, none⟩ = some (.slice a R.length c') := h3.cell 0
  have H3 := Lib.hid h3
  have HLE := Lib.hid hle
  clear hwk h2 h3 hle
  go_wp2
  go_ret2
  refine ⟨a, c', J, rfl, HLE.out, ?_⟩
  have := H3.out.forget.p1.drop.p1.drop
  exact this
end Go.Proofs.YtfapiopnjllnnaaGreatDoor
