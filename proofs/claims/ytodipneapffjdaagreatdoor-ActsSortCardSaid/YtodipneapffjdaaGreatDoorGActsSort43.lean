/- The reference's Same of acts: a list of valid acts is the same as itself. -/
import Derived.Test.YtodipneapffjdaaGreatDoorGActsSortSYl
import Derived.Test.YtodipneapffjdaaGreatDoorGActsSort20
import Derived.Test.YtodipneapffjdaaGreatDoorGActsSort24
namespace Go.Proofs.YtodipneapffjdaaGreatDoor
open Go.RowKit PA
theorem sameBytesY {W w : World} {A : Assn} {I : Mem} (v u : Value) (x : List UInt8) (h : Sat W w (sep (kn I) A)) (h1 : rBytes.rel I [v] x) (h2 : rBytes.rel I [u] x) :
    Calls Tryz.prog 17 #[v, u] w fun e w' => e = .returned (.bool true) ∧ Sat W w' (sep (kn I) A) := by
  have t1 : Sat W w (sep (rBytes.is [u] x) (sep (kn I) A)) := h.tell h2
  have t2 : Sat W w (sep (rBytes.is [v] x) (sep (kn I) (sep (rBytes.is [u] x) A))) := t1.p1.tell h1
  have t3 : Sat W w (sep (rBytes.is [v] x) (sep (rBytes.is [u] x) (sep (kn I) A))) := by simpa only [sep_comm, sep_lcomm, sep_assoc] using t2
  refine (sameBytes_spec v u x x t3).mono ?_
  rintro e w' ⟨rfl, h4⟩
  exact ⟨by rw [decide_eq_true rfl], h4.drop.drop⟩
attribute [local go_sem ↓] storeAt_act loadAt_act sizeAct
set_option maxRecDepth 100000 in
set_option maxHeartbeats 8000000 in
theorem same18_spec {W w : World} {A : Assn} {I : Mem} (a b : Option Addr) (n c d : Nat) (Ls : List (Ac × Pa)) (hn : n = Ls.length) (hn2 : n ≤ 65536) (hc : cellsAt a (acs (Ls.map (·.1))) I) (hc2 : cellsAt b (acs (Ls.map (·.1))) I) (hA : ∀ p ∈ Ls, IsA I p.1 p.2 ∧ SzA p.2 ∧ EncOK p.2) (hv : ∀ p ∈ Ls, validA p.2 = true) (h : Sat W w (sep (kn I) A)) :
    Calls Tryz.prog 7 #[.slice a n c, .slice b n d] w fun e w' => ∃ J, e = .returned (.bool true) ∧ Mem.le I J ∧ Sat W w' (sep (kn J) A) := by
  have HN := Lib.hid hn
  have HC := Lib.hid (And.intro hc hc2)
  have H := Lib.hid h
  have n63 : (n : Int) ≤ 65536 := by omega
  have HEN : Hid (∀ p ∈ Ls, ∀ w' A' J, Mem.le I J → Sat W w' (sep (kn J) A') → Calls Tryz.prog 16 #[.agg p.1.cells.toArray] w' fun e w'' => ∃ (b : Option Addr) (m d : Nat) (J2 : Mem), e = .returned (.tuple #[.slice b m d, .int .i64 0]) ∧ Mem.le J J2 ∧ rBytes.rel J2 [.slice b m d] (encA p.2) ∧ Sat W w'' (sep (kn J2) A')) := Lib.hid fun p hp w' A' J hl h' => by
    have h1 := encode18_spec p.1 p.2 ((hA p hp).1.mono hl) (hA p hp).2.1 (hA p hp).2.2 h'
    rw [if_pos (hv p hp)] at h1; exact h1
  obtain ⟨Po, hPo⟩ : ∃ P : Ending → World → Prop, P = fun e w' => ∃ J, e = .returned (.bool true) ∧ Mem.le I J ∧ Sat W w' (sep (kn J) A) := ⟨_, rfl⟩
  rw [← hPo]
  have HPO := Lib.hid hPo
  clear hn hn2 hc hc2 hA hv h hPo
  go_enter Tryz.func7, Tryz.ntmps7
  go_wp2_with fail
  go_loopw [5] (fun kv wr => ∃ (i : Nat) (J : Mem), kv = .int .i64 i ∧ i ≤ n ∧ Hid (Mem.le I J) ∧ Sat W wr (sep (kn J) A)) (fun kv _ => n - (intOf kv).toNat)
  case atStart => exact ⟨0, I, rfl, by omega, Lib.hid (Mem.le_refl I), H.out⟩
  case round =>
    obtain ⟨i, J, rfl, hi, HJ, hS⟩ := hrel
    clear H
    by_cases hlt : i < n
    · have hltz : (i : Int) < (n : Int) := by omega
      obtain ⟨p, hp⟩ : ∃ p, Ls[i]? = some p := ⟨_, List.getElem?_eq_getElem (by have := HN.out; omega)⟩
      have hpm : p ∈ Ls := List.mem_of_getElem? hp
      have hne : Ls.map (·.1) ≠ [] := fun e => by
        have h1 := congrArg List.length e
        rw [List.length_map, List.length_nil, ← HN.out] at h1; omega
      have hil : i < (Ls.map (·.1)).length := by rw [List.length_map, ← HN.out]; exact hlt
      have hpe : (Ls.map (·.1))[i] = p.1 := by rw [List.getElem_map, (List.getElem?_eq_some_iff.1 hp).2]
      obtain ⟨b1, o1, rfl, hl1⟩ := acts_atY HC.out.1 hne
      obtain ⟨b2, o2, rfl, hl2⟩ := acts_atY HC.out.2 hne
      have hld1 : ∀ w', Ext I w' → Sem.run Tryz.prog (ldAct (.pointer (some ⟨b1, o1 + i * 19, none⟩))) w' = .ok (.agg p.1.cells.toArray) w' := fun w' he => by
        have h1 := hl1 w' he i hil; rwa [hpe] at h1
      have hld2 : ∀ w', Ext I w' → Sem.run Tryz.prog (ldAct (.pointer (some ⟨b2, o2 + i * 19, none⟩))) w' = .ok (.agg p.1.cells.toArray) w' := fun w' he => by
        have h1 := hl2 w' he i hil; rwa [hpe] at h1
      have HL2 := Lib.hid hld2
      have k1 := hld1 wr (ext_le HJ.out hS.ext)
      have HE := Lib.hid (HEN.out p hpm)
      have HLT := Lib.hid hlt
      have HS := Lib.hid hS
      clear hp hpm hne hil hpe hl1 hl2 hld1 hld2 hlt hi hS
      go_upto_region 6 with (fail)
      go_wp2_with fail
      refine (HE.out _ _ J HJ.out HS.out).mono ?_
      rintro e w2 ⟨x1, m1, e1, J1, rfl, hle1, hr1, h2⟩
      have HJ1 := Lib.hid (And.intro (Mem.le_trans HJ.out hle1) hr1)
      have k2 := HL2.out w2 (ext_le HJ1.out.1 h2.ext)
      have H2 := Lib.hid h2
      clear hle1 hr1 h2 k1 HS
      go_upto_region 7 with (fail)
      go_wp2_with fail
      refine (HE.out _ _ J1 HJ1.out.1 H2.out).mono ?_
      rintro e w3 ⟨x2, m2, e2, J2, rfl, hle2, hr2, h3⟩
      have HJ2 := Lib.hid (And.intro (Mem.le_trans HJ1.out.1 hle2) (And.intro (rBytes.mono hle2 HJ1.out.2) hr2))
      have H3 := Lib.hid h3
      clear hle2 hr2 h3 k2 H2
      go_upto_region 8 with (fail)
      go_wp2_with fail
      refine (sameBytesY (.slice x1 m1 e1) (.slice x2 m2 e2) (encA p.2) H3.out HJ2.out.2.1 HJ2.out.2.2).mono ?_
      rintro e w4 ⟨rfl, h4⟩
      have H4 := Lib.hid h4
      clear h4 H3
      go_wp2
      go_roundw
      case rel => exact ⟨i + 1, J2, by go_num, by have := HLT.out; omega, Lib.hid HJ2.out.1, H4.out⟩
      case measure => simp [intOf]; have := HLT.out; omega
    · obtain rfl : i = n := by omega
      have HS := Lib.hid hS
      clear hS hlt hi
      go_wp2
      rw [HPO.out]
      exact ⟨J, rfl, HJ.out, HS.out⟩
end Go.Proofs.YtodipneapffjdaaGreatDoor
/- The rule of Reg11 for great regions: what stands before each operation is computed once. Plain Lean, no program in sight. -/
namespace PA
open Go Go.RowKit
section
variable {P : Program} {ops : Array Oper} {Q : Exit → Act → World → Prop}
def itemsJWb (ops : Array Oper) (bf : Array Nat) (l : List ItG) : Bool :=
  pairJ ops bf l && depI ops (flsG l) && noSel ops && okBefore ops bf && (flsG l).length == ops.size && nodupB ((flsG l).map (·.1)) && ((flsG l).map (·.1)).all (fun i => decide (i < ops.size)) && (List.range ops.size).all (fun i => ((flsG l).map (·.1)).contains i) &&
  ops.all (fun o => o.after.all fun e => !Region.binds .any e || decide (e.on < ops.size)) && grpsBW ops bf l
theorem wp_region_itemsJWb {id : Nat} {a : Act} {w : World} (hm : P.follows .mixedOrders = true) (S : World → Prop) (l : List ItG) (bf : Array Nat) (hbf : Region.before ops = bf) (hok : itemsJWb ops bf l = true)
    (h : wpJ P ops (NoPanic Q) S l (Q .normal) a w.drew) : (Code.region id ops true).wp P Q a w :=
  wp_region_itemsJW hm S l (by unfold itemsJW; rw [hbf]; exact hok) h
variable {S : World → Prop} {W : World}
/-- What an operation does here; it may yield nothing. -/
def Does2 (P : Program) (o : Oper) (a : Act) (w : World) (Post : Value → World → Prop) : Prop := Does1 P o a w Post ∨ ∃ w', (execOp a.eval o).run P w = .ok .skip w' ∧ Post undef w'
theorem Does2.go {i : Nat} {o : Oper} {a : Act} {w : World} {Post : Value → World → Prop} (ho : ops[i]? = some o) (hg : o.guard = none) (h : Does2 P o a w Post) {K : Act → World → Prop}
    (hK : ∀ v w', Post v w' → K (a.put o.dst v) w') : Go.wpOp P ops Q i K a w := by
  rcases h with h | ⟨w', h1, h2⟩
  · exact h.go ho hg hK
  · unfold Go.wpOp
    have hw : Region.wanted o (yielded ops a.tmps) = true := by unfold Region.wanted; rw [hg]
    simp only [ho, hw, if_true]
    refine .inl ?_
    unfold Oper.wp
    rw [h1]; exact hK undef w' h2
/-- The rule of Reg13 with operations that yield nothing: the effects of a group in whatever order. T: what is held when f says what is done; D: what an operation looks at. -/
theorem wpGrpG_dag2 {a0 : Act} {b : Bool} {K : Act → World → Prop} (E0 : List Nat) (D : Nat → List Nat) (T : (Nat → Option Value) → Assn)
    (hB : dagB ops E0 D = true) (hdst : dstsB ops E0 = true) (hS : b = true → ∀ f w, Sat W w (T f) → S w)
    (hop : ∀ x ∈ E0, ∀ (f : Nat → Option Value) (w : World) (o : Oper), ops[x]? = some o → f x = none → (∀ d ∈ D x, (f d).isSome = true) → (∀ y ∈ E0, (f y).isSome = true → ∀ d ∈ D y, (f d).isSome = true) → Sat W w (T f) →
      Does2 P o (putF ops (E0.filter fun y => (D x).contains y) f a0) w (fun v w' => Sat W w' (T (setF f x v))))
    (hfin : ∀ (f : Nat → Option Value) (w : World), (∀ x ∈ E0, (f x).isSome = true) → Sat W w (T f) → K (putF ops E0 f a0) w) :
    ∀ (n : Nat) (E : List Nat) (f : Nat → Option Value) (w : World), E.length = n → E.Nodup → (∀ x, x ∈ E ↔ x ∈ E0 ∧ f x = none) → (∀ y ∈ E0, (f y).isSome = true → ∀ d ∈ D y, (f d).isSome = true) → Sat W w (T f) →
      wpGrpG P ops Q S b n (E.map fun x => (x, [])) K (putF ops E0 f a0) w := by
  obtain ⟨hpw, hnd⟩ := dstsB_ok E0 hdst
  have hB' := List.all_eq_true.1 hB
  intro n
  induction n with
  | zero =>
    intro E f w hl _ hE _ hT
    have he := List.eq_nil_of_length_eq_zero hl
    subst he
    refine hfin f w (fun x hx => ?_) hT
    cases hf : f x with
    | some v => rfl
    | none => have := (hE x).2 ⟨hx, hf⟩; cases this
  | succ n ih =>
    intro E f w hl hn hE hcl hT
    rintro ⟨x, js⟩ hxm hready
    obtain ⟨x', hx', e⟩ := List.mem_map.1 hxm
    cases e
    obtain ⟨hx0, hfx⟩ := (hE x).1 hx'
    have hb := hB' x hx0
    simp only [Bool.and_eq_true, List.all_eq_true] at hb
    obtain ⟨hb1, hb2⟩ := hb
    cases ho : ops[x]? with
    | none => rw [ho] at hb1; cases hb1
    | some o =>
      rw [ho] at hb1
      simp only [Bool.and_eq_true, List.all_eq_true, Bool.or_eq_true] at hb1
      obtain ⟨⟨hg, hs⟩, hlook⟩ := hb1
      have hg' : o.guard = none := by simpa using hg
      have hs' : ∀ cs b, o.op ≠ .select cs b := fun cs b e => by rw [e] at hs; cases hs
      have hdep : ∀ d ∈ D x, (f d).isSome = true := fun d hd => by
        have h1 := hb2 d hd
        simp only [List.contains_iff_mem] at h1
        cases hf : f d with
        | some v => rfl
        | none =>
          have hdE := (hE d).2 ⟨h1.1, hf⟩
          have := List.all_eq_true.1 hready (d, []) (List.mem_map.2 ⟨d, hdE, rfl⟩)
          simp only [h1.2] at this
          cases this
      have hd1 := hop x hx0 f w o ho hfx hdep hcl hT
      have hex : execOp (putF ops E0 f a0).eval o = execOp (putF ops (E0.filter fun y => (D x).contains y) f a0).eval o := by
        refine execOp_congr o hs' fun z hz => ?_
        cases z with
        | tmp t =>
          refine putF_keep _ E0 a0 a0 rfl rfl fun y hy hk hdt => ?_
          have := hlook y hy
          rw [hk, hdt] at this
          simp only [Bool.false_eq_true, false_or, Bool.not_eq_true', List.contains_eq_mem, decide_eq_false_iff_not] at this
          exact this (List.mem_append_left _ (List.mem_filterMap.2 ⟨.tmp t, by simpa using hz, rfl⟩))
        | _ => rfl
      have hd2 : Does2 P o (putF ops E0 f a0) w (fun v w' => Sat W w' (T (setF f x v))) := by
        unfold Does2 Does1 at hd1 ⊢
        rw [hex]; exact hd1
      refine hd2.go ho hg' fun v w' hT' => ⟨fun hb => hS hb _ w' hT', ?_⟩
      show wpGrpG P ops Q S b n _ K _ w'
      have hdo : o.dst = dstOf ops x := by unfold dstOf; rw [ho]; rfl
      rw [hdo, ← putF_set E0 hx0 hpw hnd hfx]
      have hel : ((E.map fun x => (x, ([] : List Nat))).erase (x, [])) = (E.erase x).map fun x => (x, ([] : List Nat)) := by
        clear hl hn hE hxm hready hx'
        induction E with
        | nil => rfl
        | cons y E ihE =>
          rw [List.map_cons, List.erase_cons, List.erase_cons]
          by_cases e : y = x
          · subst e; simp
          · have e1 : (y == x) = false := by simpa using e
            have e2 : ((y, ([] : List Nat)) == (x, [])) = false := by simp [e]
            rw [e1, e2]
            simp only [Bool.false_eq_true, if_false, List.map_cons, ihE]
      rw [hel]
      refine ih (E.erase x) (setF f x v) w' (by rw [List.length_erase_of_mem hx', hl]; rfl) (hn.erase x) (fun y => ?_) (fun y hy hys d hd => ?_) hT'
      · rw [hn.mem_erase_iff, hE]
        by_cases e : y = x
        · subst e; simp [setF_eq]
        · rw [setF_ne e]; simp [e]
      · by_cases e : d = x
        · subst e; rw [setF_eq]; rfl
        · rw [setF_ne e]
          by_cases e2 : y = x
          · subst e2; exact hdep d hd
          · rw [setF_ne e2] at hys
            exact hcl y hy hys d hd
end
end PA
/- The program's bare of acts: the map of its fields. -/
namespace PA
open Go Go.RowKit
/-- Which fields an act has: bit i. -/
def bB (z : Ac) : Nat → Bool
  | 0 => z.f != 0
  | 1 => z.o != 0
  | 2 => z.p != 0
  | 3 => z.q != 0
  | 4 => z.u != 0
  | 5 => z.m != 0
  | 6 => (!(z.sn == 0) || !(z.sd == 0))
  | 7 => decide (0 < IntKind.i64.wrap ((z.td.n : Int) + (z.tc.n : Int)))
  | 8 => decide (0 < z.cl.n)
  | 9 => decide (0 < z.ea.n)
  | _ => (z.fo != 0) || ((z.fn != 0) || decide (0 < IntKind.i64.wrap ((z.fi.n : Int) + (z.fk.n : Int))))
def insL : List (Nat × Int × Nat) := [(4, 1, 0), (8, 2, 1), (12, 4, 2), (16, 8, 3), (20, 16, 4), (24, 32, 5), (29, 64, 6), (40, 128, 7), (45, 256, 8), (50, 512, 9), (69, 1024, 10)]
/-- The map of the fields when the operations of f are done. -/
def mapF (B : Nat → Bool) (f : Nat → Option Value) (k : Int) : Option Value :=
  match insL.find? (fun p => p.2.1 == k) with
  | some p => if (f p.1).isSome = true then some (.bool (B p.2.2)) else none
  | none => none
/-- The map of all fields. -/
def mapA (B : Nat → Bool) (k : Int) : Option Value := (insL.find? (fun p => p.2.1 == k)).map fun p => .bool (B p.2.2)
theorem insL_find : ∀ p ∈ insL, insL.find? (fun q => q.2.1 == p.2.1) = some p := by decide
theorem insL_key : ∀ p ∈ insL, ∀ q ∈ insL, q.1 = p.1 → q.2.1 = p.2.1 := by decide
theorem mapF_at {B : Nat → Bool} {f : Nat → Option Value} {k : Int} {q : Nat × Int × Nat} (h : insL.find? (fun p => p.2.1 == k) = some q) : mapF B f k = if (f q.1).isSome = true then some (.bool (B q.2.2)) else none := by unfold mapF; rw [h]
theorem mapF_no {B : Nat → Bool} {f : Nat → Option Value} {k : Int} (h : insL.find? (fun p => p.2.1 == k) = none) : mapF B f k = none := by unfold mapF; rw [h]
theorem insL_some {k : Int} {q : Nat × Int × Nat} (h : insL.find? (fun p => p.2.1 == k) = some q) : q ∈ insL ∧ q.2.1 = k := by
  refine ⟨List.mem_of_find?_eq_some h, ?_⟩
  have := List.find?_some h
  simpa using this
theorem mapF_set (B : Nat → Bool) (f : Nat → Option Value) (u : Value) (p : Nat × Int × Nat) (hp : p ∈ insL) : fset (mapF B f) p.2.1 (some (.bool (B p.2.2))) = mapF B (setF f p.1 u) := by
  funext k
  unfold fset
  by_cases hk : k = p.2.1
  · rw [if_pos hk, hk, mapF_at (insL_find p hp), setF_eq]; rfl
  · rw [if_neg hk]
    cases hq : insL.find? (fun p => p.2.1 == k) with
    | none => rw [mapF_no hq, mapF_no hq]
    | some q =>
      obtain ⟨h1, h2⟩ := insL_some hq
      rw [mapF_at hq, mapF_at hq, setF_ne]
      intro e
      exact hk (by rw [← h2]; exact insL_key p hp q h1 e)
theorem mapF_none (B : Nat → Bool) {f : Nat → Option Value} (h : ∀ p ∈ insL, f p.1 = none) : mapF B f = fun _ => none := by
  funext k
  cases hq : insL.find? (fun p => p.2.1 == k) with
  | none => rw [mapF_no hq]
  | some q => rw [mapF_at hq, h q (insL_some hq).1]; rfl
theorem mapF_all (B : Nat → Bool) {f : Nat → Option Value} (h : ∀ p ∈ insL, (f p.1).isSome = true) : mapF B f = mapA B := by
  funext k
  unfold mapA
  cases hq : insL.find? (fun p => p.2.1 == k) with
  | none => rw [mapF_no hq]; rfl
  | some q => rw [mapF_at hq, h q (insL_some hq).1]; rfl
theorem mapF_congr (B : Nat → Bool) {f g : Nat → Option Value} (h : ∀ p ∈ insL, g p.1 = f p.1) : mapF B g = mapF B f := by
  funext k
  cases hq : insL.find? (fun p => p.2.1 == k) with
  | none => rw [mapF_no hq, mapF_no hq]
  | some q => rw [mapF_at hq, mapF_at hq, h q (insL_some hq).1]
theorem insL_ne0 : ∀ p ∈ insL, p.1 ≠ 0 := by decide
def bareD : Nat → List Nat := fun x => if x = 0 then [] else [0]
def bareT (B : Nat → Bool) (X : Assn) (f : Nat → Option Value) : Assn :=
  match f 0 with
  | none => X
  | some v => ex fun p : Nat × Nat => sep (fact (v = .map (some p.1))) (sep (bmap p.1 (mapF B f) p.2) X)
theorem bareT_none {B : Nat → Bool} {X : Assn} {f : Nat → Option Value} (h : f 0 = none) : bareT B X f = X := by unfold bareT; rw [h]
theorem bareT_some {W w : World} {B : Nat → Bool} {X : Assn} {f : Nat → Option Value} {v : Value} (h : f 0 = some v) : Sat W w (bareT B X f) ↔ ∃ b n, v = .map (some b) ∧ Sat W w (sep (bmap b (mapF B f) n) X) := by
  unfold bareT; rw [h]; simp only; rw [Sat.ex]
  exact ⟨fun ⟨⟨b, n⟩, h⟩ => ⟨b, n, Sat.fact.1 h⟩, fun ⟨b, n, h⟩ => ⟨(b, n), Sat.fact.2 h⟩⟩
theorem bareT_X {W w : World} {B : Nat → Bool} {X : Assn} {f : Nat → Option Value} (h : Sat W w (bareT B X f)) : Sat W w X := by
  cases h0 : f 0 with
  | none => rwa [bareT_none h0] at h
  | some v =>
    obtain ⟨b, n, -, h1⟩ := (bareT_some h0).1 h
    obtain ⟨es, clock, -, -, -, h2⟩ := h1.bmap_open
    exact h2.forget
theorem bareT_new {W w : World} {B : Nat → Bool} {X : Assn} {f : Nat → Option Value} (h0 : f 0 = none) (hn : ∀ p ∈ insL, f p.1 = none) (h : Sat W w (bareT B X f)) : Sat W (w.alloc (.map #[] 0)) (bareT B X (setF f 0 (.map (some w.heap.size)))) := by
  rw [bareT_none h0] at h
  refine (bareT_some setF_eq).2 ⟨w.heap.size, 0, rfl, ?_⟩
  have h1 : Sat W (w.alloc (.map #[] 0)) (sep (bmap w.heap.size (fun _ => none) 0) X) := h.bmap_new
  rw [mapF_congr B (g := setF f 0 (.map (some w.heap.size))) (f := f) (fun p hp => setF_ne (insL_ne0 p hp)), mapF_none B hn]
  exact h1
theorem bareT_ins {P : Program} {W w : World} {B : Nat → Bool} {X : Assn} {f : Nat → Option Value} {T K E : TypeId} (hT : P.underlying T = some (.map K E)) (hK : P.underlying K = some (.int .i64)) (p : Nat × Int × Nat) (hp : p ∈ insL) (u : Value) {v : Value} (h0 : f 0 = some v) (h : Sat W w (bareT B X f)) :
    ∃ b w', v = .map (some b) ∧ (Instr.mapUpdate T (.map (some b)) (.int .i64 p.2.1) (.bool (B p.2.2))).run P w = .ok () w' ∧ Sat W w' (bareT B X (setF f p.1 u)) := by
  obtain ⟨b, n, rfl, h1⟩ := (bareT_some h0).1 h
  obtain ⟨w', n', hr, -, h2⟩ := run_update_bmap hT hK h1 p.2.1 (.bool (B p.2.2))
  refine ⟨b, w', rfl, hr, ?_⟩
  have hne : setF f p.1 u 0 = some (.map (some b)) := by
    rw [setF_ne (Ne.symm (insL_ne0 p hp))]
    exact h0
  refine (bareT_some hne).2 ⟨b, n', rfl, ?_⟩
  rw [← mapF_set B f u p hp]
  exact h2
end PA
