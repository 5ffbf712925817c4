/- The reference's Cmp of a share with 1; claims that are listed. -/
import Derived.Test.YtodipneapffjdaaGreatDoorGActsSortSVm
import Derived.Test.YtodipneapffjdaaGreatDoorGActsSortSVn
namespace Go.Proofs.YtodipneapffjdaaGreatDoor
open Go.RowKit PA
theorem okR_11 : okR ⟨1, 1⟩ = true := okR_mk 1 1 (by omega) (by omega) (by decide) (by rfl)
def cmp1 (n d : Int) : Int := if okR ⟨n, d⟩ = true then (if n < d then -1 else if d < n then 1 else 0) else 0
theorem ltR_1 (n d : Int) : ltR ⟨n, d⟩ ⟨1, 1⟩ = decide (n < d) := by unfold ltR; simp
theorem ltR_1' (n d : Int) : ltR ⟨1, 1⟩ ⟨n, d⟩ = decide (d < n) := by unfold ltR; simp
set_option maxHeartbeats 1000000 in
theorem rboth1_spec {W w : World} {A : Assn} (n d : Int) (h : Sat W w A) :
    Calls Tryz.prog 103 #[.agg #[.int .i64 n, .int .i64 d], .agg #[.int .i64 1, .int .i64 1]] w fun e w' => e = .returned (.int .i64 (r01 (okR ⟨n, d⟩))) ∧ Sat W w' A := by
  have h1 := (h.alloc (.cells #[.int .i64 n, .int .i64 d] 27)).alloc (.cells #[.int .i64 1, .int .i64 1] 27)
  rw [World.size_alloc] at h1
  obtain ⟨B, hB⟩ : ∃ B, B = w.heap.size := ⟨_, rfl⟩
  obtain ⟨w1, hw1⟩ : ∃ z, z = (w.alloc (.cells #[.int .i64 n, .int .i64 d] 27)).alloc (.cells #[.int .i64 1, .int .i64 1] 27) := ⟨_, rfl⟩
  rw [← hB, ← hw1] at h1
  have HB := Lib.hid (And.intro hB hw1)
  obtain ⟨j0, j1, -, -⟩ := rt2 h1
  obtain ⟨k0, k1, -, -⟩ := rt2 h1.p1
  have HV := Lib.hid (rvalidR_spec n d h1)
  obtain ⟨o, ho⟩ : ∃ o, o = okR ⟨n, d⟩ := ⟨_, rfl⟩
  rw [← ho] at HV ⊢
  clear h h1 hB hw1 ho
  cases o with
  | false =>
    go_enter Tryz.func103, Tryz.ntmps103
    go_upto_region 1 with (fail)
    simp only [← HB.out.1]
    rw [← HB.out.2]
    go_wp2_with fail
    refine HV.out.mono ?_
    rintro e w2 ⟨rfl, h2⟩
    have H2 := Lib.hid h2.drop.drop
    clear h2 HV j0 j1 k0 k1
    unfold r01
    go_wp2
    go_ret
    exact ⟨rfl, H2.out⟩
  | true =>
    go_enter Tryz.func103, Tryz.ntmps103
    go_upto_region 1 with (fail)
    simp only [← HB.out.1]
    rw [← HB.out.2]
    go_wp2_with fail
    refine HV.out.mono ?_
    rintro e w2 ⟨rfl, h2⟩
    obtain ⟨j0, j1, -, -⟩ := rt2 h2
    have hv2 := rvalidR_spec 1 1 h2
    rw [okR_11] at hv2
    have HV2 := Lib.hid hv2
    clear h2 HV k0 k1 hv2
    unfold r01
    go_wp2_with fail
    refine HV2.out.mono ?_
    rintro e w3 ⟨rfl, h3⟩
    have H3 := Lib.hid h3.drop.drop
    clear h3 HV2 j0 j1
    unfold r01
    go_wp2
    go_ret
    exact ⟨rfl, H3.out⟩
set_option maxHeartbeats 1000000 in
theorem rcmp1_spec {W w : World} {A : Assn} (n d : Int) (h : Sat W w A) :
    Calls Tryz.prog 80 #[.agg #[.int .i64 n, .int .i64 d], .agg #[.int .i64 1, .int .i64 1]] w fun e w' => ∃ ev : Int, e = .returned (.tuple #[.int .i64 (cmp1 n d), .int .i64 ev]) ∧ Sat W w' A := by
  have h1 := (h.alloc (.cells #[.int .i64 n, .int .i64 d] 27)).alloc (.cells #[.int .i64 1, .int .i64 1] 27)
  rw [World.size_alloc] at h1
  obtain ⟨B, hB⟩ : ∃ B, B = w.heap.size := ⟨_, rfl⟩
  obtain ⟨w1, hw1⟩ : ∃ z, z = (w.alloc (.cells #[.int .i64 n, .int .i64 d] 27)).alloc (.cells #[.int .i64 1, .int .i64 1] 27) := ⟨_, rfl⟩
  rw [← hB, ← hw1] at h1
  have HB := Lib.hid (And.intro hB hw1)
  obtain ⟨j0, j1, -, -⟩ := rt2 h1
  obtain ⟨k0, k1, -, -⟩ := rt2 h1.p1
  have HV := Lib.hid (rboth1_spec n d h1)
  obtain ⟨o, ho⟩ : ∃ o, o = okR ⟨n, d⟩ := ⟨_, rfl⟩
  obtain ⟨cv, hcv⟩ : ∃ z, z = cmp1 n d := ⟨_, rfl⟩
  have hcv2 : cv = if o = true then (if n < d then -1 else if d < n then 1 else 0) else 0 := by rw [hcv, ho]; rfl
  have HL1 : Hid (o = true → ∀ w' A', Sat W w' A' → Calls Tryz.prog 104 #[.agg #[.int .i64 n, .int .i64 d], .agg #[.int .i64 1, .int .i64 1]] w' fun e w'' => e = .returned (.bool (decide (n < d))) ∧ Sat W w'' A') := Lib.hid fun e w' A' h' => by
    rw [← ltR_1]; exact rless_spec ⟨n, d⟩ ⟨1, 1⟩ (okR_spec (by rw [← ho]; exact e)).1 (okR_spec okR_11).1 h'
  have HL2 : Hid (o = true → ∀ w' A', Sat W w' A' → Calls Tryz.prog 104 #[.agg #[.int .i64 1, .int .i64 1], .agg #[.int .i64 n, .int .i64 d]] w' fun e w'' => e = .returned (.bool (decide (d < n))) ∧ Sat W w'' A') := Lib.hid fun e w' A' h' => by
    rw [← ltR_1']; exact rless_spec ⟨1, 1⟩ ⟨n, d⟩ (okR_spec okR_11).1 (okR_spec (by rw [← ho]; exact e)).1 h'
  rw [← ho] at HV
  rw [← hcv]
  have HCV := Lib.hid hcv2
  obtain ⟨Po, hPo⟩ : ∃ P : Ending → World → Prop, P = fun e w' => ∃ ev : Int, e = .returned (.tuple #[.int .i64 cv, .int .i64 ev]) ∧ Sat W w' A := ⟨_, rfl⟩
  rw [← hPo]
  have HPO := Lib.hid hPo
  clear h h1 hB hw1 ho hcv hcv2 hPo
  cases o with
  | false =>
    go_enter Tryz.func80, Tryz.ntmps80
    go_upto_region 1 with (fail)
    simp only [← HB.out.1]
    rw [← HB.out.2]
    go_wp2_with fail
    refine HV.out.mono ?_
    rintro e w2 ⟨rfl, h2⟩
    have H2 := Lib.hid h2.drop.drop
    clear h2 HV j0 j1 k0 k1 HL1 HL2
    unfold r01
    go_wp2
    rw [HPO.out]
    exact ⟨1, by rw [HCV.out]; rfl, H2.out⟩
  | true =>
    go_enter Tryz.func80, Tryz.ntmps80
    go_upto_region 1 with (fail)
    simp only [← HB.out.1]
    rw [← HB.out.2]
    go_wp2_with fail
    refine HV.out.mono ?_
    rintro e w2 ⟨rfl, h2⟩
    clear j0 j1 k0 k1
    obtain ⟨j0, j1, -, -⟩ := rt2 h2
    obtain ⟨k0, k1, -, -⟩ := rt2 h2.p1
    have H2 := Lib.hid h2
    clear h2 HV
    unfold r01
    go_wp2_with fail
    refine (HL1.out (by first | rfl | trivial) _ _ H2.out).mono ?_
    rintro e w3 ⟨rfl, h3⟩
    clear j0 j1 k0 k1
    obtain ⟨j0, j1, -, -⟩ := rt2 h3
    obtain ⟨k0, k1, -, -⟩ := rt2 h3.p1
    have H3 := Lib.hid h3
    clear h3 H2 HL1
    by_cases c1 : n < d
    · have HF := Lib.hid H3.out.drop.drop
      have HC : Hid (cv = -1) := Lib.hid (by rw [HCV.out]; simp [c1])
      clear HL2
      go_wp2
      rw [HPO.out]
      exact ⟨0, by rw [HC.out]; rfl, HF.out⟩
    · go_wp2_with fail
      refine (HL2.out (by first | rfl | trivial) _ _ H3.out).mono ?_
      rintro e w4 ⟨rfl, h4⟩
      have HF := Lib.hid h4.drop.drop
      clear h4 H3 j0 j1 k0 k1
      by_cases c2 : d < n
      · have HC : Hid (cv = 1) := Lib.hid (by rw [HCV.out]; simp only [if_true]; rw [if_neg (by omega), if_pos c2])
        go_wp2
        rw [HPO.out]
        exact ⟨0, by rw [HC.out]; rfl, HF.out⟩
      · have HC : Hid (cv = 0) := Lib.hid (by rw [HCV.out]; simp only [if_true]; rw [if_neg (by omega), if_neg (by omega)])
        go_wp2
        rw [HPO.out]
        exact ⟨0, by rw [HC.out]; rfl, HF.out⟩
theorem listed18_spec {W w : World} {A : Assn} {I : Mem} (a : Option Addr) (n c : Nat) (l : List Cl) (hv : (rCl.slice 5).rel I [.slice a n c] l) (hB : ∀ x ∈ l, x.body.size ≤ FmB) (h : Sat W w (sep (kn I) A)) :
    Calls Tryz.prog 79 #[.slice a n c] w fun e w' => e = .returned (.bool (listedP l)) ∧ Sat W w' (sep (kn I) A) := by
  have hn := (slice_len hv).1
  have hl63 := (slice_len hv).2.2
  have HV := Lib.hid (r11valid_spec a n c l hv hB h)
  obtain ⟨ce, hce⟩ : ∃ z, z = clE l := ⟨_, rfl⟩
  obtain ⟨rv, hrv⟩ : ∃ z, z = listedP l := ⟨_, rfl⟩
  have hrv2 : rv = (decide (0 < n) && decide (ce = 0)) := by rw [hrv, hn, hce]; rfl
  rw [← hce] at HV
  rw [← hrv]
  have HRV := Lib.hid hrv2
  have H := Lib.hid h
  clear hv hB h hn hce hrv hrv2
  by_cases h0 : 0 < n
  · have h0z : (0 : Int) < (n : Int) := by omega
    go_enter Tryz.func79, Tryz.ntmps79
    go_wp2_with fail
    refine HV.out.mono ?_
    rintro e w2 ⟨rfl, h2⟩
    have H2 := Lib.hid h2
    clear h2 HV
    go_wp2
    go_ret
    exact ⟨by rw [HRV.out, decide_eq_true h0]; rfl, H2.out⟩
  · have h0z : n = 0 := by omega
    subst h0z
    go_enter Tryz.func79, Tryz.ntmps79
    go_wp2
    go_ret
    exact ⟨by rw [HRV.out]; rfl, H.out⟩
end Go.Proofs.YtodipneapffjdaaGreatDoor
/- The reference's filing of acts. -/
namespace PA
open Go Go.RowKit
/-- Sizes of an act's formulas. -/
structure SzA (x : Pa) : Prop where
  td : ∀ f ∈ x.td, f.size ≤ Go.Proofs.YtodipneapffjdaaGreatDoor.FmB
  tc : ∀ c ∈ x.tc, c.body.size ≤ Go.Proofs.YtodipneapffjdaaGreatDoor.FmB
  cl : ∀ c ∈ x.cl, c.body.size ≤ Go.Proofs.YtodipneapffjdaaGreatDoor.FmB
  fx : x.fx.size ≤ Go.Proofs.YtodipneapffjdaaGreatDoor.FmB
theorem ea_elem {I : Mem} {a : Option Addr} {n c : Nat} {l : List Ea} (h : (rEa.slice 2).rel I [.slice a n c] l) {i : Nat} {x : Ea} (hx : l[i]? = some x) :
    ∃ b o, a = some ⟨b, o, none⟩ ∧ ∀ w', Ext I w' → w'.cell? ⟨b, o + i * 2, none⟩ = some (.int .i64 x.file) ∧ w'.cell? ⟨b, o + i * 2 + 1, none⟩ = some (.int .i64 x.day) := by
  obtain ⟨b, o, cs, rfl, hr, -, hc⟩ := slice_elemv h hx (by omega)
  have e : cs = [.int .i64 x.file, .int .i64 x.day] := hr
  subst e
  exact ⟨b, o, rfl, fun w' he => ⟨hc w' he 0 _ rfl, hc w' he 1 _ rfl⟩⟩
theorem eaAt_eq {f : Int} {l : List Ea} {j : Nat} {e : Ea} (h : l[j]? = some e) : eaAt f l j = (inRv e.file 0 4095 && (decide (e.file ≠ f) && (inRv e.day 0 131072 && !((l.take j).any fun g => decide (g.file = e.file))))) := by
  unfold eaAt; rw [h]
theorem any_take {l : List Ea} {k : Nat} {g : Ea} {p : Ea → Bool} (h : l[k]? = some g) : (l.take (k + 1)).any p = ((l.take k).any p || p g) := by
  rw [List.take_add_one, h, List.any_append]; simp
end PA
namespace Go.Proofs.YtodipneapffjdaaGreatDoor
open Go.RowKit PA
attribute [local go_sem ↓] storeAt_act loadAt_act sizeAct
set_option maxRecDepth 100000 in
set_option maxHeartbeats 8000000 in
theorem filing18_spec {W w : World} {A : Assn} {I : Mem} (z : Ac) (x : Pa) (hA : IsA I z x) (hz : SzA x) (h : Sat W w (sep (kn I) A)) :
    Calls Tryz.prog 78 #[.agg z.cells.toArray] w fun e w' => ∃ J, e = .returned (.bool (filingP x)) ∧ Mem.le I J ∧ Sat W w' (sep (kn J) A) := by
  have h1 := (h.alloc (.cells z.cells.toArray 37)).p1
  obtain ⟨B, hB⟩ : ∃ B, B = w.heap.size := ⟨_, rfl⟩
  obtain ⟨w1, hw1⟩ : ∃ y, y = w.alloc (.cells z.cells.toArray 37) := ⟨_, rfl⟩
  rw [← hB, ← hw1] at h1
  have HB := Lib.hid (And.intro hB hw1)
  obtain ⟨b1, hb1⟩ : ∃ b, b = inRv z.o 0 11 := ⟨_, rfl⟩
  obtain ⟨b2, hb2⟩ : ∃ b, b = inRv z.p 1 4095 := ⟨_, rfl⟩
  obtain ⟨b3, hb3⟩ : ∃ b, b = inRv z.q (-1) 4095 := ⟨_, rfl⟩
  obtain ⟨te, hte⟩ : ∃ y, y = txE x.td x.tc := ⟨_, rfl⟩
  obtain ⟨ne, hne⟩ : ∃ y, y = z.ea.n := ⟨_, rfl⟩
  obtain ⟨rv, hrv⟩ : ∃ y, y = filingP x := ⟨_, rfl⟩
  have hnel : ne = x.ea.length := by rw [hne]; exact (slice_len hA.ea).1
  have hrv2 : rv = if b1 = false ∨ b2 = false ∨ b3 = false ∨ z.q = z.f ∨ 8 < ne ∨ te ≠ 0 then false else eaTo z.f x.ea x.ea.length := by
    rw [hrv, hb1, hb2, hb3, hte, hnel, hA.o, hA.p, hA.q, hA.f]; rfl
  have HRV := Lib.hid hrv2
  have C1 : Hid (∀ w', Calls Tryz.prog 52 #[.int .i64 z.o, .int .i64 0, .int .i64 11] w' fun e w'' => e = .returned (.bool b1) ∧ w' = w'') := Lib.hid fun w' => by rw [hb1]; exact within18_spec _ _ _ w'
  have C2 : Hid (∀ w', Calls Tryz.prog 52 #[.int .i64 z.p, .int .i64 1, .int .i64 4095] w' fun e w'' => e = .returned (.bool b2) ∧ w' = w'') := Lib.hid fun w' => by rw [hb2]; exact within18_spec _ _ _ w'
  have C3 : Hid (∀ w', Calls Tryz.prog 52 #[.int .i64 z.q, .int .i64 (-1), .int .i64 4095] w' fun e w'' => e = .returned (.bool b3) ∧ w' = w'') := Lib.hid fun w' => by rw [hb3]; exact within18_spec _ _ _ w'
  have C4 : Hid (∀ w' A', Sat W w' (sep (kn I) A') → Calls Tryz.prog 56 #[.agg #[.slice z.td.a z.td.n z.td.c, .slice z.tc.a z.tc.n z.tc.c]] w' fun e w'' => ∃ J, e = .returned (.int .i64 te) ∧ Mem.le I J ∧ Sat W w'' (sep (kn J) A')) := Lib.hid fun w' A' h' => by
    rw [hte]; exact r12valid_spec z.td.a z.td.n z.td.c z.tc.a z.tc.n z.tc.c x.td x.tc hA.td hA.tc hz.td hz.tc h'
  have HEA := Lib.hid (And.intro hA.ea hnel)
  have k3 := (act_fr h1.p1 3 _ rfl).1
  have k4 := (act_fr h1.p1 4 _ rfl).1
  have k5 := (act_fr h1.p1 5 _ rfl).1
  have k6 := (act_fr h1.p1 6 _ rfl).1
  have k11 := (act_fr h1.p1 11 _ rfl).1
  have k12 := (act_fr h1.p1 12 _ rfl).1
  have k14 := (act_fr h1.p1 14 _ rfl).1
  have ne63 : (ne : Int) ≤ 9223372036854775807 := by rw [hne]; exact (slice_len hA.ea).2.2
  have k14' : w1.cell? ⟨B, 14, none⟩ = some (.slice z.ea.a ne z.ea.c) := by rw [hne]; exact k14
  have HNE := Lib.hid hne
  have H1 := Lib.hid h1
  rw [← hrv]
  obtain ⟨Po, hPo⟩ : ∃ P : Ending → World → Prop, P = fun e w' => ∃ J, e = .returned (.bool rv) ∧ Mem.le I J ∧ Sat W w' (sep (kn J) A) := ⟨_, rfl⟩
  rw [← hPo]
  have HPO := Lib.hid hPo
  clear hA hz h h1 hB hw1 hb1 hb2 hb3 hte hne hrv hrv2 hnel k14 hPo
  go_enter Tryz.func78, Tryz.ntmps78
  go_upto_region 1 with (fail)
  rw [← HB.out.1, ← HB.out.2]
  go_cut [40] from 6 (fun v wx => ∃ (bb : Bool) (J : Mem), v = .bool bb ∧ Hid (bb = true ↔ (b1 = false ∨ b2 = false ∨ b3 = false ∨ z.q = z.f ∨ 8 < ne ∨ te ≠ 0)) ∧ Mem.le I J ∧ Sat W wx (sep (kn J) (sep (blk B (.cells z.cells.toArray 37 (0, 0))) A)))
  case first =>
    /-DEV1-/
    as_aux_lemma =>
    cases b1 with
    | false =>
      go_wp2_with fail
      refine (C1.out _).mono ?_
      rintro e w2 ⟨rfl, rfl⟩
      go_wp2
      go_meet
      case rel => exact ⟨true, I, rfl, Lib.hid (by simp), Mem.le_refl _, H1.out⟩
    | true =>
      cases b2 with
      | false =>
        go_wp2_with fail
        refine (C1.out _).mono ?_
        rintro e w2 ⟨rfl, rfl⟩
        go_wp2_with fail
        refine (C2.out _).mono ?_
        rintro e w2 ⟨rfl, rfl⟩
        go_wp2
        go_meet
        case rel => exact ⟨true, I, rfl, Lib.hid (by simp), Mem.le_refl _, H1.out⟩
      | true =>
        cases b3 with
        | false =>
          go_wp2_with fail
          refine (C1.out _).mono ?_
          rintro e w2 ⟨rfl, rfl⟩
          go_wp2_with fail
          refine (C2.out _).mono ?_
          rintro e w2 ⟨rfl, rfl⟩
          go_wp2_with fail
          refine (C3.out _).mono ?_
          rintro e w2 ⟨rfl, rfl⟩
          go_wp2
          go_meet
          case rel => exact ⟨true, I, rfl, Lib.hid (by simp), Mem.le_refl _, H1.out⟩
        | true =>
          by_cases c4 : z.q = z.f
          · have c4' : (z.q == z.f) = true := by simpa using c4
            have HC4 := Lib.hid c4
            clear c4
            go_wp2_with fail
            refine (C1.out _).mono ?_
            rintro e w2 ⟨rfl, rfl⟩
            go_wp2_with fail
            refine (C2.out _).mono ?_
            rintro e w2 ⟨rfl, rfl⟩
            go_wp2_with fail
            refine (C3.out _).mono ?_
            rintro e w2 ⟨rfl, rfl⟩
            go_wp2
            go_meet
            case rel => exact ⟨true, I, rfl, Lib.hid (by simp [HC4.out]), Mem.le_refl _, H1.out⟩
          · have c4' : (z.q == z.f) = false := by simpa using c4
            have HC4 := Lib.hid c4
            clear c4
            by_cases c5 : 8 < ne
            · have c5' : (8 : Int) < (ne : Int) := by omega
              have HC5 := Lib.hid c5
              clear c5
              go_wp2_with fail
              refine (C1.out _).mono ?_
              rintro e w2 ⟨rfl, rfl⟩
              go_wp2_with fail
              refine (C2.out _).mono ?_
              rintro e w2 ⟨rfl, rfl⟩
              go_wp2_with fail
              refine (C3.out _).mono ?_
              rintro e w2 ⟨rfl, rfl⟩
              go_wp2
              go_meet
              case rel => exact ⟨true, I, rfl, Lib.hid (by simp [HC5.out]), Mem.le_refl _, H1.out⟩
            · have c5' : ¬ (8 : Int) < (ne : Int) := by omega
              have HC5 := Lib.hid c5
              clear c5
              go_wp2_with fail
              refine (C1.out _).mono ?_
              rintro e w2 ⟨rfl, rfl⟩
              go_wp2_with fail
              refine (C2.out _).mono ?_
              rintro e w2 ⟨rfl, rfl⟩
              go_wp2_with fail
              refine (C3.out _).mono ?_
              rintro e w2 ⟨rfl, rfl⟩
              go_wp2_with fail
              refine (C4.out _ _ H1.out).mono ?_
              rintro e w2 ⟨J, rfl, hle, h2⟩
              have H2 := Lib.hid (And.intro hle h2)
              clear hle h2 H1 k3 k4 k5 k6 k11 k12 k14'
              go_wp2
              go_meet
              case rel => exact ⟨_, J, rfl, Lib.hid (by simp [HC4.out, HC5.out]; intro hh; exact absurd hh (Int.not_lt.2 c5')), H2.out.1, H2.out.2⟩
    /-VED1-/
  case rest =>
    /-DEV2-/
    as_aux_lemma =>
    obtain ⟨bb, J, rfl, HBB, hle, h2⟩ := hcut
    have H2 := Lib.hid h2
    have HLE := Lib.hid hle
    clear k3 k4 k5 k6 k11 k12 k14' h2 hle H1 C1 C2 C3 C4
    cases bb with
    | true =>
      have HF : Hid (rv = false) := Lib.hid (by rw [HRV.out, if_pos (HBB.out.1 (by first | rfl | trivial))])
      have HF2 := Lib.hid H2.out.p1.drop
      clear H2
      go_wp2
      rw [HPO.out]
      exact ⟨J, (by rw [HF.out]; try rfl), HLE.out, HF2.out⟩
    | false =>
      have HRV2 : Hid (rv = eaTo z.f x.ea ne) := Lib.hid (by
        have hn : ¬ (b1 = false ∨ b2 = false ∨ b3 = false ∨ z.q = z.f ∨ 8 < ne ∨ te ≠ 0) := fun e => by have := HBB.out.2 e; simp at this
        rw [HRV.out, if_neg hn, ← HEA.out.2])
      have ne8 : (ne : Int) ≤ 8 := by
        have hn : ¬ 8 < ne := fun e => by have := HBB.out.2 (.inr (.inr (.inr (.inr (.inl e))))); simp at this
        omega
      clear HRV HBB
      go_wp2_with fail
      go_loopw [3] (fun iv wr => ∃ (i : Nat), iv = .int .i64 i ∧ i ≤ ne ∧ Hid (eaTo z.f x.ea i = true) ∧ Sat W wr (sep (kn J) (sep (blk B (.cells z.cells.toArray 37 (0, 0))) A))) (fun iv _ => ne - (intOf iv).toNat)
      case atStart => exact ⟨0, rfl, by omega, Lib.hid rfl, H2.out⟩
      case round =>
        obtain ⟨i, rfl, hi, HT, hS⟩ := hrel
        have k14' : wr.cell? ⟨B, 14, none⟩ = some (.slice z.ea.a ne z.ea.c) := by rw [HNE.out]; exact (act_fr hS.p1 14 _ rfl).1
        by_cases hlt : i < ne
        · have hltz : (i : Int) < (ne : Int) := by omega
          obtain ⟨ev, hev⟩ : ∃ ev, x.ea[i]? = some ev := ⟨_, List.getElem?_eq_getElem (by have := HEA.out.2; omega)⟩
          obtain ⟨b, o, hab, hcell⟩ := ea_elem HEA.out.1 hev
          rw [hab] at k14'
          obtain ⟨j0, j1⟩ := hcell wr (fun i o hb => hS.ext i o (HLE.out i o hb))
          have ne' : wr.cell? ⟨B, 3, none⟩ = some (.int .i64 z.f) := (act_fr hS.p1 3 _ rfl).1
          have he0 := hS.alloc (.cells #[.int .i64 ev.file, .int .i64 ev.day] 62)
          obtain ⟨G, hG⟩ : ∃ G, G = wr.heap.size := ⟨_, rfl⟩
          rw [← hG] at he0
          obtain ⟨we, hwe⟩ : ∃ y, y = wr.alloc (.cells #[.int .i64 ev.file, .int .i64 ev.day] 62) := ⟨_, rfl⟩
          have he2 : Sat W we (sep (blk G (.cells #[.int .i64 ev.file, .int .i64 ev.day] 62)) (sep (kn J) (sep (blk B (.cells z.cells.toArray 37 (0, 0))) A))) := by rw [hwe]; exact he0
          have HE := Lib.hid (And.intro hG hwe)
          have H3 := Lib.hid he2
          have HBAD : Hid (eaAt z.f x.ea i = false → rv = false) := Lib.hid fun e => by rw [HRV2.out]; exact eaTo_bad hlt e
          have HAT := Lib.hid (eaAt_eq (f := z.f) hev)
          have HI := Lib.hid (And.intro hlt hev)
          obtain ⟨b1, hb1⟩ : ∃ b, b = inRv ev.file 0 4095 := ⟨_, rfl⟩
          obtain ⟨b2, hb2⟩ : ∃ b, b = inRv ev.day 0 131072 := ⟨_, rfl⟩
          have C1 : Hid (∀ w', Calls Tryz.prog 52 #[.int .i64 ev.file, .int .i64 0, .int .i64 4095] w' fun e w'' => e = .returned (.bool b1) ∧ w' = w'') := Lib.hid fun w' => by rw [hb1]; exact within18_spec _ _ _ w'
          have C2 : Hid (∀ w', Calls Tryz.prog 52 #[.int .i64 ev.day, .int .i64 0, .int .i64 131072] w' fun e w'' => e = .returned (.bool b2) ∧ w' = w'') := Lib.hid fun w' => by rw [hb2]; exact within18_spec _ _ _ w'
          rw [← hb1, ← hb2] at HAT
          clear hG hwe he0 he2 hlt hev hb1 hb2 hcell hS H2 hi
          go_upto_region 7 with (fail)
          simp only [← HE.out.1]
          rw [← HE.out.2]
          have e0 : we.cell? ⟨G, 0, none⟩ = some (.int .i64 ev.file) := by rw [H3.out.cell 0]; rfl
          have e1 : we.cell? ⟨G, 1, none⟩ = some (.int .i64 ev.day) := by rw [H3.out.cell 1]; rfl
          have f3 : we.cell? ⟨B, 3, none⟩ = some (.int .i64 z.f) := (act_fr H3.out.p2 3 _ rfl).1
          have HFR := Lib.hid H3.out.drop.p1.drop
          clear ne' j0 j1 k14'
          cases b1 with
          | false =>
            have HF : Hid (rv = false) := Lib.hid (HBAD.out (by rw [HAT.out]; rfl))
            go_wp2_with fail
            refine (C1.out _).mono ?_
            rintro e w2 ⟨rfl, rfl⟩
            clear e0 e1 f3
            go_wp2
            rw [HPO.out]
            exact ⟨J, (by rw [HF.out]; try rfl), HLE.out, HFR.out⟩
          | true =>
            by_cases c4 : ev.file = z.f
            · have c4' : (ev.file == z.f) = true := by simpa using c4
              have HF : Hid (rv = false) := Lib.hid (HBAD.out (by rw [HAT.out]; simp [c4]))
              clear c4
              go_wp2_with fail
              refine (C1.out _).mono ?_
              rintro e w2 ⟨rfl, rfl⟩
              go_wp2
              rw [HPO.out]
              exact ⟨J, (by rw [HF.out]; try rfl), HLE.out, HFR.out⟩
            · have c4' : (ev.file == z.f) = false := by simpa using c4
              have HC4 := Lib.hid c4
              clear c4
              cases b2 with
              | false =>
                have HF : Hid (rv = false) := Lib.hid (HBAD.out (by rw [HAT.out]; simp))
                go_wp2_with fail
                refine (C1.out _).mono ?_
                rintro e w2 ⟨rfl, rfl⟩
                go_wp2_with fail
                refine (C2.out _).mono ?_
                rintro e w2 ⟨rfl, rfl⟩
                clear e0 e1 f3
                go_wp2
                rw [HPO.out]
                exact ⟨J, (by rw [HF.out]; try rfl), HLE.out, HFR.out⟩
              | true =>
                go_wp2_with fail
                refine (C1.out _).mono ?_
                rintro e w2 ⟨rfl, rfl⟩
                go_wp2_with fail
                refine (C2.out _).mono ?_
                rintro e w2 ⟨rfl, rfl⟩
                clear e0 e1 f3 C1 C2 c4'
                go_wp2_with fail
                go_loopw [5] (fun kv wr => ∃ (k : Nat), kv = .int .i64 k ∧ k ≤ i ∧ Hid (((x.ea.take k).any fun g => decide (g.file = ev.file)) = false) ∧ Sat W wr (sep (blk G (.cells #[.int .i64 ev.file, .int .i64 ev.day] 62)) (sep (kn J) (sep (blk B (.cells z.cells.toArray 37 (0, 0))) A)))) (fun kv _ => i - (intOf kv).toNat)
                case atStart => exact ⟨0, rfl, by omega, Lib.hid rfl, H3.out⟩
                case round =>
                  obtain ⟨k, rfl, hk, HK, hS⟩ := hrel
                  by_cases hki : k < i
                  · have hkz : (k : Int) < (i : Int) := by omega
                    have hkn : (k : Int) < (ne : Int) := by omega
                    have hk0 : (0 : Int) ≤ (k : Int) := by omega
                    obtain ⟨gv, hgv⟩ : ∃ gv, x.ea[k]? = some gv := ⟨_, List.getElem?_eq_getElem (by have := HEA.out.2; have := HI.out.1; omega)⟩
                    obtain ⟨b', o', hab', hcell⟩ := ea_elem HEA.out.1 hgv
                    rw [hab] at hab'
                    cases hab'
                    have hd := hS.drew
                    obtain ⟨j0, j1⟩ := hcell wr.drew (fun i o hb => hd.p1.ext i o (HLE.out i o hb))
                    have e0 : wr.drew.cell? ⟨G, 0, none⟩ = some (.int .i64 ev.file) := by rw [hd.cell 0]; rfl
                    have k14' : wr.drew.cell? ⟨B, 14, none⟩ = some (.slice (some ⟨b, o, none⟩) ne z.ea.c) := by rw [HNE.out, ← hab]; exact (act_fr hd.p2 14 _ rfl).1
                    have HD := Lib.hid hd
                    have HKI := Lib.hid (And.intro hki hgv)
                    clear hS hd hgv hki hk hcell H3
                    by_cases c5 : gv.file = ev.file
                    · have c5' : (gv.file == ev.file) = true := by simpa using c5
                      have HF : Hid (rv = false) := Lib.hid (HBAD.out (by
                        have : ((x.ea.take i).any fun g => decide (g.file = ev.file)) = true := List.any_eq_true.2 ⟨gv, List.mem_iff_getElem?.2 ⟨k, by rw [List.getElem?_take_of_lt HKI.out.1]; exact HKI.out.2⟩, by simpa using c5⟩
                        rw [HAT.out, this]; simp))
                      have HF2 := Lib.hid HD.out.drop.p1.drop
                      clear c5
                      go_upto_region 12 with (fail)
                      refine wp_region_canon rfl (fun _ => True) [(0, .p), (1, .t), (2, .p), (3, .p), (4, .p), (5, .t), (6, .p), (7, .t), (8, .p)] (by kernel_rfl) ?_
                      have hS0 : True := trivial
                      (repeat ((first | (refine C_p (v := ?_) rfl rfl (fun w' => ?_) ?_; rotate_left; (go_simp; with_reducible rfl)) | (refine C_s (v := ?_) rfl rfl hS0 (fun w' hS => ?_) ?_; rotate_left; ((try dsimp only at hS); go_simp; with_reducible rfl)) | (refine C_t (v := ?_) rfl rfl ?_ ?_; rotate_left; (go_simp; with_reducible rfl)) | (refine C_po rfl rfl ?_) | (refine C_so rfl rfl hS0 ?_) | (refine C_to rfl rfl ?_)); simp only [Act.put, List.setIfInBounds_toArray, List.set_cons_zero, List.set_cons_succ]))
                      refine C_nil ?_
                      clear j0 j1 e0 k14'
                      go_wp2
                      rw [HPO.out]
                      exact ⟨J, (by rw [HF.out]; try rfl), HLE.out, HF2.out⟩
                    · have c5' : (gv.file == ev.file) = false := by simpa using c5
                      have HC5 := Lib.hid c5
                      clear c5
                      go_upto_region 12 with (fail)
                      refine wp_region_canon rfl (fun _ => True) [(0, .p), (1, .t), (2, .p), (3, .p), (4, .p), (5, .t), (6, .p), (7, .t), (8, .p)] (by kernel_rfl) ?_
                      have hS0 : True := trivial
                      (repeat ((first | (refine C_p (v := ?_) rfl rfl (fun w' => ?_) ?_; rotate_left; (go_simp; with_reducible rfl)) | (refine C_s (v := ?_) rfl rfl hS0 (fun w' hS => ?_) ?_; rotate_left; ((try dsimp only at hS); go_simp; with_reducible rfl)) | (refine C_t (v := ?_) rfl rfl ?_ ?_; rotate_left; (go_simp; with_reducible rfl)) | (refine C_po rfl rfl ?_) | (refine C_so rfl rfl hS0 ?_) | (refine C_to rfl rfl ?_)); simp only [Act.put, List.setIfInBounds_toArray, List.set_cons_zero, List.set_cons_succ]))
                      refine C_nil ?_
                      clear j0 j1 e0 k14'
                      go_wp2
                      go_roundw
                      case rel => exact ⟨k + 1, by go_num, by have := HKI.out.1; omega, Lib.hid (by rw [any_take HKI.out.2, HK.out]; simpa using HC5.out), HD.out⟩
                      case measure => simp [intOf]; have := HKI.out.1; omega
                  · obtain rfl : k = i := by omega
                    have HT2 : Hid (eaTo z.f x.ea (k + 1) = true) := Lib.hid (by
                      rw [eaTo_succ, HT.out, HAT.out, HK.out]; simpa using HC4.out)
                    have HF2 := Lib.hid hS.drop
                    have HI2 := Lib.hid HI.out.1
                    clear hS H3 HI HFR hki hk
                    go_wp2
                    go_roundw
                    case rel => exact ⟨k + 1, by go_num, by have := HI2.out; omega, HT2, HF2.out⟩
                    case measure => simp [intOf]; have := HI2.out; omega
        · obtain rfl : i = ne := by omega
          have HF : Hid (rv = true) := Lib.hid (by rw [HRV2.out]; exact HT.out)
          have HF2 := Lib.hid hS.p1.drop
          clear hS H2
          go_wp2
          rw [HPO.out]
          exact ⟨J, (by rw [HF.out]; try rfl), HLE.out, HF2.out⟩
    /-VED2-/
end Go.Proofs.YtodipneapffjdaaGreatDoor
