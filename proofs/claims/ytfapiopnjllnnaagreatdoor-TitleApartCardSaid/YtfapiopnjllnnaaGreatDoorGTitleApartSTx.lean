/- Package title: Chain (no error), the walk. -/
import Derived.Test.YtfapiopnjllnnaaGreatDoorGTitleApartSTv
import Derived.Test.YtfapiopnjllnnaaGreatDoorGTitleApart25
namespace Go.Proofs.YtfapiopnjllnnaaGreatDoor
open Go.RowKit PA
attribute [local go_sem] Oper.semAt_some
attribute [local go_sem ↓] sizeStep
/-- One step backward: who leads to the party, and the indices so far. -/
def chS (st : (Int → Bool) × List Int) (s : Nat × Ac) : (Int → Bool) × List Int := if st.1 s.2.q = true then (fun k => decide (k = s.2.p) || st.1 k, st.2 ++ [(s.1 : Int)]) else st
def chT (party : Int) (ys : List (Nat × (Nat × Ac))) : (Int → Bool) × List Int := (ys.map (·.2)).foldl chS (fun k => decide (k = party), [])
theorem chT_snoc (party : Int) (pre : List (Nat × (Nat × Ac))) (y : Nat × (Nat × Ac)) : chT party (pre ++ [y]) = chS (chT party pre) y.2 := by
  unfold chT
  rw [List.map_append, List.foldl_append]; rfl
theorem chS_len (st : (Int → Bool) × List Int) (s : Nat × Ac) : (chS st s).2.length ≤ st.2.length + 1 := by
  unfold chS
  split
  · simp
  · omega
theorem chT_len (party : Int) (ys : List (Nat × (Nat × Ac))) : (chT party ys).2.length ≤ ys.length := by
  have key : ∀ (l : List (Nat × Ac)) (st : (Int → Bool) × List Int), (l.foldl chS st).2.length ≤ st.2.length + l.length := by
    intro l
    induction l with
    | nil => intro st; simp
    | cons x l ih =>
      intro st
      rw [List.foldl_cons, List.length_cons]
      have := ih (chS st x)
      have := chS_len st x
      omega
  have := key (ys.map (·.2)) (fun k => decide (k = party), [])
  unfold chT
  simpa using this
def ldV (f : Int → Bool) : Int → Option Value := fun k => if f k = true then some (.bool true) else none
theorem ldV_set (f : Int → Bool) (p : Int) : fset (ldV f) p (some (.bool true)) = ldV (fun k => decide (k = p) || f k) := by
  funext x
  unfold fset ldV
  by_cases e : x = p
  · simp [e]
  · simp [e]
theorem ldV_one (party : Int) : fset (fun _ => none) party (some (.bool true)) = ldV (fun k => decide (k = party)) := by
  funext x
  unfold fset ldV
  by_cases e : x = party
  · simp [e]
  · simp [e]
theorem zeroBoolT (w : World) : (zeroValue 4).run Tryz.prog w = .ok (.bool false) w := by kernel_rfl
/-- What the loop holds. -/
def chC (L O mm : Nat) (party : Int) (ys : List (Nat × (Nat × Ac))) : Assn := ex fun q : Nat × Option Addr × Nat => sep (blk L (.cells #[.map (some mm)] 104 (0, 0))) (sep (bmap mm (ldV (chT party ys).1) q.1) (sep (blk O (.cells #[.slice q.2.1 (chT party ys).2.length q.2.2] 22 (0, 0))) (osl 3 1 q.2.1 (chT party ys).2.length q.2.2 ((chT party ys).2.map iv))))
theorem chC_open {W w : World} {A : Assn} {L O mm : Nat} {party : Int} {ys : List (Nat × (Nat × Ac))} (h : Sat W w (sep (chC L O mm party ys) A)) : ∃ nf oa oc, Sat W w (sep (blk L (.cells #[.map (some mm)] 104 (0, 0))) (sep (bmap mm (ldV (chT party ys).1) nf) (sep (blk O (.cells #[.slice oa (chT party ys).2.length oc] 22 (0, 0))) (sep (osl 3 1 oa (chT party ys).2.length oc ((chT party ys).2.map iv)) A)))) := by
  rw [chC, ex_sep, Sat.ex] at h
  obtain ⟨⟨nf, oa, oc⟩, h⟩ := h
  simp only [sep_assoc] at h
  exact ⟨nf, oa, oc, h⟩
theorem chC_mk {W w : World} {A : Assn} {L O mm : Nat} {party : Int} {ys : List (Nat × (Nat × Ac))} {nf : Nat} {oa : Option Addr} {oc : Nat} (h : Sat W w (sep (blk L (.cells #[.map (some mm)] 104 (0, 0))) (sep (bmap mm (ldV (chT party ys).1) nf) (sep (blk O (.cells #[.slice oa (chT party ys).2.length oc] 22 (0, 0))) (sep (osl 3 1 oa (chT party ys).2.length oc ((chT party ys).2.map iv)) A))))) : Sat W w (sep (chC L O mm party ys) A) := by
  rw [chC, ex_sep, Sat.ex]
  exact ⟨(nf, oa, oc), by simp only [sep_assoc]; exact h⟩
theorem step_st {W w : World} {A : Assn} {q : Nat} {cur : Array Value} (hs : cur.size = 20) (h : Sat W w (sep (blk q (.cells cur 102 (0, 0))) A)) (s : Nat × Ac) :
    ∃ w', Sem.run Tryz.prog (storeCells ⟨q, 0, none⟩ (stepC s) 0) w = .ok () w' ∧ Sat W w' (sep (blk q (.cells (stepC s).toArray 102 (0, 0))) A) := by
  have hst := run_storeCells_at Tryz.prog q 0 102 (stepC s) 0 cur w h.blk_heap (by show 0 + 0 + 20 ≤ _; omega) (stepC_one s)
  refine ⟨_, hst, ?_⟩
  have h2 := h.setRow (cur.toList.take (0 + 0) ++ stepC s ++ cur.toList.drop (0 + 0 + (stepC s).length)).toArray
  have e : cur.toList.take (0 + 0) ++ stepC s ++ cur.toList.drop (0 + 0 + (stepC s).length) = stepC s := by
    have hd : cur.toList.drop (0 + 0 + (stepC s).length) = [] := List.drop_eq_nil_of_le (by rw [Array.length_toList, hs]; show 20 ≤ 0 + 0 + 20; omega)
    rw [hd, List.append_nil]; rfl
  rw [e] at h2 ⊢
  exact h2
theorem walkD_len (file fday day : Int) : ∀ (l : List Ac) (i : Nat) (S : Shs) (s : List (Nat × Ac)), (walkT file fday day evD i l S s).2.length ≤ s.length + l.length
  | [], _, _, _ => by simp [walkT]
  | x :: l, i, S, s => by
    rw [walkT, List.length_cons]
    split
    · have h1 := walkD_len file fday day l (i + 1) (PA.stepT S x).1 (evD s i x (PA.stepT S x).2)
      have h2 : (evD s i x (PA.stepT S x).2).length ≤ s.length + 1 := by
        unfold evD
        split
        · simp
        · omega
      omega
    · have h1 := walkD_len file fday day l (i + 1) S s
      omega
/-- The transfers that have effect. -/
def doneT (file day : Int) (f : Ac) (xs : List Ac) : List (Nat × Ac) := (walkT file f.d day evD 0 (sortK xs) (first1 f.p) []).2
def chainT (file day party : Int) (f : Ac) (xs : List Ac) : List Int := ((doneT file day f xs).reverse.foldl chS (fun k => decide (k = party), [])).2.reverse
theorem doneT_len (file day : Int) (f : Ac) (xs : List Ac) : (doneT file day f xs).length ≤ xs.length := by
  have := walkD_len file f.d day (sortK xs) 0 (first1 f.p) []
  rw [sortK_len] at this
  unfold doneT
  simpa using this
set_option maxRecDepth 100000 in
set_option maxHeartbeats 8000000 in
theorem chain_ok {W w : World} {A : Assn} {I : Mem} (file day party : Int) (f : Ac) (b : Addr) (n c : Nat) (xs : List Ac) (hn : xs.length = n) (h0 : 0 < n) (h40 : n < 40) (hD : xs.Pairwise KeyNe) (hfine : ActsFine xs) (hw : Swf (some b) n c) (hc : cellsAt (some b) (acs xs) I)
    (hf : filedT file (sortK xs) = some f) (hr : titleErr file day (sortK xs) = 0) (hp : (shareP (finT file day f xs) party).n ≠ 0) (h : Sat W w (sep (kn I) A)) :
    Calls Tryz.prog 29 #[.int .i64 file, .int .i64 day, .int .i64 party, .slice (some b) n c] w fun e w' => ∃ a c' J, e = .returned (.tuple #[.slice a (chainT file day party f xs).length c', .int .i64 0]) ∧ Mem.le I J ∧ Sat W w' (sep (osl 3 1 a (chainT file day party f xs).length c' ((chainT file day party f xs).map iv)) (sep (kn J) A)) := by
  have hmf : ∀ (fn : Fn) (first cap : Array Value) (w : World), (Instr.makeFunc fn first cap).run Tryz.prog w = .ok (.func fn first cap) w := fun _ _ _ _ => rfl
  have eg : ∀ args w, (callFunc 46 args).run Tryz.prog w = .ok (.enter 46 args) w := enters_of Tryz.func46 (by kernel_rfl) rfl
  obtain ⟨V, hV⟩ : ∃ V, V = w.heap.size := ⟨_, rfl⟩
  obtain ⟨w1, hw1⟩ : ∃ w1, w1 = w.alloc (.cells #[.slice none 0 0] 100) := ⟨_, rfl⟩
  have h1 : Sat W w1 (sep (capD V []) (sep (kn I) A)) := by
    rw [hw1, hV]
    exact capD_mk (a := none) (c := 0) ((h.osl_nil 102 20).alloc (.cells #[.slice none 0 0] 100))
  have hwk := Lib.hid (walkFn_spec (fun s => capD V s) evD [] 46 #[.pointer (some ⟨V, 0, none⟩)] eg (fun k s => s.length ≤ k) (Nat.zero_le _) (fun k s x dn hk => evD_len hk) (fun k s hk => by omega)
    (fun s i x dn pt w B q1 q2 q3 => chain1_spec V s i x dn pt q1 q2 q3) file day f b n c xs hn h0 h40 hD hfine hw hc hf hr h1.p1)
  have hRl := doneT_len file day f xs
  obtain ⟨R, hR⟩ : ∃ R, R = doneT file day f xs := ⟨_, rfl⟩
  obtain ⟨S, hS⟩ : ∃ S, S = finT file day f xs := ⟨_, rfl⟩
  have eS : (walkT file f.d day evD 0 (sortK xs) (first1 f.p) []).1 = S := by rw [hS]; exact walkT_fst _ _ _ _ _ _ _ _ _ _ _
  rw [eS, show (walkT file f.d day evD 0 (sortK xs) (first1 f.p) []).2 = R from hR.symm] at hwk
  have hOut : chainT file day party f xs = (R.reverse.foldl chS (fun k => decide (k = party), [])).2.reverse := by rw [hR]; rfl
  rw [← hS] at hp
  rw [← hR] at hRl
  have HOUT := Lib.hid hOut
  have HRL : Hid (R.length < 40) := Lib.hid (by omega)
  have HV := Lib.hid hV
  have HW1 := Lib.hid hw1
  obtain ⟨CT, hCT⟩ : ∃ CT, CT = chainT file day party f xs := ⟨_, rfl⟩
  rw [← hCT] at HOUT ⊢
  clear hn h0 h40 hD hfine hw hc hf hr h h1 hV hw1 hR hS eg eS hOut hRl hCT
  refine (callsIn_wide (n := 5)).1 ?_
  refine callsIn_of_wp_marks Tryz.func29 rfl trivial ?_ rfl
  simp only [Tryz.ntmps29, List.size_toArray, List.length_cons, List.length_nil, Nat.reduceAdd, Nat.reduceSub, Array.replicate_succ, Array.replicate_zero, List.push_toArray, List.append_toArray, List.nil_append, List.cons_append]
  refine wpIn_wide.2 ?_
  go_upto_region 2 with (fail)
  rw [← HV.out, ← HW1.out]
  go_wp2_with fail
  refine hwk.out.mono ?_
  rintro e w2 ⟨p, J, rfl, hle, h2⟩
  have HLE := Lib.hid hle
  have HSH := Lib.hid (share_spec party (show Sat W w2 (sep (isT p f.p S) (sep (kn J) (sep (capD V R) A))) from h2))
  obtain ⟨⟨sn, sd⟩, hsh⟩ : ∃ r, r = shareP S party := ⟨_, rfl⟩
  rw [← hsh] at HSH hp
  dsimp only at hp
  have hpz : (sn == 0) = false := by simpa using hp
  have rtField0 : ∀ (u v : Int) (w : World), (Instr.field 44 (.agg #[.int .i64 u, .int .i64 v]) 0).run Tryz.prog w = .ok (.int .i64 u) w := fun u v w => by kernel_rfl
  clear hwk hle h2 hsh hp
  go_wp2_with fail
  refine HSH.out.mono ?_
  rintro e w3 ⟨rfl, h3⟩
  obtain ⟨a, c', h4⟩ := capD_open (show Sat W w3 (sep (capD V R) (sep (kn J) A)) from h3.drop.p1)
  obtain ⟨m, hm⟩ : ∃ m, m = R.length := ⟨_, rfl⟩
  rw [← hm] at h4
  have HM := Lib.hid hm
  have hm40 : m ≤ 40 := by have := HRL.out; omega
  clear HSH h3 hm
  have hmm := @run_makeMap Tryz.prog
  obtain ⟨mm, hmmd⟩ : ∃ mm, mm = w3.heap.size := ⟨_, rfl⟩
  obtain ⟨w4, hw4⟩ : ∃ w4, w4 = w3.alloc (.map #[] 0) := ⟨_, rfl⟩
  have h5 := h4.bmap_new
  rw [← hmmd, ← hw4] at h5
  obtain ⟨w5, n5, hup, -, h6⟩ := run_update_bmap (P := Tryz.prog) (T := 104) Tryz.underlying104 Tryz.underlying3 h5 party (.bool true)
  rw [ldV_one] at h6
  have h7 := h6.alloc (.cells #[.map (some mm)] 104)
  obtain ⟨L, hL⟩ : ∃ L, L = w5.heap.size := ⟨_, rfl⟩
  obtain ⟨w6, hw6⟩ : ∃ w6, w6 = w5.alloc (.cells #[.map (some mm)] 104) := ⟨_, rfl⟩
  rw [← hL, ← hw6] at h7
  have h8 := (h7.osl_nil 3 1).alloc (.cells #[.slice none 0 0] 22)
  obtain ⟨O, hO⟩ : ∃ O, O = w6.heap.size := ⟨_, rfl⟩
  obtain ⟨w7, hw7⟩ : ∃ w7, w7 = w6.alloc (.cells #[.slice none 0 0] 22) := ⟨_, rfl⟩
  rw [← hO, ← hw7] at h8
  have v0 : w7.cell? ⟨V, 0, none⟩ = some (.slice a m c') := h8.p4.cell 0
  have HBK := Lib.hid (backSteps_spec a m c' w7)
  have h9 := h8.alloc (.cells #[.slice a m c'] 100)
  obtain ⟨Bs, hBs⟩ : ∃ Bs, Bs = w7.heap.size := ⟨_, rfl⟩
  obtain ⟨w8, hw8⟩ : ∃ w8, w8 = w7.alloc (.cells #[.slice a m c'] 100) := ⟨_, rfl⟩
  rw [← hBs, ← hw8] at h9 HBK
  obtain ⟨AA, hAA⟩ : ∃ AA, AA = sep (blk V (.cells #[.slice a m c'] 100 (0, 0))) (sep (kn J) A) := ⟨_, rfl⟩
  have h10 : Sat W w8 (sep (chC L O mm party []) (sep (blk Bs (.cells #[.slice a m c'] 100 (0, 0))) (sep (osl 102 20 a m c' (stsC R)) AA))) := by
    refine chC_mk (nf := n5) (oa := none) (oc := 0) ?_
    rw [hAA]
    have : Sat W w8 (sep (blk L (.cells #[.map (some mm)] 104 (0, 0))) (sep (bmap mm (ldV fun k => decide (k = party)) n5) (sep (blk O (.cells #[.slice none 0 0] 22 (0, 0))) (sep (osl 3 1 none 0 0 []) (sep (blk Bs (.cells #[.slice a m c'] 100 (0, 0))) (sep (osl 102 20 a m c' (stsC R)) (sep (blk V (.cells #[.slice a m c'] 100 (0, 0))) (sep (kn J) A)))))))) := by
      simpa only [sep_comm, sep_lcomm, sep_assoc] using h9
    exact this
  have H10 := Lib.hid h10
  have HN := Lib.hid (And.intro hmmd (And.intro hL (And.intro hw6 (And.intro hO (And.intro hw7 hAA)))))
  rw [hmmd, hw4] at hup
  clear h4 h5 h6 h7 h8 h9 h10 hw4 hL hw6 hO hw7 hBs hw8 hAA hmmd
  go_upto_region 8 with (fail)
  rw [← HN.out.1, ← HN.out.2.1, ← HN.out.2.2.1]
  clear hup hmm
  go_upto_region 9 with (fail)
  rw [← HN.out.2.2.2.1, ← HN.out.2.2.2.2.1]
  go_wp2_with fail
  refine HBK.out.mono ?_
  rintro e w9 ⟨rfl, rfl⟩
  have eg2 := enters_of (P := Tryz.prog) Tryz.func71 (by kernel_rfl) rfl
  clear HBK v0 hmf rtField0
  go_wp2_with fail
  refine (wpIn_wide (n := 5)).1 ?_
  refine wpIn_range3 (F := Fence.wide) (W := W) rfl (by omega) (gf := 71) (lb := #[.pointer (some ⟨Bs, 0, none⟩)]) rfl trivial eg2 (encs := encY) (fun _ => rfl) (back1_gives (A := AA) (5 - 1) (by omega) Bs a m c' R HM.out.symm hm40)
    (fun ys => chC L O mm party ys) H10.out
    (fun y g t => ((t.setIfInBounds 38 (.int .i64 y.1)).setIfInBounds 39 (.agg (stepC y.2).toArray)).setIfInBounds 16 (.pointer (some ⟨g, 0, none⟩)))
    (fun pre y g => sep (blk g (.cells (stepC y.2).toArray 102 (0, 0))) (chC L O mm party pre)) ?assign ?body ?done
  case assign =>
   as_aux_lemma =>
    /-DEV1-/
    intro lp pre y w' B K hlen hS hK
    simp only [List.setIfInBounds_toArray, List.set_cons_zero, List.set_cons_succ] at hK
    have h1 : Sat W w' (sep (chC L O mm party pre) B) := by
      unfold noY at hS
      rw [emp_sep] at hS
      exact hS
    obtain ⟨w10, s1, h11⟩ := step_st (cur := #[.int .i64 0, .int .i64 0, .int .i64 0, .int .i64 0, .int .i64 0, .int .i64 0, .int .i64 0, .int .i64 0, .int .i64 0, .int .i64 0, .int .i64 0, .int .i64 0, .slice none 0 0, .slice none 0 0, .slice none 0 0, .slice none 0 0, .int .i64 0, .int .i64 0, .slice none 0 0, .slice none 0 0]) rfl (h1.alloc (.cells #[.int .i64 0, .int .i64 0, .int .i64 0, .int .i64 0, .int .i64 0, .int .i64 0, .int .i64 0, .int .i64 0, .int .i64 0, .int .i64 0, .int .i64 0, .int .i64 0, .slice none 0 0, .slice none 0 0, .slice none 0 0, .slice none 0 0, .int .i64 0, .int .i64 0, .slice none 0 0, .slice none 0 0] 102)) y.2
    have h5 := hK _ w10 (by rw [sep_assoc]; exact h11)
    have H5 := Lib.hid h5
    clear hK hS h1 h11 h5 H10
    dsimp only [encY] at *
    gi_wp2_with fail
    exact H5.out
    /-VED1-/
  case body =>
   as_aux_lemma =>
    /-DEV2-/
    intro lp pre y g w' B hlen hS
    obtain ⟨ix, ⟨si, x⟩⟩ := y
    simp only [List.setIfInBounds_toArray, List.set_cons_zero, List.set_cons_succ]
    rw [sep_assoc] at hS
    obtain ⟨nf, oa, oc, h1⟩ := chC_open (show Sat W w' (sep (chC L O mm party pre) (sep (blk g (.cells (stepC (si, x)).toArray 102 (0, 0))) B)) from hS.p1)
    have hl41 := chT_len party pre
    obtain ⟨st, hst⟩ : ∃ st, st = chT party pre := ⟨_, rfl⟩
    rw [← hst] at h1 hl41
    obtain ⟨ld, out⟩ := st
    dsimp only at h1 hl41
    obtain ⟨ol, hol⟩ : ∃ ol, ol = out.length := ⟨_, rfl⟩
    rw [← hol] at h1 hl41
    have hol41 : ol ≤ 41 := by omega
    have L0 : w'.cell? ⟨L, 0, none⟩ = some (.map (some mm)) := h1.cell 0
    have q0 : w'.cell? ⟨g, 7, none⟩ = some (.int .i64 x.q) := h1.p4.cell 7
    have hlk := run_lookup_bmap (P := Tryz.prog) (T := 104) Tryz.underlying104 Tryz.underlying3 zeroBoolT h1.p1 x.q false
    have HST := Lib.hid hst
    have HOL := Lib.hid hol
    by_cases hq : ld x.q = true
    · have hlk2 : (Instr.lookup 104 (.map (some mm)) (.int .i64 x.q) false).run Tryz.prog w' = .ok (.bool true) w' := by
        rw [hlk]; unfold ldV; rw [if_pos hq]; rfl
      have p0 : w'.cell? ⟨g, 6, none⟩ = some (.int .i64 x.p) := h1.p4.cell 6
      obtain ⟨w2, n2, hup, -, h2⟩ := run_update_bmap (P := Tryz.prog) (T := 104) Tryz.underlying104 Tryz.underlying3 h1.p1 x.p (.bool true)
      rw [ldV_set] at h2
      have i0 : w2.cell? ⟨g, 0, none⟩ = some (.int .i64 si) := h2.p4.cell 0
      have o0 : w2.cell? ⟨O, 0, none⟩ = some (.slice oa ol oc) := h2.p2.cell 0
      have h3 := (h2.alloc (.cells #[.int .i64 si] 3)).p4
      have HSRC := Lib.hid (new_src w2 [.int .i64 si] 3)
      have H3 := Lib.hid h3
      have hsn : chT party (pre ++ [(ix, (si, x))]) = (fun k => decide (k = x.p) || ld k, out ++ [(si : Int)]) := by
        rw [chT_snoc, ← HST.out]
        unfold chS
        rw [if_pos hq]
      have HSN := Lib.hid hsn
      clear hS h1 hlk h2 h3 hst hol hq hsn H10 hl41 HST
      gi_wp2_with (gi_at_builtin; refine wpli_append_osl rfl (.tmp 49) (.tmp 52) 22 rfl 3 1 8 (.int .i64 0) Tryz.underlying22 infoInt rfl rfl H3.out rfl [.int .i64 si] rfl (by simp) (by intro b' hb; cases hb; exact HSRC.out) (by simp [Value.oneCell']) (by omega) (by unfold maxLen; omega) ?_)
      intro oa2 oc2 w4 h4
      have h5 := h4.p4
      have hf := h5.unfrozen 0
      have hc0 : w4.cell? ⟨O, 0, none⟩ = some (.slice oa ol oc) := h5.cell 0
      have H6 := Lib.hid (h5.setCell 0 (.slice oa2 (ol + 1) oc2))
      clear h4 h5 H3 HSRC hlk2 L0 q0 p0 hup i0 o0
      gi_wp2_with fail
      show Sat W _ _
      have hl2 : (out ++ [(si : Int)]).length = ol + 1 := by rw [List.length_append, ← HOL.out]; rfl
      refine chC_mk (nf := n2) (oa := oa2) (oc := oc2) ?_
      rw [HSN.out]
      dsimp only
      rw [hl2, List.map_append]
      have h7 : Sat W (w4.setCell ⟨O, 0, none⟩ (.slice oa2 (ol + 1) oc2)) (sep (blk O (.cells #[.slice oa2 (ol + 1) oc2] 22 (0, 0))) (sep (osl 3 1 oa2 (ol + 1) oc2 (out.map iv ++ [.int .i64 si])) (sep (blk w2.heap.size (.cells #[.int .i64 si] 3)) (sep (bmap mm (ldV fun k => decide (k = x.p) || ld k) n2) (sep (blk L (.cells #[.map (some mm)] 104 (0, 0))) (sep (blk g (.cells (stepC (si, x)).toArray 102 (0, 0))) B)))))) := H6.out
      have h8 := h7.p2.drop.p4.drop
      have : Sat W (w4.setCell ⟨O, 0, none⟩ (.slice oa2 (ol + 1) oc2)) (sep (blk O (.cells #[.slice oa2 (ol + 1) oc2] 22 (0, 0))) (sep (osl 3 1 oa2 (ol + 1) oc2 (out.map iv ++ [.int .i64 si])) (sep (bmap mm (ldV fun k => decide (k = x.p) || ld k) n2) (sep (blk L (.cells #[.map (some mm)] 104 (0, 0))) B)))) := by
        simpa only [sep_comm, sep_lcomm, sep_assoc] using h8
      show Sat W (w4.setCell ⟨O, 0, none⟩ (.slice oa2 (ol + 1) oc2)) (sep (blk L (.cells #[.map (some mm)] 104 (0, 0))) (sep (bmap mm (ldV fun k => decide (k = x.p) || ld k) n2) (sep (blk O (.cells #[.slice oa2 (ol + 1) oc2] 22 (0, 0))) (sep (osl 3 1 oa2 (ol + 1) oc2 (out.map iv ++ [.int .i64 si])) B))))
      simpa only [sep_comm, sep_lcomm, sep_assoc] using this
    · have hlk2 : (Instr.lookup 104 (.map (some mm)) (.int .i64 x.q) false).run Tryz.prog w' = .ok (.bool false) w' := by
        rw [hlk]; unfold ldV; rw [if_neg hq]; rfl
      have hsn : chT party (pre ++ [(ix, (si, x))]) = (ld, out) := by
        rw [chT_snoc, ← HST.out]
        unfold chS
        rw [if_neg hq]
      have HSN := Lib.hid hsn
      have H1 := Lib.hid h1
      clear hS h1 hlk hst hol hq hsn H10 hl41 HST
      gi_wp2_with fail
      show Sat W _ _
      refine chC_mk (nf := nf) (oa := oa) (oc := oc) ?_
      rw [HSN.out]
      dsimp only
      rw [← HOL.out]
      have h8 := H1.out.p4.drop
      exact h8
    /-VED2-/
  case done =>
   as_aux_lemma =>
    /-DEV3-/
    intro D ys w' hys hS
    subst hys
    obtain ⟨nf, oa, oc, h1⟩ := chC_open (show Sat W w' (sep (chC L O mm party (backP R R.length)) (sep (blk D (.deferred (some []))) (sep (osl 102 20 a m c' (stsC R)) AA))) from hS.p1)
    have hl41 := chT_len party (backP R R.length)
    obtain ⟨st, hst⟩ : ∃ st, st = chT party (backP R R.length) := ⟨_, rfl⟩
    have hst2 : st = R.reverse.foldl chS (fun k => decide (k = party), []) := by rw [hst]; unfold chT; rw [backP_all]
    rw [← hst] at h1 hl41
    obtain ⟨ld, out⟩ := st
    dsimp only at h1 hl41
    have hct : CT = out.reverse := by rw [HOUT.out, ← hst2]
    have hl40 : out.length ≤ 40 := by
      have : (backP R R.length).length = R.length := by simp [backP]
      have := HM.out
      omega
    obtain ⟨ol, hol⟩ : ∃ ol, ol = out.length := ⟨_, rfl⟩
    rw [← hol] at h1 hl40
    have o0 : w'.cell? ⟨O, 0, none⟩ = some (.slice oa ol oc) := h1.p2.cell 0
    have hrev := reverse_spec oa ol oc out hol.symm (by omega) h1.p3
    rw [← hct] at hrev
    have hcl : ol = CT.length := by rw [hct, List.length_reverse, hol]
    have HREV := Lib.hid hrev
    have HCL := Lib.hid hcl
    clear hS h1 hl41 hst hst2 hct hol hrev hcl H10
    go_wp2_with fail
    refine HREV.out.mono ?_
    rintro e w10 ⟨rfl, h2⟩
    have o1 : w10.cell? ⟨O, 0, none⟩ = some (.slice oa ol oc) := h2.p3.cell 0
    have H2 := Lib.hid h2
    clear HREV o0 h2
    go_wp2_with fail
    have hD := H2.out.p4.blk_heap
    have h8 := H2.out.p4.putObj (.deferred none)
    refine ⟨by simp, .inl ⟨_, _, rfl, run_takeDeferred hD, ?_⟩⟩
    refine ⟨.tuple #[.slice oa ol oc, .int .i64 0], ?_, ?_⟩
    · simp [results, Tryz.results29, go_sem]
    · refine ⟨oa, oc, J, by rw [← HCL.out], HLE.out, ?_⟩
      rw [← HCL.out]
      have h9 := h8.drop
      rw [HN.out.2.2.2.2.2] at h9
      have h10 : Sat W (w10.putObj D (.deferred none)) (sep (osl 3 1 oa ol oc (CT.map iv)) (sep (blk L (.cells #[.map (some mm)] 104 (0, 0))) (sep (bmap mm (ldV ld) nf) (sep (blk O (.cells #[.slice oa ol oc] 22 (0, 0))) (sep (osl 102 20 a m c' (stsC R)) (sep (blk V (.cells #[.slice a m c'] 100 (0, 0))) (sep (kn J) A))))))) := h9
      have h11 := h10.p1.drop.p1.drop.p1.drop.p1.drop.p1.drop
      exact h11
    /-VED3-/
end Go.Proofs.YtfapiopnjllnnaaGreatDoor
