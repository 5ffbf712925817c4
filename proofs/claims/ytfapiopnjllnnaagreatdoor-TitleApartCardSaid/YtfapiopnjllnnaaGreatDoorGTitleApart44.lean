/- Package title: Owners, Failed, Licences, Chain of a file that has no title. -/
import Derived.Test.YtfapiopnjllnnaaGreatDoorGTitleApartSUe
namespace Go.Proofs.YtfapiopnjllnnaaGreatDoor
open Go.RowKit PA
theorem owners_err {W w : World} {A : Assn} {I : Mem} (file day : Int) (v : Value) (xs : List Ac) (hD : xs.Pairwise KeyNe) (h40 : xs.length < 40) (hv : ActL I v xs) (hr : titleErr file day (sortK xs) ≠ 0) (h : Sat W w (sep (kn I) A)) :
    Calls Tryz.prog 16 #[.int .i64 file, .int .i64 day, v] w fun e w' => e = .returned (.tuple #[.slice none 0 0, .int .i64 (titleErr file day (sortK xs))]) ∧ ∃ J, Mem.le I J ∧ Sat W w' (sep (kn J) A) := by
  have hwe := walk_err file day v .nilFunc xs hD h40 hv hr h
  have h57 := titleErr_57 file day (sortK xs)
  obtain ⟨er, her⟩ : ∃ er, er = titleErr file day (sortK xs) := ⟨_, rfl⟩
  rw [← her] at h57 hr hwe ⊢
  have hc : er = 5 ∨ er = 7 := by omega
  have HWE := Lib.hid hwe
  clear hwe her h57 hr hD h40 hv h
  rcases hc with rfl | rfl
  · go_enter Tryz.func16, Tryz.ntmps16
    go_wp2_with fail
    refine HWE.out.mono ?_
    rintro e w2 ⟨rfl, J, hle, h2⟩
    have H2 := Lib.hid (And.intro hle h2)
    clear hle h2 HWE
    go_wp2
    exact bodyPost_ret (v := .tuple #[.slice none 0 0, .int .i64 5]) (by simp [results, Tryz.results16, go_sem]) rfl ⟨rfl, J, H2.out.1, H2.out.2⟩
  · go_enter Tryz.func16, Tryz.ntmps16
    go_wp2_with fail
    refine HWE.out.mono ?_
    rintro e w2 ⟨rfl, J, hle, h2⟩
    have H2 := Lib.hid (And.intro hle h2)
    clear hle h2 HWE
    go_wp2
    exact bodyPost_ret (v := .tuple #[.slice none 0 0, .int .i64 7]) (by simp [results, Tryz.results16, go_sem]) rfl ⟨rfl, J, H2.out.1, H2.out.2⟩
theorem failed_err {W w : World} {A : Assn} {I : Mem} (file : Int) (v : Value) (xs : List Ac) (hD : xs.Pairwise KeyNe) (h40 : xs.length < 40) (hv : ActL I v xs) (hr : titleErr file 131072 (sortK xs) ≠ 0) (h : Sat W w (sep (kn I) A)) :
    Calls Tryz.prog 13 #[.int .i64 file, v] w fun e w' => e = .returned (.tuple #[.slice none 0 0, .int .i64 (titleErr file 131072 (sortK xs))]) ∧ ∃ J, Mem.le I J ∧ Sat W w' (sep (kn J) A) := by
  have hmf : ∀ (fn : Fn) (first cap : Array Value) (w : World), (Instr.makeFunc fn first cap).run Tryz.prog w = .ok (.func fn first cap) w := fun _ _ _ _ => rfl
  have h1 := h.alloc (.cells #[.slice none 0 0] 22)
  obtain ⟨V, hV⟩ : ∃ V, V = w.heap.size := ⟨_, rfl⟩
  obtain ⟨w1, hw1⟩ : ∃ w1, w1 = w.alloc (.cells #[.slice none 0 0] 22) := ⟨_, rfl⟩
  rw [← hV, ← hw1] at h1
  have hwe := walk_err file 131072 v (.func (.func 34) #[] #[.pointer (some ⟨V, 0, none⟩)]) xs hD h40 hv hr h1.p1
  have h57 := titleErr_57 file 131072 (sortK xs)
  obtain ⟨er, her⟩ : ∃ er, er = titleErr file 131072 (sortK xs) := ⟨_, rfl⟩
  rw [← her] at h57 hr hwe ⊢
  have hc : er = 5 ∨ er = 7 := by omega
  have HWE := Lib.hid hwe
  have HV := Lib.hid hV
  have HW1 := Lib.hid hw1
  clear hwe her h57 hr hD h40 hv h h1 hV hw1
  rcases hc with rfl | rfl
  · go_enter Tryz.func13, Tryz.ntmps13
    go_upto_region 2 with (fail)
    rw [← HV.out, ← HW1.out]
    go_wp2_with fail
    refine HWE.out.mono ?_
    rintro e w2 ⟨rfl, J, hle, h2⟩
    have c0 : w2.cell? ⟨V, 0, none⟩ = some (.slice none 0 0) := h2.p1.cell 0
    have H2 := Lib.hid (And.intro hle h2.p1.forget)
    clear hle h2 HWE
    go_wp2
    exact bodyPost_ret (v := .tuple #[.slice none 0 0, .int .i64 5]) (by simp [results, Tryz.results13, go_sem]) rfl ⟨rfl, J, H2.out.1, H2.out.2⟩
  · go_enter Tryz.func13, Tryz.ntmps13
    go_upto_region 2 with (fail)
    rw [← HV.out, ← HW1.out]
    go_wp2_with fail
    refine HWE.out.mono ?_
    rintro e w2 ⟨rfl, J, hle, h2⟩
    have c0 : w2.cell? ⟨V, 0, none⟩ = some (.slice none 0 0) := h2.p1.cell 0
    have H2 := Lib.hid (And.intro hle h2.p1.forget)
    clear hle h2 HWE
    go_wp2
    exact bodyPost_ret (v := .tuple #[.slice none 0 0, .int .i64 7]) (by simp [results, Tryz.results13, go_sem]) rfl ⟨rfl, J, H2.out.1, H2.out.2⟩
theorem licences_err {W w : World} {A : Assn} {I : Mem} (file day : Int) (v : Value) (xs : List Ac) (hD : xs.Pairwise KeyNe) (h40 : xs.length < 40) (hv : ActL I v xs) (hr : titleErr file day (sortK xs) ≠ 0) (h : Sat W w (sep (kn I) A)) :
    Calls Tryz.prog 25 #[.int .i64 file, .int .i64 day, v] w fun e w' => e = .returned (.tuple #[.slice none 0 0, .int .i64 (titleErr file day (sortK xs))]) ∧ ∃ J, Mem.le I J ∧ Sat W w' (sep (kn J) A) := by
  have hmf : ∀ (fn : Fn) (first cap : Array Value) (w : World), (Instr.makeFunc fn first cap).run Tryz.prog w = .ok (.func fn first cap) w := fun _ _ _ _ => rfl
  obtain ⟨D, hD'⟩ : ∃ D, D = w.heap.size := ⟨_, rfl⟩
  obtain ⟨w0, hw0⟩ : ∃ w0, w0 = w.alloc (.cells #[.int .i64 day] 3) := ⟨_, rfl⟩
  have h0' := h.alloc (.cells #[.int .i64 day] 3)
  rw [← hw0, ← hD'] at h0'
  obtain ⟨V, hV⟩ : ∃ V, V = w0.heap.size := ⟨_, rfl⟩
  obtain ⟨w1, hw1⟩ : ∃ w1, w1 = w0.alloc (.cells #[.slice none 0 0] 61) := ⟨_, rfl⟩
  have h1 := h0'.alloc (.cells #[.slice none 0 0] 61)
  rw [← hV, ← hw1] at h1
  have c1 : w1.cell? ⟨D, 0, none⟩ = some (.int .i64 day) := h1.p1.cell 0
  have hwe := walk_err file day v (.func (.func 43) #[] #[.pointer (some ⟨D, 0, none⟩), .pointer (some ⟨V, 0, none⟩)]) xs hD h40 hv hr h1.p2
  have h57 := titleErr_57 file day (sortK xs)
  obtain ⟨er, her⟩ : ∃ er, er = titleErr file day (sortK xs) := ⟨_, rfl⟩
  rw [← her] at h57 hr hwe ⊢
  have hc : er = 5 ∨ er = 7 := by omega
  have HWE := Lib.hid hwe
  have HV := Lib.hid (And.intro hD' (And.intro hw0 (And.intro hV hw1)))
  clear hwe her h57 hr hD h40 hv h h1 hV hw1 hD' hw0 h0'
  rcases hc with rfl | rfl
  · go_enter Tryz.func25, Tryz.ntmps25
    go_upto_region 1 with (fail)
    rw [← HV.out.1, ← HV.out.2.1]
    go_upto_region 2 with (fail)
    rw [← HV.out.2.2.1, ← HV.out.2.2.2]
    go_wp2_with fail
    refine HWE.out.mono ?_
    rintro e w2 ⟨rfl, J, hle, h2⟩
    have c0 : w2.cell? ⟨V, 0, none⟩ = some (.slice none 0 0) := h2.p1.cell 0
    have H2 := Lib.hid (And.intro hle (show Sat W w2 (sep (kn J) _) from h2.p1.forget.p1.forget))
    clear hle h2 HWE c1
    go_wp2
    exact bodyPost_ret (v := .tuple #[.slice none 0 0, .int .i64 5]) (by simp [results, Tryz.results25, go_sem]) rfl ⟨rfl, J, H2.out.1, H2.out.2⟩
  · go_enter Tryz.func25, Tryz.ntmps25
    go_upto_region 1 with (fail)
    rw [← HV.out.1, ← HV.out.2.1]
    go_upto_region 2 with (fail)
    rw [← HV.out.2.2.1, ← HV.out.2.2.2]
    go_wp2_with fail
    refine HWE.out.mono ?_
    rintro e w2 ⟨rfl, J, hle, h2⟩
    have c0 : w2.cell? ⟨V, 0, none⟩ = some (.slice none 0 0) := h2.p1.cell 0
    have H2 := Lib.hid (And.intro hle (show Sat W w2 (sep (kn J) _) from h2.p1.forget.p1.forget))
    clear hle h2 HWE c1
    go_wp2
    exact bodyPost_ret (v := .tuple #[.slice none 0 0, .int .i64 7]) (by simp [results, Tryz.results25, go_sem]) rfl ⟨rfl, J, H2.out.1, H2.out.2⟩
theorem chain_err {W w : World} {A : Assn} {I : Mem} (file day party : Int) (v : Value) (xs : List Ac) (hD : xs.Pairwise KeyNe) (h40 : xs.length < 40) (hv : ActL I v xs) (hr : titleErr file day (sortK xs) ≠ 0) (h : Sat W w (sep (kn I) A)) :
    Calls Tryz.prog 29 #[.int .i64 file, .int .i64 day, .int .i64 party, v] w fun e w' => e = .returned (.tuple #[.slice none 0 0, .int .i64 (titleErr file day (sortK xs))]) ∧ ∃ J, Mem.le I J ∧ Sat W w' (sep (kn J) A) := by
  have hmf : ∀ (fn : Fn) (first cap : Array Value) (w : World), (Instr.makeFunc fn first cap).run Tryz.prog w = .ok (.func fn first cap) w := fun _ _ _ _ => rfl
  have h1 := h.alloc (.cells #[.slice none 0 0] 100)
  obtain ⟨V, hV⟩ : ∃ V, V = w.heap.size := ⟨_, rfl⟩
  obtain ⟨w1, hw1⟩ : ∃ w1, w1 = w.alloc (.cells #[.slice none 0 0] 100) := ⟨_, rfl⟩
  rw [← hV, ← hw1] at h1
  have hwe := walk_err file day v (.func (.func 46) #[] #[.pointer (some ⟨V, 0, none⟩)]) xs hD h40 hv hr h1.p1
  have h57 := titleErr_57 file day (sortK xs)
  obtain ⟨er, her⟩ : ∃ er, er = titleErr file day (sortK xs) := ⟨_, rfl⟩
  rw [← her] at h57 hr hwe ⊢
  have hc : er = 5 ∨ er = 7 := by omega
  have HWE := Lib.hid hwe
  have HV := Lib.hid hV
  have HW1 := Lib.hid hw1
  clear hwe her h57 hr hD h40 hv h h1 hV hw1
  rcases hc with rfl | rfl
  · go_enter Tryz.func29, Tryz.ntmps29
    go_upto_region 2 with (fail)
    rw [← HV.out, ← HW1.out]
    go_wp2_with fail
    refine HWE.out.mono ?_
    rintro e w2 ⟨rfl, J, hle, h2⟩
    have H2 := Lib.hid (And.intro hle h2.p1.forget)
    clear hle h2 HWE
    go_wp2
    exact bodyPost_ret (v := .tuple #[.slice none 0 0, .int .i64 5]) (by simp [results, Tryz.results29, go_sem]) rfl ⟨rfl, J, H2.out.1, H2.out.2⟩
  · go_enter Tryz.func29, Tryz.ntmps29
    go_upto_region 2 with (fail)
    rw [← HV.out, ← HW1.out]
    go_wp2_with fail
    refine HWE.out.mono ?_
    rintro e w2 ⟨rfl, J, hle, h2⟩
    have H2 := Lib.hid (And.intro hle h2.p1.forget)
    clear hle h2 HWE
    go_wp2
    exact bodyPost_ret (v := .tuple #[.slice none 0 0, .int .i64 7]) (by simp [results, Tryz.results29, go_sem]) rfl ⟨rfl, J, H2.out.1, H2.out.2⟩
set_option maxHeartbeats 8000000 in
theorem chain_none {W w : World} {A : Assn} {I : Mem} (file day party : Int) (f : Ac) (b : Addr) (n c : Nat) (xs : List Ac) (hn : xs.length = n) (h0 : 0 < n) (h40 : n < 40) (hD : xs.Pairwise KeyNe) (hfine : ActsFine xs) (hw : Swf (some b) n c) (hc : cellsAt (some b) (acs xs) I)
    (hf : filedT file (sortK xs) = some f) (hr : titleErr file day (sortK xs) = 0) (hp : (shareP (finT file day f xs) party).n = 0) (h : Sat W w (sep (kn I) A)) :
    Calls Tryz.prog 29 #[.int .i64 file, .int .i64 day, .int .i64 party, .slice (some b) n c] w fun e w' => e = .returned (.tuple #[.slice none 0 0, .int .i64 7]) ∧ ∃ J, Mem.le I J ∧ Sat W w' (sep (kn J) A) := by
  have hmf : ∀ (fn : Fn) (first cap : Array Value) (w : World), (Instr.makeFunc fn first cap).run Tryz.prog w = .ok (.func fn first cap) w := fun _ _ _ _ => rfl
  have eg : ∀ args w, (callFunc 46 args).run Tryz.prog w = .ok (.enter 46 args) w := enters_of Tryz.func46 (by kernel_rfl) rfl
  obtain ⟨V, hV⟩ : ∃ V, V = w.heap.size := ⟨_, rfl⟩
  obtain ⟨w1, hw1⟩ : ∃ w1, w1 = w.alloc (.cells #[.slice none 0 0] 100) := ⟨_, rfl⟩
  have h1 : Sat W w1 (sep (capD V []) (sep (kn I) A)) := by
    rw [hw1, hV]
    exact capD_mk (a := none) (c := 0) ((h.osl_nil 102 20).alloc (.cells #[.slice none 0 0] 100))
  have hwk := Lib.hid (walkFn_spec (fun s => capD V s) evD [] 46 #[.pointer (some ⟨V, 0, none⟩)] eg (fun k s => s.length ≤ k) (Nat.zero_le _) (fun k s x dn hk => evD_len hk) (fun k s hk => by omega)
    (fun s i x dn pt w B q1 q2 q3 => chain1_spec V s i x dn pt q1 q2 q3) file day f b n c xs hn h0 h40 hD hfine hw hc hf hr h1.p1)
  have hRl := doneT_len file day f xs
  obtain ⟨R, hR⟩ : ∃ R, R = doneT file day f xs := ⟨_, rfl⟩
  obtain ⟨S, hS⟩ : ∃ S, S = finT file day f xs := ⟨_, rfl⟩
  have eS : (walkT file f.d day evD 0 (sortK xs) (first1 f.p) []).1 = S := by rw [hS]; exact walkT_fst _ _ _ _ _ _ _ _ _ _ _
  rw [eS, show (walkT file f.d day evD 0 (sortK xs) (first1 f.p) []).2 = R from hR.symm] at hwk
  rw [← hS] at hp
  rw [← hR] at hRl
  have HRL : Hid (R.length < 40) := Lib.hid (by omega)
  have HV := Lib.hid hV
  have HW1 := Lib.hid hw1
  clear hn h0 h40 hD hfine hw hc hf hr h h1 hV hw1 hR hS eg eS hRl
  go_enter Tryz.func29, Tryz.ntmps29
  go_upto_region 2 with (fail)
  rw [← HV.out, ← HW1.out]
  go_wp2_with fail
  refine hwk.out.mono ?_
  rintro e w2 ⟨p, J, rfl, hle, h2⟩
  have HLE := Lib.hid hle
  have HSH := Lib.hid (share_spec party (show Sat W w2 (sep (isT p f.p S) (sep (kn J) (sep (capD V R) A))) from h2))
  obtain ⟨⟨sn, sd⟩, hsh⟩ : ∃ r, r = shareP S party := ⟨_, rfl⟩
  rw [← hsh] at HSH hp
  dsimp only at hp
  have hpz : (sn == 0) = true := by simpa using hp
  have rtField0 : ∀ (u v : Int) (w : World), (Instr.field 44 (.agg #[.int .i64 u, .int .i64 v]) 0).run Tryz.prog w = .ok (.int .i64 u) w := fun u v w => by kernel_rfl
  clear hwk hle h2 hsh hp
  go_wp2_with fail
  refine HSH.out.mono ?_
  rintro e w3 ⟨rfl, h3⟩
  have H3 := Lib.hid (show Sat W w3 (sep (kn J) A) from h3.drop.p1.drop)
  clear h3 HSH
  go_wp2
  exact bodyPost_ret (v := .tuple #[.slice none 0 0, .int .i64 7]) (by simp [results, Tryz.results29, go_sem]) rfl ⟨rfl, J, HLE.out, H3.out⟩
end Go.Proofs.YtfapiopnjllnnaaGreatDoor
/- Package title: Owners, Failed, Licences, Chain of any file and day, whether it has a title or not. -/
namespace Go.Proofs.YtfapiopnjllnnaaGreatDoor
open Go.RowKit PA
/-- Lists of acts that title's contracts serve. -/
structure TOk (xs : List Ac) : Prop where
  key : xs.Pairwise KeyNe
  fine : ActsFine xs
  len : xs.length < 40
  sup : ∀ file day f k, filedT file (sortK xs) = some f → (finT file day f xs k).isSome = true → 0 ≤ k ∧ k < (10001 : Nat)
def OwnR (file day : Int) (xs : List Ac) (own : List (Int × Rt)) : Prop := (titleErr file day (sortK xs) = 0 ∧ ∃ f, filedT file (sortK xs) = some f ∧ OwnOf (finT file day f xs) own) ∨ (titleErr file day (sortK xs) ≠ 0 ∧ own = [])
theorem filed_of_err {file day : Int} {ys : List Ac} (h : titleErr file day ys = 0) : ∃ f, filedT file ys = some f := by
  unfold titleErr at h
  split at h
  · cases h
  · cases hf : filedT file ys with
    | none => rw [hf] at h; cases h
    | some f => exact ⟨f, rfl⟩
def failR (file : Int) (xs : List Ac) : List Int := if titleErr file 131072 (sortK xs) = 0 then failT file ((filedT file (sortK xs)).getD Ac.zero) xs else []
def licR (file day : Int) (xs : List Ac) : List Hl := if titleErr file day (sortK xs) = 0 then licT file day ((filedT file (sortK xs)).getD Ac.zero) xs else []
def chnNo (file day party : Int) (xs : List Ac) : Prop := (shareP (finT file day ((filedT file (sortK xs)).getD Ac.zero) xs) party).n = 0
instance (file day party : Int) (xs : List Ac) : Decidable (chnNo file day party xs) := inferInstanceAs (Decidable (_ = _))
def chnE (file day party : Int) (xs : List Ac) : Int := if titleErr file day (sortK xs) ≠ 0 then titleErr file day (sortK xs) else if chnNo file day party xs then 7 else 0
def chnR (file day party : Int) (xs : List Ac) : List Int := if titleErr file day (sortK xs) ≠ 0 then [] else if chnNo file day party xs then [] else chainT file day party ((filedT file (sortK xs)).getD Ac.zero) xs
/-- An argument with something in it. -/
theorem actl_pos {I : Mem} {v : Value} {xs : List Ac} (hv : ActL I v xs) (h0 : 0 < xs.length) : ∃ (b : Addr) (c : Nat), v = .slice (some b) xs.length c ∧ Swf (some b) xs.length c ∧ cellsAt (some b) (acs xs) I := by
  obtain ⟨a, n, c, rfl, hn, hsw, hc⟩ := hv
  subst hn
  have hne : acs xs ≠ [] := fun e => by have := congrArg List.length e; rw [acs_len, List.length_nil] at this; omega
  obtain ⟨b, o, rfl, -⟩ := cells_ext hc hne
  exact ⟨_, c, rfl, hsw, hc⟩
theorem pos_of_filed {file : Int} {f : Ac} {xs : List Ac} (hf : filedT file (sortK xs) = some f) : 0 < xs.length := by
  rw [← sortK_len xs]
  unfold filedT at hf
  exact List.length_pos_of_mem (List.mem_of_find?_eq_some hf)
theorem owners_any {W w : World} {A : Assn} {I : Mem} (file day : Int) (v : Value) (xs : List Ac) (hx : TOk xs) (hv : ActL I v xs) (h : Sat W w (sep (kn I) A)) :
    Calls Tryz.prog 16 #[.int .i64 file, .int .i64 day, v] w fun e w' => ∃ own a c' J, e = .returned (.tuple #[.slice a own.length c', .int .i64 (titleErr file day (sortK xs))]) ∧ OwnR file day xs own ∧ Mem.le I J ∧ Sat W w' (sep (osl 46 3 a own.length c' (ownC own)) (sep (kn J) A)) := by
  by_cases hr : titleErr file day (sortK xs) = 0
  · obtain ⟨f, hf⟩ := filed_of_err hr
    obtain ⟨b, c, rfl, hsw, hc⟩ := actl_pos hv (pos_of_filed hf)
    refine (owners_ok file day f b _ c xs rfl (pos_of_filed hf) hx.len hx.key hx.fine hsw hc hf hr (fun k hk => hx.sup file day f k hf hk) h).mono ?_
    rintro e w' ⟨own, a, c', J, rfl, h1, h2, h3⟩
    exact ⟨own, a, c', J, by rw [hr], .inl ⟨hr, f, hf, h1⟩, h2, h3⟩
  · refine (owners_err file day v xs hx.key hx.len hv hr h).mono ?_
    rintro e w' ⟨rfl, J, h1, h2⟩
    exact ⟨[], none, 0, J, rfl, .inr ⟨hr, rfl⟩, h1, h2.osl_nil 46 3⟩
theorem failed_any {W w : World} {A : Assn} {I : Mem} (file : Int) (v : Value) (xs : List Ac) (hx : TOk xs) (hv : ActL I v xs) (h : Sat W w (sep (kn I) A)) :
    Calls Tryz.prog 13 #[.int .i64 file, v] w fun e w' => ∃ a c' J, e = .returned (.tuple #[.slice a (failR file xs).length c', .int .i64 (titleErr file 131072 (sortK xs))]) ∧ Mem.le I J ∧ Sat W w' (sep (osl 3 1 a (failR file xs).length c' ((failR file xs).map PA.iv)) (sep (kn J) A)) := by
  by_cases hr : titleErr file 131072 (sortK xs) = 0
  · obtain ⟨f, hf⟩ := filed_of_err hr
    obtain ⟨b, c, rfl, hsw, hc⟩ := actl_pos hv (pos_of_filed hf)
    have e : failR file xs = failT file f xs := by unfold failR; rw [if_pos hr, hf]; rfl
    rw [e, hr]
    exact failed_ok file f b _ c xs rfl (pos_of_filed hf) hx.len hx.key hx.fine hsw hc hf hr h
  · have e : failR file xs = [] := by unfold failR; rw [if_neg hr]
    rw [e]
    refine (failed_err file v xs hx.key hx.len hv hr h).mono ?_
    rintro e w' ⟨rfl, J, h1, h2⟩
    exact ⟨none, 0, J, rfl, h1, h2.osl_nil 3 1⟩
theorem licences_any {W w : World} {A : Assn} {I : Mem} (file day : Int) (v : Value) (xs : List Ac) (hx : TOk xs) (hv : ActL I v xs) (h : Sat W w (sep (kn I) A)) :
    Calls Tryz.prog 25 #[.int .i64 file, .int .i64 day, v] w fun e w' => ∃ a c' J, e = .returned (.tuple #[.slice a (licR file day xs).length c', .int .i64 (titleErr file day (sortK xs))]) ∧ Mem.le I J ∧ Sat W w' (sep (osl 68 4 a (licR file day xs).length c' (hlC (licR file day xs))) (sep (kn J) A)) := by
  by_cases hr : titleErr file day (sortK xs) = 0
  · obtain ⟨f, hf⟩ := filed_of_err hr
    obtain ⟨b, c, rfl, hsw, hc⟩ := actl_pos hv (pos_of_filed hf)
    have e : licR file day xs = licT file day f xs := by unfold licR; rw [if_pos hr, hf]; rfl
    rw [e, hr]
    exact licences_ok file day f b _ c xs rfl (pos_of_filed hf) hx.len hx.key hx.fine hsw hc hf hr h
  · have e : licR file day xs = [] := by unfold licR; rw [if_neg hr]
    rw [e]
    refine (licences_err file day v xs hx.key hx.len hv hr h).mono ?_
    rintro e w' ⟨rfl, J, h1, h2⟩
    exact ⟨none, 0, J, rfl, h1, h2.osl_nil 68 4⟩
theorem chain_any {W w : World} {A : Assn} {I : Mem} (file day party : Int) (v : Value) (xs : List Ac) (hx : TOk xs) (hv : ActL I v xs) (h : Sat W w (sep (kn I) A)) :
    Calls Tryz.prog 29 #[.int .i64 file, .int .i64 day, .int .i64 party, v] w fun e w' => ∃ a c' J, e = .returned (.tuple #[.slice a (chnR file day party xs).length c', .int .i64 (chnE file day party xs)]) ∧ Mem.le I J ∧ Sat W w' (sep (osl 3 1 a (chnR file day party xs).length c' ((chnR file day party xs).map PA.iv)) (sep (kn J) A)) := by
  by_cases hr : titleErr file day (sortK xs) = 0
  · obtain ⟨f, hf⟩ := filed_of_err hr
    obtain ⟨b, c, rfl, hsw, hc⟩ := actl_pos hv (pos_of_filed hf)
    have hg : (filedT file (sortK xs)).getD Ac.zero = f := by rw [hf]; rfl
    by_cases hp : chnNo file day party xs
    · have e1 : chnR file day party xs = [] := by unfold chnR; rw [if_neg (by simpa using hr), if_pos hp]
      have e2 : chnE file day party xs = 7 := by unfold chnE; rw [if_neg (by simpa using hr), if_pos hp]
      rw [e1, e2]
      unfold chnNo at hp
      rw [hg] at hp
      refine (chain_none file day party f b _ c xs rfl (pos_of_filed hf) hx.len hx.key hx.fine hsw hc hf hr hp h).mono ?_
      rintro e w' ⟨rfl, J, h1, h2⟩
      exact ⟨none, 0, J, rfl, h1, h2.osl_nil 3 1⟩
    · have e1 : chnR file day party xs = chainT file day party f xs := by unfold chnR; rw [if_neg (by simpa using hr), if_neg hp, hg]
      have e2 : chnE file day party xs = 0 := by unfold chnE; rw [if_neg (by simpa using hr), if_neg hp]
      rw [e1, e2]
      unfold chnNo at hp
      rw [hg] at hp
      exact chain_ok file day party f b _ c xs rfl (pos_of_filed hf) hx.len hx.key hx.fine hsw hc hf hr hp h
  · have e1 : chnR file day party xs = [] := by unfold chnR; rw [if_pos hr]
    have e2 : chnE file day party xs = titleErr file day (sortK xs) := by unfold chnE; rw [if_pos hr]
    rw [e1, e2]
    refine (chain_err file day party v xs hx.key hx.len hv hr h).mono ?_
    rintro e w' ⟨rfl, J, h1, h2⟩
    exact ⟨none, 0, J, rfl, h1, h2.osl_nil 3 1⟩
end Go.Proofs.YtfapiopnjllnnaaGreatDoor
