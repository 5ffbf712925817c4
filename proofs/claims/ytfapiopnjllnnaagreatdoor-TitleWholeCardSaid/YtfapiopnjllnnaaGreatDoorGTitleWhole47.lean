/- Shares as rationals: a walk keeps their sum. No program in sight. -/
import Derived.Test.YtfapiopnjllnnaaGreatDoorGTitleWhole46
import Derived.Test.YtfapiopnjllnnaaGreatDoorGTitleWhole32
import Derived.Test.YtfapiopnjllnnaaGreatDoorGTitleWhole26
import Derived.Laws.StructEq
namespace PA
open Go Go.Proofs.YtfapiopnjllnnaaGreatDoor
def valR (r : Rt) : Rat := Rat.divInt r.n r.d
theorem newR_val {n d : Int} {r : Rt} (h : newR n d = (r, 0)) (hd : 0 < d) : valR r = Rat.divInt n d := by
  obtain ⟨hr, hz, hp⟩ := newR_ok h hd
  have h' := h
  unfold newR at h'
  rw [if_neg (by omega)] at h'
  obtain ⟨h1, h2, -, -⟩ := buildR_ok h'
  obtain ⟨g, hg⟩ : ∃ g, g = Nat.gcd n.natAbs d.natAbs := ⟨_, rfl⟩
  have hg0 : 0 < g := by rw [hg]; exact Nat.gcd_pos_of_pos_right _ (by omega)
  rw [← hg] at h1 h2
  have e1 : r.n.natAbs * g = n.natAbs := by rw [h1, hg]; exact Nat.div_mul_cancel (Nat.gcd_dvd_left _ _)
  have e2 : r.d * (g : Int) = d := by
    have h3 : d.natAbs / g * g = d.natAbs := by rw [hg]; exact Nat.div_mul_cancel (Nat.gcd_dvd_right _ _)
    rw [h2, ← Int.natCast_mul, h3]
    omega
  have e3 : r.n * (g : Int) = n := by
    have h3 : (r.n * (g : Int)).natAbs = n.natAbs := by rw [Int.natAbs_mul, Int.natAbs_natCast, e1]
    rcases Int.lt_trichotomy n 0 with hn | hn | hn
    · have hrn : r.n < 0 := by
        have q1 : r.n ≠ 0 := fun e => by have := hz.1 e; omega
        have q2 : ¬ 0 < r.n := fun e => by have := hp.1 e; omega
        omega
      have : r.n * (g : Int) < 0 := Int.mul_neg_of_neg_of_pos hrn (by omega)
      omega
    · rw [hz.2 hn, hn]; simp
    · have : 0 < r.n * (g : Int) := Int.mul_pos (hp.2 hn) (by omega)
      omega
  unfold valR
  rw [Rat.divInt_eq_divInt_iff (by have := hr.d1; omega) (by omega), ← e2, ← e3]
  rw [Int.mul_assoc, Int.mul_comm (g : Int), ← Int.mul_assoc, Int.mul_assoc r.n, Int.mul_comm r.d, ← Int.mul_assoc]
theorem addR_val {a b r : Rt} (h : addR a b = (r, 0)) : valR r = valR a + valR b := by
  obtain ⟨-, ha, hb⟩ := addR_valid h
  have a1 := (okR_spec ha).1.d1
  have b1 := (okR_spec hb).1.d1
  unfold addR at h
  rw [if_pos ⟨ha, hb⟩] at h
  rw [newR_val h (Int.mul_pos (by omega) (by omega))]
  unfold valR
  rw [Rat.divInt_add_divInt _ _ (by omega) (by omega)]
theorem negR_val (a : Rt) : valR (negR a) = - valR a := by
  unfold valR negR
  rw [Rat.neg_divInt]
theorem subR_val {a b r : Rt} (h : subR a b = (r, 0)) : valR r = valR a - valR b := by
  rw [addR_val h, negR_val, Rat.sub_eq_add_neg]
theorem valR_one {a : Rt} (h : okR a = true) (hv : valR a = 1) : a = ⟨1, 1⟩ := by
  have h1 := (okR_spec h).1
  have hc := newR_den a.n a.d (by have := h1.d1; omega) h
  have he : a.n = a.d := by
    have e1 : (1 : Rat) = Rat.divInt 1 1 := by rfl
    unfold valR at hv
    rw [e1, Rat.divInt_eq_divInt_iff (by have := h1.d1; omega) (by omega)] at hv
    omega
  rw [he, Nat.gcd_self] at hc
  have := h1.d1
  cases a with
  | mk n d =>
    simp only at *
    have : d = 1 := by omega
    rw [this] at he ⊢
    rw [he]
/-- The sum of the shares of the parties 0 to 10. -/
def sumS (S : Shs) : List Int → Rat
  | [] => 0
  | p :: l => valR (shareP S p) + sumS S l
def parties : List Int := [0, 1, 2, 3, 4, 5, 6, 7, 8, 9, 10]
theorem sumS_set_not {S : Shs} {p : Int} {r : Rt} : ∀ {l : List Int}, p ∉ l → sumS (setSh S p r) l = sumS S l
  | [], _ => rfl
  | q :: l, h => by
    have hq : q ≠ p := fun e => h (by rw [e]; simp)
    have hl : p ∉ l := fun e => h (by simp [e])
    unfold sumS
    rw [sumS_set_not hl]
    congr 1
    unfold shareP setSh
    rw [if_neg hq]
theorem shareP_set (S : Shs) (p : Int) (r : Rt) : shareP (setSh S p r) p = r := by unfold shareP setSh; rw [if_pos rfl]; rfl
theorem sumS_set {S : Shs} {p : Int} {r : Rt} : ∀ {l : List Int}, l.Nodup → p ∈ l → sumS (setSh S p r) l = sumS S l - valR (shareP S p) + valR r
  | [], _, h => by cases h
  | q :: l, hn, h => by
    have hn' := List.nodup_cons.1 hn
    by_cases e : q = p
    · subst e
      unfold sumS
      rw [sumS_set_not hn'.1, shareP_set]
      grind
    · have hm : p ∈ l := by rcases List.mem_cons.1 h with e' | e'; exact absurd e'.symm e; exact e'
      unfold sumS
      rw [sumS_set hn'.2 hm]
      have : shareP (setSh S p r) q = shareP S q := by unfold shareP setSh; rw [if_neg e]
      rw [this]
      grind
theorem parties_nodup : parties.Nodup := by decide
theorem mem_parties {p : Int} (h1 : 1 ≤ p) (h2 : p ≤ 10) : p ∈ parties := by
  unfold parties
  simp only [List.mem_cons, List.not_mem_nil, or_false]
  omega
theorem sum_move {S : Shs} {x : Ac} (hx : TA x) (hk : x.k = 16) : sumS (moveP S x).1 parties = sumS S parties := by
  obtain ⟨-, -, ⟨p1, p2⟩, ⟨q1, q2⟩, hne⟩ := hx.tr hk
  unfold moveP
  split
  · rfl
  · rename_i h1
    split
    · rfl
    · rename_i h2
      obtain ⟨l, hl⟩ : ∃ l, subR (shareP S x.p) x.sh = (l, 0) := ⟨(subR (shareP S x.p) x.sh).1, by
        have : (subR (shareP S x.p) x.sh).2 = 0 := by
          by_cases e : (subR (shareP S x.p) x.sh).2 = 0
          · exact e
          · exact absurd (.inl e) h1
        rw [← this]⟩
      obtain ⟨m, hm⟩ : ∃ m, addR (shareP S x.q) x.sh = (m, 0) := ⟨(addR (shareP S x.q) x.sh).1, by
        have : (addR (shareP S x.q) x.sh).2 = 0 := by
          by_cases e : (addR (shareP S x.q) x.sh).2 = 0
          · exact e
          · exact absurd e h2
        rw [← this]⟩
      rw [hl, hm]
      show sumS (setSh (setSh S x.p l) x.q m) parties = _
      rw [sumS_set parties_nodup (mem_parties q1 q2), sumS_set parties_nodup (mem_parties p1 p2), addR_val hm, subR_val hl]
      have : shareP (setSh S x.p l) x.q = shareP S x.q := by unfold shareP setSh; rw [if_neg (fun e => hne e.symm)]
      rw [this]
      grind
theorem sum_walk {σ : Type} (file fday day : Int) (ev : σ → Nat → Ac → Bool → σ) : ∀ (l : List Ac) (i : Nat) (S : Shs) (s : σ), (∀ x ∈ l, TA x) → sumS (walkT file fday day ev i l S s).1 parties = sumS S parties
  | [], _, _, _, _ => rfl
  | x :: l, i, S, s, hl => by
    unfold walkT
    split
    · rw [sum_walk file fday day ev l _ _ _ fun y hy => hl y (by simp [hy])]
      unfold PA.stepT
      split
      · rename_i hk; exact sum_move (hl x (by simp)) hk
      · rfl
    · exact sum_walk file fday day ev l _ _ _ fun y hy => hl y (by simp [hy])
theorem valR_01 : valR ⟨0, 1⟩ = 0 := by simp [valR]
theorem valR_11 : valR ⟨1, 1⟩ = 1 := by
  have e1 : (1 : Rat) = Rat.divInt 1 1 := by rfl
  rw [e1]; rfl
theorem sum_none : ∀ l : List Int, sumS (fun _ => none) l = 0
  | [] => rfl
  | p :: l => by
    unfold sumS
    rw [sum_none l]
    show valR ⟨0, 1⟩ + 0 = 0
    rw [valR_01]; grind
theorem sum_first {p : Int} (h1 : 1 ≤ p) (h2 : p ≤ 10) : sumS (first1 p) parties = 1 := by
  unfold first1
  rw [sumS_set parties_nodup (mem_parties h1 h2), sum_none]
  show (0 : Rat) - valR ⟨0, 1⟩ + valR ⟨1, 1⟩ = 1
  rw [valR_01, valR_11]; grind
/-- The sum of some owners' shares. -/
def sumO : List (Int × Rt) → Rat
  | [] => 0
  | o :: l => sumO l + valR o.2
theorem valR_n0 {r : Rt} (h : r.n = 0) : valR r = 0 := by unfold valR; rw [h]; simp
theorem sumO_owns {S : Shs} (hS : ShOk S) : ∀ ks : List Int, sumO (ownsP S ks) = sumS S ks
  | [] => rfl
  | p :: l => by
    have ih := sumO_owns hS l
    unfold ownsP at ih ⊢
    unfold sumS
    rw [List.filterMap_cons]
    cases e : S p with
    | none =>
      have : shareP S p = ⟨0, 1⟩ := by unfold shareP; rw [e]; rfl
      simp only
      rw [ih, this, valR_01]
      grind
    | some r =>
      have hs : shareP S p = r := by unfold shareP; rw [e]; rfl
      by_cases hp : 0 < r.n
      · simp only [if_pos hp]
        unfold sumO
        rw [ih, hs]
        grind
      · have h0 : r.n = 0 := by have := (hS p r e).2; omega
        simp only [if_neg hp]
        rw [ih, hs, valR_n0 h0]
        grind
def Sup10 (S : Shs) : Prop := ∀ k, (S k).isSome = true → k ∈ parties
theorem Sup10.set {S : Shs} (h : Sup10 S) {p : Int} (hp : p ∈ parties) (r : Rt) : Sup10 (setSh S p r) := by
  intro k hk
  unfold setSh at hk
  split at hk
  · rename_i e; rw [e]; exact hp
  · exact h k hk
theorem sup10_walk {σ : Type} (file fday day : Int) (ev : σ → Nat → Ac → Bool → σ) : ∀ (l : List Ac) (i : Nat) (S : Shs) (s : σ), Sup10 S → ShOk S → (∀ x ∈ l, TA x) → Sup10 (walkT file fday day ev i l S s).1 ∧ ShOk (walkT file fday day ev i l S s).1
  | [], _, _, _, h, h2, _ => ⟨h, h2⟩
  | x :: l, i, S, s, h, h2, hl => by
    unfold walkT
    split
    · refine sup10_walk file fday day ev l _ _ _ ?_ (stepT_fine h2 x fun hk => ⟨((hl x (by simp)).tr hk).1, by have := ((hl x (by simp)).tr hk).2.1; omega⟩) fun y hy => hl y (by simp [hy])
      unfold PA.stepT
      split
      · rename_i hk
        obtain ⟨-, -, ⟨p1, p2⟩, ⟨q1, q2⟩, -⟩ := (hl x (by simp)).tr hk
        unfold moveP
        split
        · exact h
        · split
          · exact h
          · exact (h.set (mem_parties p1 p2) _).set (mem_parties q1 q2) _
      · exact h
    · exact sup10_walk file fday day ev l _ _ _ h h2 fun y hy => hl y (by simp [hy])
theorem sumS_cons (S : Shs) (p : Int) (l : List Int) : sumS S (p :: l) = valR (shareP S p) + sumS S l := rfl
theorem sumS_filter {S : Shs} : ∀ l : List Int, sumS S (l.filter fun k => (S k).isSome) = sumS S l
  | [] => rfl
  | p :: l => by
    rw [List.filter_cons, sumS_cons]
    by_cases h : (S p).isSome = true
    · rw [if_pos h, sumS_cons, sumS_filter l]
    · rw [if_neg h, sumS_filter l]
      have : shareP S p = ⟨0, 1⟩ := by
        unfold shareP
        cases e : S p with
        | none => rfl
        | some r => rw [e] at h; exact absurd rfl h
      rw [this, valR_01]
      grind
/-- The shares of all owners add up to 1. -/
theorem own_sum {xs : List Ac} (hx : TL xs) {file day : Int} {f : Ac} {own : List (Int × Rt)} (hf : filedT file (sortK xs) = some f) (ho : OwnOf (Go.Proofs.YtfapiopnjllnnaaGreatDoor.finT file day f xs) own) : sumO own = 1 ∧ (∀ o ∈ own, okR o.2 = true ∧ 0 < o.2.n) := by
  have hall : ∀ x ∈ sortK xs, TA x := fun x hx' => hx.all x ((sortK_perm xs).subset hx')
  have hmem : f ∈ sortK xs := List.mem_of_find?_eq_some hf
  have hk0 : f.k = 0 := by
    have := List.find?_some hf
    unfold isFiling at this
    simp only [Bool.and_eq_true, decide_eq_true_eq] at this
    exact this.1
  obtain ⟨p1, p2⟩ := ((hall f hmem).fi hk0).1
  have h1 : Sup10 (first1 f.p) := fun k hk => by
    unfold first1 setSh at hk
    split at hk
    · rename_i e; rw [e]; exact mem_parties p1 p2
    · cases hk
  have h2 : ShOk (first1 f.p) := fun k r hr => by
    unfold first1 setSh at hr
    split at hr
    · cases hr; exact ⟨by decide, by decide⟩
    · cases hr
  obtain ⟨hs, hok⟩ := sup10_walk file f.d day (fun (s : Unit) _ _ _ => s) (sortK xs) 0 (first1 f.p) () h1 h2 hall
  have hsum := sum_walk file f.d day (fun (s : Unit) _ _ _ => s) (sortK xs) 0 (first1 f.p) () hall
  rw [sum_first p1 p2] at hsum
  change sumS (Go.Proofs.YtfapiopnjllnnaaGreatDoor.finT file day f xs) parties = 1 at hsum
  change Sup10 (Go.Proofs.YtfapiopnjllnnaaGreatDoor.finT file day f xs) at hs
  change ShOk (Go.Proofs.YtfapiopnjllnnaaGreatDoor.finT file day f xs) at hok
  obtain ⟨S, hS⟩ : ∃ S, S = Go.Proofs.YtfapiopnjllnnaaGreatDoor.finT file day f xs := ⟨_, rfl⟩
  rw [← hS] at hsum hs hok ho
  have hks : (parties.filter fun k => (S k).isSome).Pairwise (· < ·) := List.Pairwise.filter _ (by decide)
  have ho2 := ownsP_of hks (fun k => by
    rw [List.mem_filter]
    exact ⟨fun h => h.2, fun h => ⟨hs k h, h⟩⟩)
  have e := ho.unique ho2
  refine ⟨by rw [e, sumO_owns hok, sumS_filter, hsum], fun o hm => ?_⟩
  obtain ⟨h3, h4⟩ := (ho.mem o.1 o.2).1 hm
  exact ⟨(hok _ _ h3).1, h4⟩
end PA
/- Title: held, SameHeld; licences as cells. -/
namespace Go.Proofs.YtfapiopnjllnnaaGreatDoor
open Go.RowKit PA
attribute [local go_sem] Oper.semAt_some
theorem hlC_at (s : List Hl) (i : Nat) (hi : i < s.length) : (hlC s)[i * 4]? = some (.int .i64 s[i].a) ∧ (hlC s)[i * 4 + 1]? = some (.int .i64 s[i].b) ∧ (hlC s)[i * 4 + 2]? = some (.int .i64 s[i].c) ∧ (hlC s)[i * 4 + 3]? = some (.int .i64 s[i].d) := by
  have e : s = s.take i ++ s[i] :: s.drop (i + 1) := by rw [← List.drop_eq_getElem_cons hi, List.take_append_drop]
  have hl : (hlC (s.take i)).length = i * 4 := by rw [hlC_len, List.length_take, Nat.min_eq_left (by omega)]
  have key : ∀ j, j < 4 → (hlC s)[i * 4 + j]? = ([Value.int .i64 s[i].a, .int .i64 s[i].b, .int .i64 s[i].c, .int .i64 s[i].d])[j]? := fun j hj => by
    conv => lhs; rw [e]
    unfold hlC at hl ⊢
    rw [List.flatMap_append, List.getElem?_append_right (by omega), hl, Nat.add_sub_cancel_left, List.flatMap_cons, List.getElem?_append_left (by simpa using hj)]
  exact ⟨key 0 (by omega), key 1 (by omega), key 2 (by omega), key 3 (by omega)⟩
theorem hl_cells {W w : World} {A : Assn} {E : Nat} {a : Option Addr} {n c : Nat} {s : List Hl} (hn : s.length = n) (h : Sat W w (sep (osl E 4 a n c (hlC s)) A)) (i : Nat) (hi : i < n) :
    ∃ g x, a = some ⟨g, 0, none⟩ ∧ s[i]? = some x ∧ w.cell? ⟨g, i * 4, none⟩ = some (.int .i64 x.a) ∧ w.cell? ⟨g, i * 4 + 1, none⟩ = some (.int .i64 x.b) ∧ w.cell? ⟨g, i * 4 + 2, none⟩ = some (.int .i64 x.c) ∧ w.cell? ⟨g, i * 4 + 3, none⟩ = some (.int .i64 x.d) := by
  have hil : i < s.length := by omega
  obtain ⟨g, rfl, hc⟩ := h.osl_at (fun e => by have := congrArg List.length e; rw [hlC_len, List.length_nil] at this; omega)
  obtain ⟨k0, k1, k2, k3⟩ := hlC_at s i hil
  exact ⟨g, s[i], rfl, by rw [List.getElem?_eq_getElem hil], hc _ _ k0, hc _ _ k1, hc _ _ k2, hc _ _ k3⟩
theorem hlC_take {s : List Hl} {k : Nat} {x : Hl} (h : s[k]? = some x) : hlC (s.take (k + 1)) = hlC (s.take k) ++ [.int .i64 x.a, .int .i64 x.b, .int .i64 x.c, .int .i64 x.d] := by
  obtain ⟨hk, e⟩ := List.getElem?_eq_some_iff.1 h
  rw [List.take_succ_eq_append_getElem hk, e, hlC_append]; rfl
theorem infoR25Held : (Tryz.prog.info? 97).map (fun i => (i.zero, i.size, i.bytes)) = some (some (.agg #[.int .i64 0, .int .i64 0, .int .i64 0, .int .i64 0]), 4, 32) := by kernel_rfl
set_option maxHeartbeats 1000000 in
theorem held_spec {W w : World} {A : Assn} (a : Option Addr) (n c : Nat) (s : List Hl) (hn : s.length = n) (h10 : n ≤ 20000) (h : Sat W w (sep (osl 68 4 a n c (hlC s)) A)) :
    Calls Tryz.prog 27 #[.slice a n c] w fun e w' => ∃ a' c', e = .returned (.slice a' n c') ∧ Sat W w' (sep (osl 97 4 a' n c' (hlC s)) (sep (osl 68 4 a n c (hlC s)) A)) := by
  have HN := Lib.hid hn
  have H := Lib.hid h
  have hnI : (n : Int) ≤ 20000 := by omega
  clear hn h
  go_enter Tryz.func27, Tryz.ntmps27
  go_wp2
  go_loopw [4, 3] (fun kv ov wr => ∃ (k : Nat) (a1 : Option Addr) (c1 : Nat) (vs : List Value), kv = .int .i64 k ∧ k ≤ n ∧ ov = .slice a1 k c1 ∧ Hid (vs = hlC (s.take k)) ∧ Sat W wr (sep (osl 97 4 a1 k c1 vs) (sep (osl 68 4 a n c (hlC s)) A))) (fun kv _ _ => n - (intOf kv).toNat)
  case atStart => exact ⟨0, none, 0, [], rfl, by omega, rfl, Lib.hid rfl, H.out.osl_nil _ _⟩
  case round =>
    obtain ⟨k, a1, c1, vs, rfl, hk, rfl, HV, hS⟩ := hrel
    by_cases hlt : k < n
    · have hltz : (k : Int) < (n : Int) := by omega
      have hkI : (k : Int) ≤ 20000 := by omega
      have hd := hS.drew
      obtain ⟨wd, hwd⟩ : ∃ wd, wd = wr.drew := ⟨_, rfl⟩
      rw [← hwd] at hd
      obtain ⟨g, x, rfl, hx, k0, k1, k2, k3⟩ := hl_cells HN.out hd.p1 k hlt
      obtain ⟨xa, xb, xc, xd⟩ := x
      have hB : Sat W (wd.alloc (.cells #[.int .i64 xa, .int .i64 xb, .int .i64 xc, .int .i64 xd] 97)) (sep (osl 97 4 a1 k c1 vs) (sep (osl 68 4 (some ⟨g, 0, none⟩) n c (hlC s)) A)) := hd.alloc0 _
      have HSRC := Lib.hid (new_src wd [.int .i64 xa, .int .i64 xb, .int .i64 xc, .int .i64 xd] 97)
      have HX := Lib.hid hx
      have HWD := Lib.hid hwd
      have HB := Lib.hid hB
      clear hd hwd hB hx hS H
      go_wp2_with fail
      refine wp_region_canon rfl (fun _ => True) [(0, .p), (1, .p), (2, .p), (3, .p), (4, .p), (5, .t), (6, .p), (7, .p), (8, .p), (9, .p), (10, .t), (11, .p), (12, .p), (13, .p), (14, .p), (15, .t), (16, .p), (17, .p), (18, .p), (19, .p), (20, .t), (21, .p), (22, .e false), (23, .e false), (24, .p)] (by kernel_rfl) ?_
      have hS0 : True := trivial
      rw [← HWD.out]
      (repeat ((first | (refine C_p (v := ?_) rfl rfl (fun w' => ?_) ?_; rotate_left; (go_simp; with_reducible rfl)) | (refine C_s (v := ?_) rfl rfl hS0 (fun w' hS => ?_) ?_; rotate_left; ((try dsimp only at hS); go_simp; with_reducible rfl)) | (refine C_t (v := ?_) rfl rfl ?_ ?_; rotate_left; (go_simp; with_reducible rfl)) | (refine C_po rfl rfl ?_) | (refine C_so rfl rfl hS0 ?_) | (refine C_to rfl rfl ?_)); simp only [Act.put, List.setIfInBounds_toArray, List.set_cons_zero, List.set_cons_succ]))
      clear k0 k1 k2 k3
      (refine C_e rfl rfl (fun K hK => ?_); go_simp)
      (refine hK _ _ (fun h => by cases h) ?_; clear hK K; (try simp only [Act.put, List.setIfInBounds_toArray, List.set_cons_zero, List.set_cons_succ]))
      refine C_e rfl rfl (fun K hK => ?_)
      refine wp_append_osl (.tmp 11) (.tmp 33) 65 rfl 97 4 32 _ Tryz.underlying65 infoR25Held rfl rfl HB.out rfl [.int .i64 xa, .int .i64 xb, .int .i64 xc, .int .i64 xd] rfl (by simp) (by intro b' hb; cases hb; exact HSRC.out) (by simp [Value.oneCell']) (by omega) (by unfold maxLen; omega) ?_
      intro a2 c2 w4 h5
      have H5 := Lib.hid h5
      clear h5 HB HSRC
      (refine hK _ _ (fun h => by cases h) ?_; clear hK K; (try simp only [Act.put, List.setIfInBounds_toArray, List.set_cons_zero, List.set_cons_succ]))
      (repeat ((first | (refine C_p (v := ?_) rfl rfl (fun w' => ?_) ?_; rotate_left; (go_simp; with_reducible rfl)) | (refine C_s (v := ?_) rfl rfl hS0 (fun w' hS => ?_) ?_; rotate_left; ((try dsimp only at hS); go_simp; with_reducible rfl)) | (refine C_t (v := ?_) rfl rfl ?_ ?_; rotate_left; (go_simp; with_reducible rfl)) | (refine C_po rfl rfl ?_) | (refine C_so rfl rfl hS0 ?_) | (refine C_to rfl rfl ?_)); simp only [Act.put, List.setIfInBounds_toArray, List.set_cons_zero, List.set_cons_succ]))
      refine C_nil ?_
      go_wp2
      go_roundw
      case rel => exact ⟨k + 1, a2, c2, _, by go_num, by omega, rfl, Lib.hid (by rw [hlC_take HX.out, ← HV.out]), H5.out⟩
      case measure => simp [intOf]; omega
    · obtain rfl : k = n := by omega
      have HS := Lib.hid hS
      clear hS
      go_wp2
      go_ret
      refine ⟨a1, c1, rfl, ?_⟩
      have e : vs = hlC s := by rw [HV.out, List.take_of_length_le (by rw [HN.out]; exact Nat.le_refl _)]
      have h9 := HS.out
      rw [e] at h9
      exact h9
theorem held_eqIn (T : Nat) (h1 : Tryz.prog.underlying T = some (.struct (Tryz.prog.fieldsOf T))) (h2 : Tryz.prog.stoodInHeld T = false) (h3 : Tryz.prog.fieldsOf T = Tryz.prog.fieldsOf 68) (w : World) (x y : Hl) :
    (Op.equalIn 10000 T (.agg #[.int .i64 x.a, .int .i64 x.b, .int .i64 x.c, .int .i64 x.d]) (.agg #[.int .i64 y.a, .int .i64 y.b, .int .i64 y.c, .int .i64 y.d])).run Tryz.prog w = .ok (decide (x = y)) w := by
  obtain ⟨a, b, c, d⟩ := x
  obtain ⟨a', b', c', d'⟩ := y
  have e := run_equalIn_struct (P := Tryz.prog) w 9999 T #[.int .i64 a, .int .i64 b, .int .i64 c, .int .i64 d] #[.int .i64 a', .int .i64 b', .int .i64 c', .int .i64 d'] h1 h2
  rw [h3] at e
  have p0 : ∀ a b c d : Int, (part 3 #[.int .i64 a, .int .i64 b, .int .i64 c, .int .i64 d] 0).run Tryz.prog w = .ok (.int .i64 a) w := fun a b c d => by kernel_rfl
  have p1 : ∀ a b c d : Int, (part 3 #[.int .i64 a, .int .i64 b, .int .i64 c, .int .i64 d] 1).run Tryz.prog w = .ok (.int .i64 b) w := fun a b c d => by kernel_rfl
  have p2 : ∀ a b c d : Int, (part 3 #[.int .i64 a, .int .i64 b, .int .i64 c, .int .i64 d] 2).run Tryz.prog w = .ok (.int .i64 c) w := fun a b c d => by kernel_rfl
  have p3 : ∀ a b c d : Int, (part 3 #[.int .i64 a, .int .i64 b, .int .i64 c, .int .i64 d] 3).run Tryz.prog w = .ok (.int .i64 d) w := fun a b c d => by kernel_rfl
  have r0 : ∀ a b : Int, (Op.equalIn 9999 3 (.int .i64 a) (.int .i64 b)).run Tryz.prog w = .ok (a == b) w := fun a b => run_equalIn_int (P := Tryz.prog) w 9998 3 .i64 .i64 a b Tryz.underlying3
  rw [show (10000 : Nat) = 9999 + 1 from rfl, e]
  clear e
  by_cases z1 : a = a'
  · by_cases z2 : b = b'
    · by_cases z3 : c = c' <;> by_cases z4 : d = d' <;> simp [Program.fieldsOf, Tryz.underlying68, Op.eqFields, p0, p1, p2, p3, r0, z1, z2, z3, z4]
    · simp [Program.fieldsOf, Tryz.underlying68, Op.eqFields, p0, p1, r0, z1, z2]
  · simp [Program.fieldsOf, Tryz.underlying68, Op.eqFields, p0, r0, z1]
theorem r25held_neq (w : World) (x y : Hl) : (binOp .neq 97 (.agg #[.int .i64 x.a, .int .i64 x.b, .int .i64 x.c, .int .i64 x.d]) (.agg #[.int .i64 y.a, .int .i64 y.b, .int .i64 y.c, .int .i64 y.d])).run Tryz.prog w = .ok (.bool (!decide (x = y))) w := by
  rw [run_neq_struct, held_eqIn 97 (by kernel_rfl) (by kernel_rfl) (by kernel_rfl)]
  simp
theorem theld_eql (w : World) (x y : Hl) : (binOp .eql 68 (.agg #[.int .i64 x.a, .int .i64 x.b, .int .i64 x.c, .int .i64 x.d]) (.agg #[.int .i64 y.a, .int .i64 y.b, .int .i64 y.c, .int .i64 y.d])).run Tryz.prog w = .ok (.bool (decide (x = y))) w := by
  rw [run_eql_struct, held_eqIn 68 (by kernel_rfl) (by kernel_rfl) rfl]
  simp
set_option maxHeartbeats 1000000 in
theorem sameHeld_spec {W w : World} {A : Assn} (a b : Option Addr) (n m c d : Nat) (x y : List Hl) (hn : x.length = n) (hm : y.length = m) (h10 : n ≤ 20000) (h11 : m ≤ 20000) (h : Sat W w (sep (osl 97 4 a n c (hlC x)) (sep (osl 97 4 b m d (hlC y)) A))) :
    Calls Tryz.prog 26 #[.slice a n c, .slice b m d] w fun e w' => e = .returned (.bool (decide (x = y))) ∧ Sat W w' (sep (osl 97 4 a n c (hlC x)) (sep (osl 97 4 b m d (hlC y)) A)) := by
  obtain ⟨rv, hrv⟩ : ∃ rv, rv = decide (x = y) := ⟨_, rfl⟩
  rw [← hrv]
  have HRV := Lib.hid hrv
  have HN := Lib.hid (And.intro hn hm)
  have H := Lib.hid h
  have hnI : (n : Int) ≤ 20000 := by omega
  have hmI : (m : Int) ≤ 20000 := by omega
  clear hrv hn hm h
  by_cases hne : n = m
  · subst hne
    go_enter Tryz.func26, Tryz.ntmps26
    go_wp2
    go_loopw [5] (fun kv wr => ∃ k : Nat, kv = .int .i64 k ∧ k ≤ n ∧ Hid (x.take k = y.take k) ∧ Sat W wr (sep (osl 97 4 a n c (hlC x)) (sep (osl 97 4 b n d (hlC y)) A))) (fun kv _ => n - (intOf kv).toNat)
    case atStart => exact ⟨0, rfl, by omega, Lib.hid rfl, H.out⟩
    case round =>
      obtain ⟨k, rfl, hk, HK, hS⟩ := hrel
      by_cases hlt : k < n
      · have hltz : (k : Int) < (n : Int) := by omega
        have hkI : (k : Int) ≤ 20000 := by omega
        have hd := hS.drew
        obtain ⟨wd, hwd⟩ : ∃ wd, wd = wr.drew := ⟨_, rfl⟩
        rw [← hwd] at hd
        obtain ⟨g, x1, rfl, hx1, k0, k1, k2, k3⟩ := hl_cells HN.out.1 hd k hlt
        obtain ⟨g', x2, rfl, hx2, j0, j1, j2, j3⟩ := hl_cells HN.out.2 hd.p1 k hlt
        obtain ⟨bq, hbq⟩ : ∃ bq, bq = !decide (x1 = x2) := ⟨_, rfl⟩
        have hiff : bq = false ↔ x1 = x2 := by
          rw [hbq]
          simp
        have HQ := Lib.hid hiff
        have HX := Lib.hid (And.intro hx1 hx2)
        have HWD := Lib.hid hwd
        have HD := Lib.hid hd
        have hq2 := fun w0 => r25held_neq w0 x1 x2
        rw [← hbq] at hq2
        obtain ⟨a1, b1, c1, d1⟩ := x1
        obtain ⟨a2, b2, c2, d2⟩ := x2
        dsimp only at k0 k1 k2 k3 j0 j1 j2 j3 hq2
        clear hd hwd hx1 hx2 hS H hiff hbq
        go_wp2_with fail
        refine wp_region_canon rfl (fun _ => True) [(0, .p), (1, .p), (2, .p), (3, .t), (4, .p), (5, .p), (6, .p), (7, .t), (8, .p)] (by kernel_rfl) ?_
        have hS0 : True := trivial
        rw [← HWD.out]
        (repeat ((first | (refine C_p (v := ?_) rfl rfl (fun w' => ?_) ?_; rotate_left; (go_simp; with_reducible rfl)) | (refine C_s (v := ?_) rfl rfl hS0 (fun w' hS => ?_) ?_; rotate_left; ((try dsimp only at hS); go_simp; with_reducible rfl)) | (refine C_t (v := ?_) rfl rfl ?_ ?_; rotate_left; (go_simp; with_reducible rfl)) | (refine C_po rfl rfl ?_) | (refine C_so rfl rfl hS0 ?_) | (refine C_to rfl rfl ?_)); simp only [Act.put, List.setIfInBounds_toArray, List.set_cons_zero, List.set_cons_succ]))
        refine C_nil ?_
        clear k0 k1 k2 k3 j0 j1 j2 j3 hq2
        cases bq with
        | false =>
          go_wp2
          go_roundw
          case rel =>
            refine ⟨k + 1, by go_num, by omega, Lib.hid ?_, HD.out⟩
            obtain ⟨l1, e1⟩ := List.getElem?_eq_some_iff.1 HX.out.1
            obtain ⟨l2, e2⟩ := List.getElem?_eq_some_iff.1 HX.out.2
            rw [List.take_succ_eq_append_getElem l1, List.take_succ_eq_append_getElem l2, HK.out, e1, e2, HQ.out.1 rfl]
          case measure => simp [intOf]; omega
        | true =>
          go_wp2
          go_ret
          refine ⟨?_, HD.out⟩
          have hne : x ≠ y := fun e => by
            have h1 := HX.out.1
            rw [e, HX.out.2] at h1
            have := HQ.out.2 (Option.some.inj h1).symm
            cases this
          rw [HRV.out, decide_eq_false hne]; rfl
      · obtain rfl : k = n := by omega
        have HS := Lib.hid hS
        clear hS
        go_wp2
        go_ret
        refine ⟨?_, HS.out⟩
        have he : x = y := by
          have := HK.out
          rwa [List.take_of_length_le (by rw [HN.out.1]; exact Nat.le_refl _), List.take_of_length_le (by rw [HN.out.2]; exact Nat.le_refl _)] at this
        rw [HRV.out, decide_eq_true he]; rfl
  · have bz : ((n : Int) != (m : Int)) = true := by simp; omega
    have hne2 : x ≠ y := fun e => hne (by rw [← HN.out.1, ← HN.out.2, e])
    have HNE := Lib.hid hne2
    clear hne hne2
    go_enter Tryz.func26, Tryz.ntmps26
    go_wp2
    go_ret
    exact ⟨by rw [HRV.out, decide_eq_false HNE.out]; rfl, H.out⟩
end Go.Proofs.YtfapiopnjllnnaaGreatDoor
