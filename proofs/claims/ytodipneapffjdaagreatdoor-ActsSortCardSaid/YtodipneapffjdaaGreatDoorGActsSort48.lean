/- Encodings of acts that the generator makes are short: in plain, no program in sight. -/
import Derived.Test.YtodipneapffjdaaGreatDoorGActsSort12
import Derived.Test.YtodipneapffjdaaGreatDoorGActsSortSYp
import Derived.Test.YtodipneapffjdaaGreatDoorGActsSort31
import Derived.Test.YtodipneapffjdaaGreatDoorGActsSortSYu
namespace PA
open Go Go.RowKit
theorem encI_l {r : Int} (h1 : -9223372036854775808 ≤ r) (h2 : r ≤ 9223372036854775807) : (PA.encI r).length ≤ 10 := encI_le h1 h2
theorem encIs_l {l : List Int} (hn : l.length ≤ 1048576) (hi : ∀ r ∈ l, -9223372036854775808 ≤ r ∧ r ≤ 9223372036854775807) : (encIs l).length ≤ 10 + 10 * l.length := by
  have := encT_le hn hi l.length
  rwa [encT_all] at this
theorem flatten_len {α : Type} (e : α → List UInt8) {B : Nat} : ∀ {l : List α}, (∀ g ∈ l, (e g).length ≤ B) → (l.map e).flatten.length ≤ B * l.length
  | [], _ => by simp
  | g :: l, h => by
    rw [List.map_cons, List.flatten_cons, List.length_append, List.length_cons, Nat.mul_add]
    have h1 := h g (List.mem_cons_self ..)
    have h2 := flatten_len e (B := B) (l := l) fun a ha => h a (List.mem_cons_of_mem _ ha)
    omega
theorem iv64 {x : Iv} (h : GoodIv x) : ∀ r ∈ PA.ivInts x, -9223372036854775808 ≤ r ∧ r ≤ 9223372036854775807 := by
  obtain ⟨h1, h2, h3, h4, h5⟩ := h
  have o1 := oneI_64 x.lo
  have o2 := oneI_64 x.ho
  have o3 := oneI_64 x.li
  have o4 := oneI_64 x.hi
  unfold I64v at o1 o2 o3 o4
  have hh : 0 ≤ x.hn ∧ x.hn ≤ 8 ∧ 0 ≤ x.hd ∧ x.hd ≤ 1 := by
    rcases h5 with ⟨-, e1, e2, -⟩ | ⟨-, e1, e2, e3⟩
    · rw [e1, e2]; omega
    · omega
  intro r hr
  simp only [ivInts, List.mem_cons, List.not_mem_nil, or_false] at hr
  rcases hr with rfl | rfl | rfl | rfl | rfl | rfl | rfl | rfl <;> omega
theorem encFm_len {o n : Int} {i : List Iv} {k : List Fm} (ho : I64v o) (hn : I64v n) (hi : i.length ≤ 1000000) (hk : k.length ≤ 1000000) : (encFm (.mk o n i k)).length ≤ 40 + (encIvs i).length + (encFms k).length := by
  rw [encFm]
  simp only [List.length_append]
  have h1 := encI_l ho.1 ho.2
  have h2 := encI_l hn.1 hn.2
  have h3 := encI_l (r := (i.length : Int)) (by omega) (by omega)
  have h4 := encI_l (r := (k.length : Int)) (by omega) (by omega)
  omega
theorem leafC_enc {f : Fm} (h : LeafC f) : f.n64 ∧ (encFm f).length ≤ 140 := by
  obtain ⟨n, h1, h2, rfl⟩ := h
  refine ⟨by simp [Fm.n64, Fm.n64s, I64v]; omega, ?_⟩
  have := encFm_len (o := 1) (n := n) (i := []) (k := []) ⟨by omega, by omega⟩ ⟨by omega, by omega⟩ (by simp) (by simp)
  simp [encIvs, encFms] at this
  omega
theorem leafV_enc {f : Fm} (h : LeafV f) : f.n64 ∧ (encFm f).length ≤ 140 := by
  obtain ⟨n, x, h1, h2, hx, rfl⟩ := h
  have hi := iv64 hx
  refine ⟨?_, ?_⟩
  · rw [Fm.n64]
    exact ⟨⟨by omega, by omega⟩, ⟨by omega, by omega⟩, fun y hy => by rw [List.mem_singleton.1 hy]; exact hi, by simp [Fm.n64s]⟩
  · have := encFm_len (o := 2) (n := n) (i := [x]) (k := []) ⟨by omega, by omega⟩ ⟨by omega, by omega⟩ (by simp) (by simp)
    have e := encIs_l (l := ivInts x) (by simp [ivInts]) hi
    rw [show (ivInts x).length = 8 from rfl] at e
    simp [encIvs, encFms] at this
    omega
theorem node_enc {o : Int} {k : List Fm} (ho : 0 ≤ o ∧ o ≤ 10) (hk : ∀ f ∈ k, f.n64 ∧ (encFm f).length ≤ 200) (hl : k.length ≤ 2) : Fm.n64 (.mk o 0 [] k) ∧ (encFm (.mk o 0 [] k)).length ≤ 440 := by
  have h1 : Fm.n64s k := by
    have key : ∀ l : List Fm, (∀ f ∈ l, f.n64) → Fm.n64s l := by
      intro l
      induction l with
      | nil => intro _; trivial
      | cons g l ih => intro h; rw [Fm.n64s]; exact ⟨h g (List.mem_cons_self ..), ih fun f hf => h f (List.mem_cons_of_mem _ hf)⟩
    exact key k fun f hf => (hk f hf).1
  have h2 : (encFms k).length ≤ 200 * k.length := by
    have key : ∀ l : List Fm, (∀ f ∈ l, (encFm f).length ≤ 200) → (encFms l).length ≤ 200 * l.length := by
      intro l
      induction l with
      | nil => intro _; simp [encFms]
      | cons g l ih =>
        intro h
        rw [encFms, List.length_append, List.length_cons]
        have := h g (List.mem_cons_self ..)
        have := ih fun f hf => h f (List.mem_cons_of_mem _ hf)
        omega
    exact key k fun f hf => (hk f hf).2
  refine ⟨by rw [Fm.n64]; exact ⟨⟨by omega, by omega⟩, ⟨by omega, by omega⟩, by simp, h1⟩, ?_⟩
  have := encFm_len (o := o) (n := 0) (i := []) (k := k) ⟨by omega, by omega⟩ ⟨by omega, by omega⟩ (by simp) (by omega)
  simp [encIvs] at this
  omega
theorem node1_enc {o : Int} {f : Fm} (ho : 0 ≤ o ∧ o ≤ 10) (hf : f.n64 ∧ (encFm f).length ≤ 140) : Fm.n64 (.mk o 0 [] [f]) ∧ (encFm (.mk o 0 [] [f])).length ≤ 200 := by
  refine ⟨by rw [Fm.n64]; exact ⟨⟨by omega, by omega⟩, ⟨by omega, by omega⟩, by simp, by rw [Fm.n64s]; exact ⟨hf.1, trivial⟩⟩, ?_⟩
  have := encFm_len (o := o) (n := 0) (i := []) (k := [f]) ⟨by omega, by omega⟩ ⟨by omega, by omega⟩ (by simp) (by simp)
  simp [encIvs, encFms] at this
  omega
theorem goodF_enc {f : Fm} (h : GoodF f) : f.n64 ∧ (encFm f).length ≤ 440 := by
  have two : ∀ {o : Int} {f g : Fm}, 0 ≤ o ∧ o ≤ 10 → f.n64 ∧ (encFm f).length ≤ 140 → g.n64 ∧ (encFm g).length ≤ 200 → Fm.n64 (.mk o 0 [] [f, g]) ∧ (encFm (.mk o 0 [] [f, g])).length ≤ 440 := by
    intro o f g ho hf hg
    refine node_enc ho (fun x hx => ?_) (by simp)
    simp only [List.mem_cons, List.not_mem_nil, or_false] at hx
    rcases hx with rfl | rfl
    · exact ⟨hf.1, by omega⟩
    · exact hg
  cases h with
  | c h => have := leafC_enc h; exact ⟨this.1, by omega⟩
  | v h => have := leafV_enc h; exact ⟨this.1, by omega⟩
  | andCV h g => have := leafV_enc g; exact two (by omega) (leafC_enc h) ⟨this.1, by omega⟩
  | orCV h g => have := leafV_enc g; exact two (by omega) (leafC_enc h) ⟨this.1, by omega⟩
  | orCC h g => have := leafC_enc g; exact two (by omega) (leafC_enc h) ⟨this.1, by omega⟩
  | andN h g => exact two (by omega) (leafC_enc h) (node1_enc (by omega) (leafC_enc g))
  | part h => have := node1_enc (o := 3) (by omega) (leafC_enc h); exact ⟨this.1, by omega⟩
  | andP h g => exact two (by omega) (leafC_enc h) (node1_enc (by omega) (leafV_enc g))
theorem goodF_fmok {f : Fm} (h : GoodF f) : FmOK f := ⟨(goodF_enc h).1, by have := (goodF_enc h).2; omega⟩
theorem zero_enc : Fm.n64 Fm.zero ∧ (encFm Fm.zero).length ≤ 440 := by
  unfold Fm.zero
  refine node_enc (by omega) (fun f hf => by cases hf) (by simp)
theorem goodCl_ok {l : List Cl} (h : GoodCs l) : ∀ c ∈ l, ClOK c ∧ (encCl c).length ≤ 480 := by
  intro c hc
  obtain ⟨i, hi, rfl⟩ := List.mem_iff_getElem.1 hc
  obtain ⟨hF, hr⟩ := h.2.2 i hi
  have hl := h.2.1
  have hrn := (goodRefs_ok hr).1
  have hr64 : ∀ r ∈ l[i].refs, -9223372036854775808 ≤ r ∧ r ≤ 9223372036854775807 := fun r hh => by
    have := refsP_mem (goodRefs_ok hr).2 r hh
    omega
  refine ⟨⟨hr64, by omega, (goodF_enc hF).1, by have := (goodF_enc hF).2; omega⟩, ?_⟩
  unfold encCl
  rw [List.length_append]
  have e1 := encIs_l (by omega) hr64
  have e2 := encR_le (goodF_enc hF).2 (by omega)
  omega
theorem goodCs_enc {l : List Cl} (h : GoodCs l) : (encCls l).length ≤ 1500 := by
  unfold encCls encClp
  rw [List.length_append]
  have e1 := encI_l (r := (l.length : Int)) (by omega) (by have := h.2.1; omega)
  have e2 := flatten_len encCl (B := 480) fun c hc => (goodCl_ok h c hc).2
  have := h.2.1
  have e3 : 480 * l.length ≤ 480 * 3 := Nat.mul_le_mul_left _ this
  omega
theorem nil_cls : (encCls []).length ≤ 1500 := by
  unfold encCls encClp
  have := encI_l (r := 0) (by omega) (by omega)
  simp; omega
/-- What an act of the generator is made of. -/
structure ShA (x : Pa) : Prop where
  ns : ∀ r ∈ actNs x, -1 ≤ r ∧ r ≤ 1000000
  td : ∀ f ∈ x.td, GoodF f
  tn : x.td.length ≤ 2
  tc : x.tc = [] ∨ GoodCs x.tc
  cl : x.cl = [] ∨ GoodCs x.cl
  en : x.ea.length ≤ 2
  ea : ∀ e ∈ x.ea, (0 ≤ e.file ∧ e.file ≤ 5000) ∧ 0 ≤ e.day ∧ e.day ≤ 40000
  fx : x.fx = Fm.zero ∨ GoodF x.fx
theorem goodA_shape {N : Nat} {x : Pa} (hN : N ≤ 100) (h : GoodA N x) (hn : 0 ≤ x.n ∧ x.n ≤ 1000000) : ShA x := by
  obtain ⟨y, d, n, hy, hd1, hd2, rfl⟩ := h
  have hn' : 0 ≤ n ∧ n ≤ 1000000 := hn
  rcases hy with ⟨o, p, q, td, tc, ea, rfl, ho, hp, hq, hT, hE⟩ | hy
  · refine ⟨?_, hT.2.2.1, hT.2.1, .inr hT.2.2.2, .inl rfl, hE.1, fun e he => ?_, .inl rfl⟩
    · have hqf : -1 ≤ q ∧ q ≤ 4095 := by
        rcases hq with rfl | ⟨j, hj, rfl⟩ <;> omega
      simp [actNs, dated, Pa.zero]; omega
    · obtain ⟨⟨j, hj, hf⟩, h1, h2⟩ := hE.2.1 e he
      omega
  · cases hy with
    | plain hk hf => obtain ⟨j, hj, rfl⟩ := hf; refine ⟨?_, by simp [dated, Pa.zero], by simp [dated, Pa.zero], .inl rfl, .inl rfl, by simp [dated, Pa.zero], by simp [dated, Pa.zero], .inl rfl⟩; rcases hk with rfl | rfl | rfl | rfl <;> (simp [actNs, dated, Pa.zero]; omega)
    | list hk hf hc => obtain ⟨j, hj, rfl⟩ := hf; refine ⟨?_, by simp [dated, Pa.zero], by simp [dated, Pa.zero], .inl rfl, .inr hc, by simp [dated, Pa.zero], by simp [dated, Pa.zero], .inl rfl⟩; rcases hk with rfl | rfl <;> (simp [actNs, dated, Pa.zero]; omega)
    | pay hf hp hq hu hm1 hm2 => obtain ⟨j, hj, rfl⟩ := hf; refine ⟨?_, by simp [dated, Pa.zero], by simp [dated, Pa.zero], .inl rfl, .inl rfl, by simp [dated, Pa.zero], by simp [dated, Pa.zero], .inl rfl⟩; simp [actNs, dated, Pa.zero]; omega
    | small hp hu => refine ⟨?_, by simp [dated, Pa.zero], by simp [dated, Pa.zero], .inl rfl, .inl rfl, by simp [dated, Pa.zero], by simp [dated, Pa.zero], .inl rfl⟩; simp [actNs, dated, Pa.zero]; omega
    | order hk hf hu1 hu2 hu3 => obtain ⟨j, hj, rfl⟩ := hf; refine ⟨?_, by simp [dated, Pa.zero], by simp [dated, Pa.zero], .inl rfl, .inl rfl, by simp [dated, Pa.zero], by simp [dated, Pa.zero], .inl rfl⟩; rcases hk with rfl | rfl | rfl | rfl <;> (simp [actNs, dated, Pa.zero]; omega)
    | extend hf hu1 hu2 hm1 hm2 => obtain ⟨j, hj, rfl⟩ := hf; refine ⟨?_, by simp [dated, Pa.zero], by simp [dated, Pa.zero], .inl rfl, .inl rfl, by simp [dated, Pa.zero], by simp [dated, Pa.zero], .inl rfl⟩; simp [actNs, dated, Pa.zero]; omega
    | oppose hk hf hp1 hp2 => obtain ⟨j, hj, rfl⟩ := hf; refine ⟨?_, by simp [dated, Pa.zero], by simp [dated, Pa.zero], .inl rfl, .inl rfl, by simp [dated, Pa.zero], by simp [dated, Pa.zero], .inl rfl⟩; rcases hk with rfl | rfl <;> (simp [actNs, dated, Pa.zero]; omega)
    | @decide f q u cl hf hq hu =>
      obtain ⟨j, hj, rfl⟩ := hf
      refine ⟨?_, by simp [dated, Pa.zero], by simp [dated, Pa.zero], .inl rfl, ?_, by simp [dated, Pa.zero], by simp [dated, Pa.zero], .inl rfl⟩
      · have hu' : 0 ≤ u ∧ u ≤ 2 := by rcases hu with ⟨h | h, -⟩ | ⟨h, -⟩ <;> (rw [h]; decide)
        simp [actNs, dated, Pa.zero]; omega
      · rcases hu with ⟨-, rfl⟩ | ⟨-, hc⟩
        · exact .inl rfl
        · exact .inr hc
    | transfer hf hp1 hp2 hq1 hq2 hs =>
      obtain ⟨j, hj, rfl⟩ := hf
      refine ⟨?_, by simp [dated, Pa.zero], by simp [dated, Pa.zero], .inl rfl, .inl rfl, by simp [dated, Pa.zero], by simp [dated, Pa.zero], .inl rfl⟩
      unfold GoodSh at hs
      simp [actNs, dated, Pa.zero]; omega
    | licence hf hp1 hp2 hq1 hq2 hu1 hu2 => obtain ⟨j, hj, rfl⟩ := hf; refine ⟨?_, by simp [dated, Pa.zero], by simp [dated, Pa.zero], .inl rfl, .inl rfl, by simp [dated, Pa.zero], by simp [dated, Pa.zero], .inl rfl⟩; simp [actNs, dated, Pa.zero]; omega
    | art hg => refine ⟨?_, by simp [dated, Pa.zero], by simp [dated, Pa.zero], .inl rfl, .inl rfl, by simp [dated, Pa.zero], by simp [dated, Pa.zero], .inr hg⟩; simp [actNs, dated, Pa.zero]; omega
    | closure ho hu1 hu2 => refine ⟨?_, by simp [dated, Pa.zero], by simp [dated, Pa.zero], .inl rfl, .inl rfl, by simp [dated, Pa.zero], by simp [dated, Pa.zero], .inl rfl⟩; simp [actNs, dated, Pa.zero]; omega
    | rule ho hu1 hu2 hm1 hm2 => refine ⟨?_, by simp [dated, Pa.zero], by simp [dated, Pa.zero], .inl rfl, .inl rfl, by simp [dated, Pa.zero], by simp [dated, Pa.zero], .inl rfl⟩; simp [actNs, dated, Pa.zero]; omega
theorem ShA.size {x : Pa} (h : ShA x) : SzA x := by
  have hg : ∀ {f : Fm}, GoodF f → f.size ≤ Go.Proofs.YtodipneapffjdaaGreatDoor.FmB := fun hf => by
    have := (goodF_ok hf).sz
    unfold Go.Proofs.YtodipneapffjdaaGreatDoor.FmB; omega
  have hc : ∀ {l : List Cl}, (l = [] ∨ GoodCs l) → ∀ c ∈ l, c.body.size ≤ Go.Proofs.YtodipneapffjdaaGreatDoor.FmB := fun hl c hc => by
    rcases hl with rfl | hl
    · cases hc
    · obtain ⟨i, hi, rfl⟩ := List.mem_iff_getElem.1 hc
      exact hg (hl.2.2 i hi).1
  refine ⟨fun f hf => hg (h.td f hf), hc h.tc, hc h.cl, ?_⟩
  rcases h.fx with e | e
  · rw [e]; unfold Fm.zero Go.Proofs.YtodipneapffjdaaGreatDoor.FmB; simp [Fm.size, Fm.sizes]
  · exact hg e
theorem ShA.enc {x : Pa} (h : ShA x) : EncOK x := by
  have hns : ∀ r ∈ actNs x, -9223372036854775808 ≤ r ∧ r ≤ 9223372036854775807 := fun r hr => by have := h.ns r hr; omega
  have hcl : ∀ {l : List Cl}, (l = [] ∨ GoodCs l) → (∀ c ∈ l, ClOK c) ∧ (encCls l).length ≤ 1500 := fun hl => by
    rcases hl with rfl | hl
    · exact ⟨fun c hc => (by cases hc), nil_cls⟩
    · exact ⟨fun c hc => (goodCl_ok hl c hc).1, goodCs_enc hl⟩
  have hfx : x.fx.n64 ∧ (encFm x.fx).length ≤ 440 := by
    rcases h.fx with e | e
    · rw [e]; exact zero_enc
    · exact goodF_enc e
  have hea : ∀ e ∈ x.ea, (-9223372036854775808 ≤ e.file ∧ e.file ≤ 9223372036854775807) ∧ (-9223372036854775808 ≤ e.day ∧ e.day ≤ 9223372036854775807) := fun e he => by have := h.ea e he; omega
  have htd : (encTd x.td).length ≤ 450 * x.td.length := flatten_len (fun f => encR (encF0 f)) fun f hf => encR_le (encF0_le (goodF_enc (h.td f hf)).2) (by omega)
  have htn : 450 * x.td.length ≤ 450 * 2 := Nat.mul_le_mul_left _ h.tn
  have e1 := encI_l (r := (x.td.length : Int)) (by omega) (by have := h.tn; omega)
  have e2 := encR_le (encCls0_le (hcl h.tc).2) (by omega)
  have htx : (encTx x.td x.tc).length ≤ 3000 := by
    unfold encTx; rw [List.length_append, List.length_append]; omega
  have hen : (encEas x.ea).length ≤ 20 * x.ea.length := flatten_len encEa fun e he => by
    have := hea e he
    unfold encEa; rw [List.length_append]
    have := encI_l this.1.1 this.1.2
    have := encI_l (hea e he).2.1 (hea e he).2.2
    omega
  have hen2 : 20 * x.ea.length ≤ 20 * 2 := Nat.mul_le_mul_left _ h.en
  have e3 := encI_l (r := (x.ea.length : Int)) (by omega) (by have := h.en; omega)
  have hkd : (encKd x).length ≤ 3100 := by
    unfold encKd
    split
    · rw [List.length_append, List.length_append]
      have := encR_le (encTx0_le htx) (by omega)
      omega
    · split
      · have := encR_le (encF0_le hfx.2) (by omega)
        omega
      · simp
  have hac : (encAc x).length ≤ 1510 := by
    unfold encAc
    split
    · simp
    · exact encR_le (encCls0_le (hcl h.cl).2) (by omega)
  have hn1 := flatten_len PA.encI (B := 10) (l := actNs x) fun r hr => encI_l (hns r hr).1 (hns r hr).2
  have hn2 : (actNs x).length = 11 := rfl
  rw [hn2] at hn1
  refine ⟨hns, fun f hf => goodF_fmok (h.td f hf), (hcl h.tc).1, (hcl h.cl).1, hea, ⟨hfx.1, by have := hfx.2; omega⟩, by omega, by have := (hcl h.tc).2; omega, by have := (hcl h.cl).2; omega, ?_⟩
  unfold encW
  rw [List.length_append, List.length_append]
  omega
end PA
/- The reference's order of acts whose keys differ, in plain; the program's Sort of any list of them. -/
namespace PA
open Go Go.RowKit
section
variable {α : Type} {c : α → α → Int}
theorem posP_spec (x : α) (l : List α) : ∀ k, k ≤ l.length → (∀ (i : Nat) (h : i < l.length), posP c x l k ≤ i → i < k → c x l[i] < 0) ∧ (posP c x l k = 0 ∨ ∃ (h : posP c x l k - 1 < l.length), ¬ c x l[posP c x l k - 1] < 0)
  | 0, _ => ⟨fun i h h1 h2 => by omega, .inl rfl⟩
  | k + 1, hk => by
    have hkl : k < l.length := by omega
    have hx : l[k]? = some l[k] := List.getElem?_eq_getElem hkl
    by_cases hc : c x l[k] < 0
    · have e : posP c x l (k + 1) = posP c x l k := by rw [posP, hx]; simp only; rw [if_pos hc]
      obtain ⟨h1, h2⟩ := posP_spec x l k (by omega)
      rw [e]
      refine ⟨fun i h h3 h4 => ?_, h2⟩
      by_cases e2 : i = k
      · subst e2; exact hc
      · exact h1 i h h3 (by omega)
    · have e : posP c x l (k + 1) = k + 1 := by rw [posP, hx]; simp only; rw [if_neg hc]
      rw [e]
      exact ⟨fun i h h3 h4 => by omega, .inr ⟨by simpa using hkl, by simpa using hc⟩⟩
theorem insP_asc (flip : ∀ x y : α, c y x = -c x y) (trans : ∀ x y z : α, c x y ≤ 0 → c y z ≤ 0 → c x z ≤ 0) (x : α) (l : List α) (hl : l.Pairwise fun a b => c a b ≤ 0) : (insP c x l).Pairwise fun a b => c a b ≤ 0 := by
  obtain ⟨h1, h2⟩ := posP_spec (c := c) x l l.length (Nat.le_refl _)
  have hle := posP_le c x l l.length
  unfold insP
  obtain ⟨k, hk⟩ : ∃ k, k = posP c x l l.length := ⟨_, rfl⟩
  rw [← hk] at h1 h2 hle ⊢
  have hpw := List.pairwise_iff_getElem.1 hl
  have hbefore : ∀ (i : Nat) (h : i < l.length), i < k → c l[i] x ≤ 0 := fun i h hik => by
    rcases h2 with h0 | ⟨hj, hn⟩
    · omega
    · have e1 : c l[k - 1] x ≤ 0 := by rw [flip x l[k - 1]]; omega
      by_cases e : i = k - 1
      · subst e; exact e1
      · exact trans _ _ _ (hpw i (k - 1) h hj (by omega)) e1
  refine List.pairwise_append.2 ⟨hl.sublist (List.take_sublist _ _), List.pairwise_cons.2 ⟨fun y hy => ?_, hl.sublist (List.drop_sublist _ _)⟩, fun a ha b hb => ?_⟩
  · obtain ⟨i, hi, rfl⟩ := List.mem_iff_getElem.1 hy
    rw [List.getElem_drop]
    have := h1 (k + i) (by rw [List.length_drop] at hi; omega) (by omega) (by rw [List.length_drop] at hi; omega)
    omega
  · obtain ⟨i, hi, rfl⟩ := List.mem_iff_getElem.1 ha
    rw [List.length_take] at hi
    rw [List.getElem_take]
    rcases List.mem_cons.1 hb with rfl | hb
    · exact hbefore i (by omega) (by omega)
    · obtain ⟨j, hj, rfl⟩ := List.mem_iff_getElem.1 hb
      rw [List.length_drop] at hj
      rw [List.getElem_drop]
      exact hpw i (k + j) (by omega) (by omega) (by omega)
theorem sortTo_asc (flip : ∀ x y : α, c y x = -c x y) (trans : ∀ x y z : α, c x y ≤ 0 → c y z ≤ 0 → c x z ≤ 0) (l : List α) : ∀ i, i ≤ l.length → (sortTo c l i).Pairwise fun a b => c a b ≤ 0
  | 0, _ => by simp [sortTo]
  | i + 1, hi => by
    have hx : l[i]? = some l[i] := List.getElem?_eq_getElem (by omega)
    rw [sortTo_succ c hx]
    exact insP_asc flip trans _ _ (sortTo_asc flip trans l i (by omega))
theorem posP_congr {d : α → α → Int} (x : α) (l : List α) (h : ∀ y ∈ l, c x y < 0 ↔ d x y < 0) : ∀ k, posP c x l k = posP d x l k
  | 0 => rfl
  | k + 1 => by
    unfold posP
    cases hx : l[k]? with
    | none => rfl
    | some y =>
      simp only
      by_cases hc : c x y < 0
      · rw [if_pos hc, if_pos ((h y (List.mem_of_getElem? hx)).1 hc), posP_congr x l h k]
      · rw [if_neg hc, if_neg (fun hd => hc ((h y (List.mem_of_getElem? hx)).2 hd))]
theorem sortTo_congr {d : α → α → Int} (l : List α) (h : l.Pairwise fun x y => (c y x < 0 ↔ d y x < 0)) : ∀ i, i ≤ l.length → sortTo c l i = sortTo d l i
  | 0, _ => by simp [sortTo]
  | i + 1, hi => by
    have hx : l[i]? = some l[i] := List.getElem?_eq_getElem (by omega)
    rw [sortTo_succ c hx, sortTo_succ d hx, sortTo_congr l h i (by omega)]
    unfold insP
    rw [posP_congr]
    intro y hy
    have hm := (sortTo_perm d l i (by omega)).mem_iff.1 hy
    obtain ⟨j, hj, rfl⟩ := List.mem_iff_getElem.1 hm
    rw [List.length_take] at hj
    rw [List.getElem_take]
    exact List.pairwise_iff_getElem.1 h j i (by omega) (by omega) (by omega)
end
end PA
namespace Go.Proofs.YtodipneapffjdaaGreatDoor
open Go.RowKit PA
theorem cP_key {p q : Ac × Pa} {I : Mem} (hp : IsA I p.1 p.2) (hq : IsA I q.1 q.2) (h : KeyNe p.1 q.1) : cP p q = cmpK p.1 q.1 := by
  unfold cP
  rw [cmpA_key (by rw [← hp.d, ← hq.d, ← hp.n, ← hq.n]; exact h), ← hp.d, ← hq.d, ← hp.n, ← hq.n]
  unfold cmpK
  rcases h with h | h
  · by_cases h1 : p.1.d < q.1.d
    · rw [if_pos h1, if_pos h1]
    · rw [if_neg h1, if_neg h1, if_pos (by omega), if_pos (by omega)]
  · by_cases h1 : p.1.d < q.1.d
    · rw [if_pos h1, if_pos h1]
    · rw [if_neg h1, if_neg h1]
      by_cases h2 : q.1.d < p.1.d
      · rw [if_pos h2, if_pos h2]
      · rw [if_neg h2, if_neg h2]
        by_cases h3 : p.1.n < q.1.n
        · rw [if_pos h3, if_pos h3]
        · rw [if_neg h3, if_neg h3, if_pos (by omega)]
/-- The reference's order is the program's. -/
theorem sortP_asc {I : Mem} {Ls : List (Ac × Pa)} (hA : ∀ p ∈ Ls, IsA I p.1 p.2) (hk : (Ls.map (·.1)).Pairwise KeyNe) : Asc cmpK ((sortP cP Ls).map (·.1)) ∧ ((sortP cP Ls).map (·.1)).Perm (Ls.map (·.1)) := by
  refine ⟨?_, (sortP_perm cP Ls).map _⟩
  have hk2 : Ls.Pairwise fun p q => KeyNe p.1 q.1 := List.pairwise_map.1 hk
  have e : sortP cP Ls = sortP (fun p q => cmpK p.1 q.1) Ls := by
    refine sortTo_congr Ls ?_ Ls.length (Nat.le_refl _)
    refine List.pairwise_iff_getElem.2 fun i j hi hj hij => ?_
    rw [cP_key (hA _ (List.getElem_mem hj)) (hA _ (List.getElem_mem hi)) (List.pairwise_iff_getElem.1 hk2 i j hi hj hij).symm]
  rw [e]
  exact List.pairwise_map.2 (sortTo_asc (c := fun p q : Ac × Pa => cmpK p.1 q.1) (fun x y => cmpK_flip x.1 y.1) (fun x y z => cmpK_trans) Ls Ls.length (Nat.le_refl _))
theorem ins_noneY {W w : World} {A : Assn} (v fv : Value) (h : Sat W w A) : Calls Tryz.prog 48 #[v, .int .i64 0, .int .i64 0, fv] w fun e w' => e = .returned (.tuple #[]) ∧ Sat W w' A := by
  go_enter Tryz.func48, Tryz.ntmps48
  go_wp2
  go_loopw [8] (fun iv wr => iv = .int .i64 1 ∧ Sat W wr A) (fun _ _ => 0)
  case atStart => exact ⟨rfl, h⟩
  case round =>
    obtain ⟨rfl, hS⟩ := hrel
    go_wp2
    go_end0
    exact ⟨rfl, hS⟩
theorem stable_noneY {W w : World} {A : Assn} (v fv : Value) (h : Sat W w A) : Calls Tryz.prog 28 #[v, .int .i64 0, fv] w fun e w' => e = .returned (.tuple #[]) ∧ Sat W w' A := by
  have HI := Lib.hid (fun w (h : Sat W w A) => ins_noneY v fv h)
  go_enter Tryz.func28, Tryz.ntmps28
  go_wp2
  go_loopw [7, 8] (fun av iv wr => av = .int .i64 0 ∧ iv = .int .i64 20 ∧ Sat W wr A) (fun _ _ _ => 0)
  case atStart => exact ⟨rfl, rfl, h⟩
  case round =>
    obtain ⟨rfl, rfl, hS⟩ := hrel
    go_wp2_with fail
    refine (HI.out _ hS).mono ?_
    rintro e w2 ⟨rfl, h2⟩
    go_wp2
    go_loopw [6] (fun iv wr => iv = .int .i64 20 ∧ Sat W wr A) (fun _ _ => 0)
    case atStart => exact ⟨rfl, h2⟩
    case round =>
      obtain ⟨rfl, hS3⟩ := hrel
      go_wp2
      go_end0
      exact ⟨rfl, hS3⟩
theorem clone_noneY (w : World) : Calls Tryz.prog 14 #[.slice none 0 0] w fun e w' => e = .returned (.slice none 0 0) ∧ w = w' := by
  have hq := fun w a n c => Lib.run_eql_slice_nil (P := Tryz.prog) w 23 37 a n c 0 0 Tryz.underlying23
  go_enter Tryz.func14, Tryz.ntmps14
  go_wp2
  go_ret
  exact ⟨rfl, rfl⟩
/-- Sort of nothing. -/
theorem sort_noneY {W w : World} {A : Assn} (h : Sat W w A) : Calls Tryz.prog 6 #[.slice none 0 0] w fun e w' => e = .returned (.slice none 0 0) ∧ Sat W w' A := by
  have HS := Lib.hid (fun w (h : Sat W w A) => stable_noneY (.slice none 0 0) (.func (.func 9) #[] #[]) h)
  go_enter Tryz.func6, Tryz.ntmps6
  go_wp2_with fail
  refine (clone_noneY w).mono ?_
  rintro e w1 ⟨rfl, rfl⟩
  go_wp2_with (first | (go_at_call 28; refine (HS.out _ h).mono ?_) | go_in)
  rintro e w2 ⟨rfl, h2⟩
  go_wp2
  go_ret
  exact ⟨rfl, h2⟩
/-- Sort of acts whose keys differ, settled. -/
theorem sort_anyY {W w : World} {A : Assn} {I : Mem} (a : Option Addr) (n c : Nat) (xs : List Ac) (hn : n = xs.length) (hD : xs.Pairwise KeyNe) (h40 : n < 40) (hsw : Swf a n c) (h0 : n = 0 → a = none) (hc : cellsAt a (acs xs) I) (h : Sat W w (sep (kn I) A)) :
    Calls Tryz.prog 6 #[.slice a n c] w fun e w' => ∃ (ys : List Ac) (b : Option Addr) (d : Nat) (J : Mem), e = .returned (.slice b n d) ∧ ys.Perm xs ∧ Asc cmpK ys ∧ Mem.le I J ∧ Swf b n d ∧ (n = 0 → b = none) ∧ cellsAt b (acs ys) J ∧ Sat W w' (sep (kn J) A) := by
  rcases Nat.eq_zero_or_pos n with h1 | h1
  · obtain rfl := h0 h1
    have hx : xs = [] := List.eq_nil_of_length_eq_zero (by omega)
    subst h1 hx
    obtain rfl := hsw.2.2 rfl
    refine (sort_noneY h).mono ?_
    rintro e w' ⟨rfl, h2⟩
    exact ⟨[], none, 0, I, rfl, .refl _, .nil, Mem.le_refl _, hsw, fun _ => rfl, .inl rfl, h2⟩
  · have hne : acs xs ≠ [] := fun e => by have := congrArg List.length e; rw [acs_len, List.length_nil] at this; omega
    obtain ⟨b, o, rfl, -⟩ := cells_ext hc hne
    refine (sort_spec (A0 := emp) (D := KeyNe) (c := cmpK) cmpK_total (cmpK_ok W) (fun _ _ => KeyNe.symm) ⟨b, o, none⟩ n c xs hn.symm hD h1 h40 hsw hc (by rw [emp_sep]; exact h)).mono ?_
    rintro e w' ⟨ys, g, c', J, rfl, hp, hasc, hle, h2, h3, h4, h5⟩
    rw [emp_sep] at h5
    exact ⟨ys, _, c', J, rfl, hp, hasc, hle, ⟨h2, h3, fun e => by cases e⟩, fun e => by omega, h4, h5⟩
end Go.Proofs.YtodipneapffjdaaGreatDoor
