/- Package authmap: outside, as an iterator that may be stopped. -/
import Derived.Laws.EntriesVeiled
import Derived.Test.YtcmjbjlliehdiaaDoorGAuthmapSoundSQ8s
import Derived.Test.YtcmjbjlliehdiaaDoorGAuthmapSound17
import Derived.Test.YtcmjbjlliehdiaaDoorGAuthmapSound5
import Derived.WideKeyEntry
import Derived.Test.YtcmjbjlliehdiaaDoorGAuthmapSound8
import Derived.Lib.Varint
import Derived.Lib.Zigzag
import Derived.Lib.EndianBits
import Derived.Laws.Bits64
import Derived.WalkKit
import Derived.Test.YtcmjbjlliehdiaaDoorGAuthmapSound11
import Derived.Test.YtcmjbjlliehdiaaDoorGAuthmapSound12
import Derived.Laws.IdiomStrings
namespace Go.Proofs.YtcmjbjlliehdiaaDoor
open Go.RowKit PA
attribute [local go_sem] Oper.semAt_some
theorem awalkS {W : World} (R Z : List (Nat × Int) → Assn) (a b : Int) (lp ba bb yb wb N : Nat) (hY : ∀ m, TakesS Fence.wide m Tryd.prog W lp encB noB N R Z) :
    ∀ (l : Nat) (A : Assn) (n : Int), inT l n → ∀ (pre : List (Nat × Int)) (w : World), pre.length + (outL a b l n).length ≤ N → Sat W w (sep (R pre) (sep (wenv a b lp ba bb yb wb) A)) →
      Calls Tryd.prog 87 #[bkv (l, n), .pointer (some ⟨ba, 0, none⟩), .pointer (some ⟨bb, 0, none⟩), .pointer (some ⟨yb, 0, none⟩), .pointer (some ⟨wb, 0, none⟩)] w (WPost W R Z pre (outL a b l n) (sep (wenv a b lp ba bb yb wb) A)) := by
  intro l
  induction l with
  | zero =>
    intro A n hT pre w hlen h0
    by_cases ho : bLast (0, n) < a ∨ b < bFirst (0, n)
    · rw [outL_out ho] at hlen ⊢
      have hl : pre.length < N := by simp at hlen; omega
      by_cases h1 : bLast (0, n) < a
      · exact callsIn_wide.1 (awalkS_out1 R Z a b lp ba bb yb wb N hY 0 n hT pre w hl h1 h0)
      · exact callsIn_wide.1 (awalkS_out2 R Z a b lp ba bb yb wb N hY 0 n hT pre w hl h1 (ho.resolve_left h1) h0)
    · have hi := bzero ho
      rw [outL_in ho hi]
      exact callsIn_wide.1 (awalkS_in R Z a b lp ba bb yb wb N 0 n hT pre w (fun h => ho (.inl h)) (fun h => ho (.inr h)) hi.1 hi.2 h0)
  | succ l ih =>
    intro A n hT pre w hlen h0
    by_cases ho : bLast (l + 1, n) < a ∨ b < bFirst (l + 1, n)
    · rw [outL_out ho] at hlen ⊢
      have hl : pre.length < N := by simp at hlen; omega
      by_cases h1 : bLast (l + 1, n) < a
      · exact callsIn_wide.1 (awalkS_out1 R Z a b lp ba bb yb wb N hY (l + 1) n hT pre w hl h1 h0)
      · exact callsIn_wide.1 (awalkS_out2 R Z a b lp ba bb yb wb N hY (l + 1) n hT pre w hl h1 (ho.resolve_left h1) h0)
    · by_cases hi : a ≤ bFirst (l + 1, n) ∧ bLast (l + 1, n) ≤ b
      · rw [outL_in ho hi]
        exact callsIn_wide.1 (awalkS_in R Z a b lp ba bb yb wb N (l + 1) n hT pre w (fun h => ho (.inl h)) (fun h => ho (.inr h)) hi.1 hi.2 h0)
      · by_cases hi1 : a ≤ bFirst (l + 1, n)
        · exact callsIn_wide.1 (awalkS_half2 R Z a b lp ba bb yb wb N l ih n hT pre w hlen ho hi hi1 h0)
        · exact callsIn_wide.1 (awalkS_half1 R Z a b lp ba bb yb wb N l ih n hT pre w hlen ho hi hi1 h0)
set_option maxRecDepth 100000 in
set_option maxHeartbeats 4000000 in
theorem outside1_givesS {W : World} {A : Assn} (hw : WholeOK W) (n : Nat) (a b : Int) (ba bb : Nat) :
    GivesS Fence.wide n Tryd.prog W 86 #[.pointer (some ⟨ba, 0, none⟩), .pointer (some ⟨bb, 0, none⟩)] encB noB 4096 (fun xs => xs = outL a b 12 0) (fun xs => ∃ ys, xs ++ ys = outL a b 12 0)
      (sep (blk ba (.cells #[.int .i64 a] 3 (0, 0))) (sep (blk bb (.cells #[.int .i64 b] 3 (0, 0))) A)) A := by
  intro lp R Z w hY h0
  have hY' : ∀ m, TakesS Fence.wide m Tryd.prog W lp encB noB 4096 R Z := fun m pre x w B h1 h2 => yieldAt_any (hY pre x w B h1 h2)
  obtain ⟨y, hy⟩ : ∃ y, y = w.heap.size := ⟨_, rfl⟩
  obtain ⟨w1, hw1⟩ : ∃ w1, w1 = ((w.alloc (.cells #[.func (.yield lp) #[] #[]] 150)).alloc (.cells #[.func (.func 87) #[] #[.pointer (some ⟨ba, 0, none⟩), .pointer (some ⟨bb, 0, none⟩), .pointer (some ⟨y, 0, none⟩), .pointer (some ⟨y + 1, 0, none⟩)]] 150)) := ⟨_, rfl⟩
  have h1 : Sat W w1 (sep (R []) (sep (wenv a b lp ba bb y (y + 1)) A)) := by
    have h2 := (h0.alloc (.cells #[.func (.yield lp) #[] #[]] 150)).alloc (.cells #[.func (.func 87) #[] #[.pointer (some ⟨ba, 0, none⟩), .pointer (some ⟨bb, 0, none⟩), .pointer (some ⟨y, 0, none⟩), .pointer (some ⟨y + 1, 0, none⟩)]] 150)
    rw [World.size_alloc, ← hy, ← hw1] at h2
    unfold wenv
    simpa only [sep_comm, sep_lcomm, sep_assoc] using h2
  have hwk := awalkS R Z a b lp ba bb y (y + 1) 4096 hY' 12 A 0 inT_top [] w1 (by have := outL_top a b; simpa using this) h1
  obtain ⟨e0, e1, e2, e3⟩ := wenv_at (B := emp) (C := R []) (by rw [emp_sep]; exact h1)
  obtain ⟨q0, q1⟩ := hw.now h1
  have HWK := Lib.hid hwk
  have HY := Lib.hid (And.intro hy hw1)
  have hmf : ∀ (fn : Fn) (first cap : Array Value) (w : World), (Instr.makeFunc fn first cap).run Tryd.prog w = .ok (.func fn first cap) w := fun _ _ _ _ => rfl
  clear hY hY' h0 h1 hwk hy hw1 hw
  refine callsIn_of_wp Tryd.func86 rfl trivial ?_ rfl
  simp only [Tryd.ntmps86, List.size_toArray, List.length_cons, List.length_nil, Nat.reduceAdd, Nat.reduceSub, Array.replicate_succ, Array.replicate_zero, List.push_toArray, List.append_toArray, List.nil_append, List.cons_append]
  gi_upto_region 3 with (fail)
  rw [← HY.out.1, ← HY.out.2]
  have HWK2 : Hid (Calls Tryd.prog 87 #[.agg #[.int .i64 12, .int .i64 0], .pointer (some ⟨ba, 0, none⟩), .pointer (some ⟨bb, 0, none⟩), .pointer (some ⟨y, 0, none⟩), .pointer (some ⟨y + 1, 0, none⟩)] w1 (WPost W R Z [] (outL a b 12 0) (sep (wenv a b lp ba bb y (y + 1)) A))) := HWK
  clear HWK
  gi_wp2_with fail
  refine ⟨trivial, fun hd => (by cases hd), (callsIn_wide.2 HWK2.out).mono ?_⟩
  rintro e w2 (⟨rfl, h2⟩ | ⟨rfl, zs, rest, hzs, h2⟩)
  · clear HWK2 e0 e1 e2 e3 q0 q1
    gi_wp2_with fail
    refine bodyPost_end (results_none rfl _ _ _) rfl ⟨⟨_, rfl⟩, .inl ⟨_, rfl, ?_⟩⟩
    rw [List.nil_append] at h2
    have h3 := h2.p1
    unfold wenv at h3
    simp only [sep_assoc] at h3
    have h4 := h3.drop.drop.drop.drop
    simpa only [sep_comm, sep_lcomm, sep_assoc] using h4
  · have HZS := Lib.hid hzs
    clear HWK2 e0 e1 e2 e3 q0 q1 hzs
    gi_wp2_with fail
    refine bodyPost_end (results_none rfl _ _ _) rfl ⟨⟨_, rfl⟩, .inr ⟨zs, ⟨rest, HZS.out⟩, ?_⟩⟩
    rw [List.nil_append] at h2
    have h3 := h2.p1
    unfold wenv at h3
    simp only [sep_assoc] at h3
    have h4 := h3.drop.drop.drop.drop
    simpa only [sep_comm, sep_lcomm, sep_assoc] using h4
end Go.Proofs.YtcmjbjlliehdiaaDoor
/- Owned maps with any keys: 'm[k], .. = v, ..' where the key is there: the entry, then its store. Plain Lean, no program in sight. -/
namespace PA
open Go Go.RowKit
section
variable {κ : Type} {enc : κ → Value} {P : Program} {W w : World} {A : Assn}
theorem run_entry_gmap {T K E : TypeId} (hT : P.underlying T = some (.map K E)) (hK : GKey P K enc) {b : Nat} {f : κ → Option Value} {n : Nat} (h : Sat W w (sep (gmap enc b f n) A)) (k : κ) {v0 : Value} (hf : f k = some v0) :
    ∃ (st : Int) (w1 : World) (X : Assn), (Instr.mapEntry T (.map (some b)) (enc k)).run P w = .ok (.tuple #[v0, .int .i64 st]) w1 ∧ Sat W w1 (sep X A) ∧
      ∀ (w2 : World) (B : Assn) (v : Value), Sat W w2 (sep X B) → ∃ w3, (Instr.entryStore T (.map (some b)) (.int .i64 st) v).run P w2 = .ok () w3 ∧ Sat W w3 (sep (gmap enc b (gset f k (some v)) n) B) := by
  obtain ⟨es, clock, h1, h2, hb, h3⟩ := h.gmap_open
  have hg := run_getObj_map (P := P) h3.blk_heap
  rcases hK.find w k es.toList h1.keys with ⟨e1, e2⟩ | ⟨j, e, e1, e2, e3⟩
  · rw [h1.isNo e2] at hf; cases hf
  · have hv : e.val = v0 := by
      have := h1.isSo (List.mem_of_getElem? e2) e3
      rw [this] at hf
      simpa using hf
    have hj : es[j]? = some e := by simpa using e2
    have hsame : es.modify j (fun x => { x with key := enc k }) = es := by
      apply Array.ext'
      rw [Array.toList_modify]
      apply List.ext_getElem?
      intro i
      rw [List.getElem?_modify]
      by_cases hi : j = i
      · subst hi
        rw [e2]
        simp [← e3]
      · simp [hi]
    refine ⟨(e.born : Int), _, blk b (.map es clock), ?_, (h3.setObj (.map es clock)), fun w2 B v hw2 => ?_⟩
    · simp [Instr.mapEntry, run_underlying hT, hg, hK.check, e1, hj, e3, hK.stays, hsame, run_setObj_map (P := P) h3.blk_heap, goInt, hv]
    · have hg2 := run_getObj_map (P := P) hw2.blk_heap
      have hidx : es.findIdx? (fun x => ((x.born : Nat) : Int) == ((e.born : Nat) : Int)) = some j := by
        have hsz : j < es.size := (Array.getElem?_eq_some_iff.1 hj).1
        have hje : es[j] = e := (Array.getElem?_eq_some_iff.1 hj).2
        rw [Array.findIdx?_eq_some_iff_getElem]
        refine ⟨hsz, by simp [hje], fun i hi => ?_⟩
        have hp := List.pairwise_iff_getElem.1 (List.pairwise_map.1 hb.nodup) i j (by rw [Array.length_toList]; omega) (by rw [Array.length_toList]; exact hsz) hi
        simp only [Array.getElem_toList] at hp
        rw [hje] at hp
        simp only [beq_iff_eq]
        intro hq
        exact hp (by omega)
      refine ⟨_, by simp [Instr.entryStore, hg2, asInt, asIntOf, hidx, run_setObj_map (P := P) hw2.blk_heap]; rfl, (hw2.setObj _).gmap_mk ?_ (by simp [h2]) ?_⟩
      · have := h1.modify hK.inj k v e2 e3
        have he : (es.modify j fun x => { x with val := v }).toList = es.toList.modify j fun x => { x with key := enc k, val := v } := by
          rw [Array.toList_modify]
          apply List.ext_getElem?
          intro i
          rw [List.getElem?_modify, List.getElem?_modify]
          by_cases hi : j = i
          · subst hi
            rw [e2]
            simp [← e3]
          · simp [hi]
        rw [he]
        exact this
      · have := hb.modify j (enc k) v
        have he : (es.modify j fun x => { x with val := v }).toList = es.toList.modify j fun x => { x with key := enc k, val := v } := by
          rw [Array.toList_modify]
          apply List.ext_getElem?
          intro i
          rw [List.getElem?_modify, List.getElem?_modify]
          by_cases hi : j = i
          · subst hi
            rw [e2]
            simp [← e3]
          · simp [hi]
        rw [he]
        exact this
end
end PA
/- Package wire: the writer. -/
namespace Go.Proofs.YtcmjbjlliehdiaaDoor
open Go.RowKit PA
theorem infoU8w : (Tryd.prog.info? 5).map (fun i => (i.zero, i.size, i.bytes)) = some (some (.int .u8 0), 1, 1) := by kernel_rfl
def isWr (p : Nat) (bs : List UInt8) : Assn := ex fun a : Option Addr => ex fun n : Nat => ex fun c : Nat => sep (blk p (.cells #[.slice a n c] 120 (0, 0))) (osl 5 1 a n c (bs.map bv))
theorem isWr_open {W w : World} {A : Assn} {p : Nat} {bs : List UInt8} (h : Sat W w (sep (isWr p bs) A)) : ∃ a n c, n = bs.length ∧ Sat W w (sep (blk p (.cells #[.slice a n c] 120 (0, 0))) (sep (osl 5 1 a n c (bs.map bv)) A)) := by
  simp only [isWr, ex_sep, Sat.ex, sep_assoc] at h
  obtain ⟨a, n, c, h⟩ := h
  have := h.p1.osl_len.1
  exact ⟨a, n, c, by simpa using this.symm, h⟩
theorem isWr_mk {W w : World} {A : Assn} {p : Nat} {bs : List UInt8} {a : Option Addr} {n c : Nat} (h : Sat W w (sep (blk p (.cells #[.slice a n c] 120 (0, 0))) (sep (osl 5 1 a n c (bs.map bv)) A))) : Sat W w (sep (isWr p bs) A) := by
  simp only [isWr, ex_sep, Sat.ex, sep_assoc]
  exact ⟨a, n, c, h⟩
set_option maxHeartbeats 1000000 in
theorem wuint_spec {W w : World} {A : Assn} (p : Nat) (bs : List UInt8) (x : Nat) (hx : x < 18446744073709551616) (h : Sat W w (sep (isWr p bs) A)) (hb : bs.length ≤ 1073741824) :
    Calls Tryd.prog 64 #[.pointer (some ⟨p, 0, none⟩), .int .u64 (x : Nat)] w fun e w' => e = .returned (.tuple #[]) ∧ Sat W w' (sep (isWr p (bs ++ Lib.uvarint x)) A) := by
  have HX := Lib.hid hx
  have HB := Lib.hid hb
  clear hx hb
  go_enter Tryd.func64, Tryd.ntmps64
  go_wp2_with fail
  go_loopw [1] (fun nv wr => ∃ (y : Nat) (pre : List UInt8), nv = .int .u64 (y : Nat) ∧ Hid (y < 18446744073709551616 ∧ pre ++ Lib.uvarint y = Lib.uvarint x) ∧ Sat W wr (sep (isWr p (bs ++ pre)) A)) (fun nv _ => (intOf nv).toNat)
  case atStart => exact ⟨x, [], rfl, Lib.hid ⟨HX.out, rfl⟩, by simpa using h⟩
  case round =>
    clear h
    obtain ⟨y, pre, rfl, HY, hS⟩ := hrel
    have hpl : pre.length ≤ 10 := by
      have := congrArg List.length HY.out.2
      have := Lib.uvarint_length64 HX.out
      simp at *; omega
    obtain ⟨a, n, c, hn, h1⟩ := isWr_open hS
    have hnb : n ≤ 1073741834 := by rw [hn, List.length_append]; have := HB.out; omega
    have HN := Lib.hid hnb
    have c1 : wr.cell? ⟨p, 0, none⟩ = some (.slice a n c) := h1.cell 0
    obtain ⟨vs, hvs⟩ : ∃ vs, vs = (bs ++ pre).map bv := ⟨_, rfl⟩
    rw [← hvs] at h1
    have HVS := Lib.hid hvs
    have hS' := h1.p1
    clear hn hpl hnb hS hvs
    by_cases hy : 128 ≤ y
    · have hyI : (128 : Int) ≤ (y : Int) := by omega
      obtain ⟨z, hz⟩ : ∃ z : UInt8, z = (y % 128 + 128).toUInt8 := ⟨_, rfl⟩
      have hor : bits BinOp.or IntKind.u8 ((y : Int) % 256) 128 = (z.toNat : Int) := by
        rw [Lib.u8_or128_any _ (by omega) (by omega), hz]
        simp; omega
      have hB := (hS'.alloc0 (.cells #[.int .u8 (z.toNat : Int)] 5))
      have HZ := Lib.hid hz
      clear hz h1 hS'
      go_wp2_with (at_builtin; (refine wpl_append_osl rfl (.tmp 12) (.tmp 16) 32 rfl 5 1 1 (.int .u8 0) Tryd.underlying32 infoU8w rfl rfl hB rfl [.int .u8 (z.toNat : Int)] rfl (by simp) (by intro b hb; cases hb; exact new_src _ [_] _) (by simp [Value.oneCell']) (by have := HN.out; omega) (by have := HN.out; unfold maxLen; omega) ?_))
      intro a2 c2 w2 h2
      have h3 := h2.p1
      have c2' : w2.cell? ⟨p, 0, none⟩ = some (.slice a n c) := h3.cell 0
      have f2' : w2.frozen? ⟨p, 0, none⟩ = false := h3.unfrozen 0
      have h4 : Sat W (w2.setCell ⟨p, 0, none⟩ (.slice a2 (n + 1) c2)) (sep (blk p (.cells #[.slice a2 (n + 1) c2] 120 (0, 0))) (sep (osl 5 1 a2 (n + 1) c2 (vs ++ [.int .u8 (z.toNat : Int)])) A)) := h3.setCell 0 _
      clear hB h2 h3 c1
      go_wp2_with fail
      go_roundw
      case rel =>
        refine ⟨y / 128, pre ++ [z], by go_num, Lib.hid ⟨by have := HY.out.1; omega, ?_⟩, isWr_mk (a := a2) (n := n + 1) (c := c2) ?_⟩
        · rw [List.append_assoc, ← HY.out.2, Lib.uvarint_big hy, ← HZ.out]; rfl
        · rw [← List.append_assoc, List.map_append, ← HVS.out]; exact h4
      case measure => simp [intOf]; omega
    · have hyB : decide ((128 : Int) ≤ (y : Int)) = false := by simp; omega
      have HY128 := Lib.hid hy
      obtain ⟨z, hz⟩ : ∃ z : UInt8, z = y.toUInt8 := ⟨_, rfl⟩
      have hzy : z.toNat = y := by
        rw [hz]; simp; omega
      have hor : ((y : Int) % 256) = (z.toNat : Int) := by omega
      have hB := (hS'.alloc0 (.cells #[.int .u8 (z.toNat : Int)] 5))
      have HZ := Lib.hid hz
      clear hz h1 hS' hzy hy
      go_wp2_with (at_builtin; (refine wpl_append_osl rfl (.tmp 24) (.tmp 27) 32 rfl 5 1 1 (.int .u8 0) Tryd.underlying32 infoU8w rfl rfl hB rfl [.int .u8 (z.toNat : Int)] rfl (by simp) (by intro b hb; cases hb; exact new_src _ [_] _) (by simp [Value.oneCell']) (by have := HN.out; omega) (by have := HN.out; unfold maxLen; omega) ?_))
      intro a2 c2 w2 h2
      have h3 := h2.p1
      have c2' : w2.cell? ⟨p, 0, none⟩ = some (.slice a n c) := h3.cell 0
      have f2' : w2.frozen? ⟨p, 0, none⟩ = false := h3.unfrozen 0
      have h4 : Sat W (w2.setCell ⟨p, 0, none⟩ (.slice a2 (n + 1) c2)) (sep (blk p (.cells #[.slice a2 (n + 1) c2] 120 (0, 0))) (sep (osl 5 1 a2 (n + 1) c2 (vs ++ [.int .u8 (z.toNat : Int)])) A)) := h3.setCell 0 _
      clear hB h2 h3 c1
      go_wp2_with fail
      go_end0
      refine ⟨rfl, isWr_mk (a := a2) (n := n + 1) (c := c2) ?_⟩
      rw [← HY.out.2, Lib.uvarint_small (by have := HY128.out; omega), ← HZ.out, ← List.append_assoc, List.map_append, ← HVS.out, List.map_cons, List.map_nil, bv]; exact h4
end Go.Proofs.YtcmjbjlliehdiaaDoor
/- The wire's numbers in plain. No program in sight. -/
namespace PA
open Go RowKit
theorem bits_xor_comm (k : IntKind) (x y : Int) : bits .xor k x y = bits .xor k y x := by
  show IntKind.wrap k ((BitVec.ofInt k.bits x ^^^ BitVec.ofInt k.bits y).toNat : Int) = IntKind.wrap k ((BitVec.ofInt k.bits y ^^^ BitVec.ofInt k.bits x).toNat : Int)
  rw [BitVec.xor_comm]
theorem zz_val (n : Int) (h1 : -9223372036854775808 ≤ n) (h2 : n ≤ 9223372036854775807) :
    bits .xor .u64 (IntKind.u64.wrap (IntKind.u64.wrap n * 2)) (IntKind.u64.wrap (n / 9223372036854775808)) = (Lib.zigzag n : Nat) := by
  by_cases h : 0 ≤ n
  · have e1 : IntKind.u64.wrap (n / 9223372036854775808) = ((0 : Nat) : Int) := by rw [IntKind.wrap_u64]; omega
    have e2 : IntKind.u64.wrap (IntKind.u64.wrap n * 2) = ((2 * n).toNat : Nat) := by rw [IntKind.wrap_u64, IntKind.wrap_u64]; omega
    rw [e1, e2, bits_xor_u64_nat _ _ (by omega) (by decide), Nat.xor_zero]
    unfold Lib.zigzag; rw [if_pos h]
  · have e1 : IntKind.u64.wrap (n / 9223372036854775808) = IntKind.u64.max := by
      rw [IntKind.wrap_u64, show IntKind.u64.max = 18446744073709551615 by decide]; omega
    rw [e1, bits_xor_comm]
    exact Lib.zigzag_neg h1 (by omega)
/-- The number with a zigzag form. -/
def unz (z : Nat) : Int := if z % 2 = 0 then (z / 2 : Nat) else -((z / 2 : Nat) : Int) - 1
theorem unz_val (z : Nat) (h : z < 18446744073709551616) : bits BinOp.xor .i64 ((z : Int) / 2) (wrap64 (-wrap64 (bits BinOp.and .u64 (z : Int) 1))) = unz z := by
  rw [Lib.u64_and1 _ (by omega) (by omega)]
  have e0 : (z : Int) / 2 = ((z / 2 : Nat) : Int) := by omega
  unfold unz
  by_cases h0 : z % 2 = 0
  · have e1 : (z : Int) % 2 = 0 := by omega
    rw [e1, if_pos h0, e0]
    have e2 : wrap64 (-wrap64 0) = 0 := by simp [wrap64]
    rw [e2]
    show IntKind.i64.wrap ((BitVec.ofInt 64 ((z / 2 : Nat) : Int) ^^^ BitVec.ofInt 64 0).toNat : Int) = _
    have e3 : BitVec.ofInt 64 ((z / 2 : Nat) : Int) ^^^ BitVec.ofInt 64 0 = BitVec.ofInt 64 ((z / 2 : Nat) : Int) := by simp
    rw [e3, BitVec.ofInt_natCast, BitVec.toNat_ofNat, IntKind.wrap_i64]
    omega
  · have e1 : (z : Int) % 2 = 1 := by omega
    rw [e1, if_neg h0, e0, bits_xor_comm]
    have e2 : wrap64 (-wrap64 1) = -1 := by simp [wrap64]
    rw [e2]
    exact Lib.i64_not _ (by omega)
def encI (n : Int) : List UInt8 := Lib.uvarint (Lib.zigzag n)
def encR (b : List UInt8) : List UInt8 := Lib.uvarint b.length ++ b
/-- Reading a number: the first byte has index i. -/
def uintGo (i n : Nat) : List UInt8 → Except Int (Nat × List UInt8)
  | [] => .error 3
  | c :: l => if (i = 9 ∧ 1 < c.toNat) ∨ (0 < i ∧ c.toNat = 0) then .error 2 else if c.toNat < 128 then .ok (n + c.toNat * 128 ^ i, l) else uintGo (i + 1) (n + (c.toNat - 128) * 128 ^ i) l
def uintP (l : List UInt8) : Except Int (Nat × List UInt8) := uintGo 0 0 l
def intP (l : List UInt8) : Except Int (Int × List UInt8) := match uintP l with
  | .error e => .error e
  | .ok (z, l) => .ok (unz z, l)
def rawP (l : List UInt8) : Except Int (List UInt8 × List UInt8) := match uintP l with
  | .error e => .error e
  | .ok (n, l) => if l.length < n then .error 3 else .ok (l.take n, l.drop n)
theorem encI_length (n : Int) (h1 : -9223372036854775808 ≤ n) (h2 : n ≤ 9223372036854775807) : (encI n).length ≤ 10 := Lib.uvarint_length64 (Lib.zigzag_lt h1 h2)
/-- A reader: the bytes that are left, or the error. -/
abbrev RSt := Except Int (List UInt8)
def stU : RSt → Nat × RSt
  | .error e => (0, .error e)
  | .ok l => match uintP l with | .error e => (0, .error e) | .ok (n, l') => (n, .ok l')
def stI (st : RSt) : Int × RSt := (unz (stU st).1, (stU st).2)
def stR : RSt → List UInt8 × RSt
  | .error e => ([], .error e)
  | .ok l => match rawP l with | .error e => ([], .error e) | .ok (b, l') => (b, .ok l')
def stE : RSt → Int
  | .error e => e
  | .ok l => if l = [] then 0 else 2
theorem pow128 (i : Nat) : (128 : Nat) ^ i = 2 ^ (7 * i) := by rw [Nat.pow_mul]
theorem andNot128 (c : UInt8) : bits .andNot .u8 (c.toNat : Int) 128 = ((c.toNat % 128 : Nat) : Int) := by
  have h : ∀ n : Fin 256, bits .andNot .u8 (n.val : Int) 128 = ((n.val % 128 : Nat) : Int) := by decide +kernel
  exact h ⟨c.toNat, c.toNat_lt⟩
theorem or_var (n m i : Nat) (hn : n < 128 ^ i) (hm : m < 128) (hi : i ≤ 9) (h9 : i = 9 → m ≤ 1) :
    bits .or .u64 (n : Int) (IntKind.u64.wrap (IntKind.u64.wrap (m : Int) * 2 ^ (7 * i))) = ((n + m * 128 ^ i : Nat) : Int) ∧ n + m * 128 ^ i < 18446744073709551616 := by
  have e' : ((2 : Int) ^ (7 * i)) = ((128 ^ i : Nat) : Int) := by rw [pow128]; push_cast; rfl
  have q9 : (128 : Nat) ^ 9 = 9223372036854775808 := by decide
  have q8 : (128 : Nat) ^ 8 = 72057594037927936 := by decide
  have hp0 : (128 : Nat) ^ i ≤ 9223372036854775808 := q9 ▸ Nat.pow_le_pow_right (by decide) hi
  have hb : m * 128 ^ i + 128 ^ i ≤ 18446744073709551616 := by
    by_cases h : i = 9
    · subst h
      have := h9 rfl
      rw [q9]; omega
    · have hp : (128 : Nat) ^ i ≤ 72057594037927936 := q8 ▸ Nat.pow_le_pow_right (by decide) (by omega)
      have : m * 128 ^ i ≤ 127 * 72057594037927936 := Nat.mul_le_mul (by omega) hp
      omega
  rw [e']
  generalize hp : (128 : Nat) ^ i = p at *
  have e2 : IntKind.u64.wrap (m : Int) = (m : Int) := wraps_u64 _ (by omega) (by omega)
  have e3 : IntKind.u64.wrap (((m : Nat) : Int) * (p : Int)) = ((m * p : Nat) : Int) := by
    rw [← Int.natCast_mul]; exact wraps_u64 _ (by omega) (by have : m * p < 2 ^ 64 := by omega
                                                             exact_mod_cast this)
  rw [e2, e3]
  have hp2 : (2 : Int) ^ (7 * i) = (p : Int) := e'
  have g1 : (n : Int) < (2 : Int) ^ (7 * i) := by rw [hp2]; exact_mod_cast hn
  have g2 : n < 2 ^ 64 := by omega
  have g3 : ((m * p : Nat) : Int) % (2 : Int) ^ (7 * i) = 0 := by rw [hp2]; push_cast; exact Int.mul_emod_left _ _
  have g4 : m * p < 2 ^ 64 := by omega
  refine ⟨?_, by omega⟩
  rw [bits_join_low .u64 64 (by decide) wraps_u64 (7 * i) _ _ (by omega) g1 (by exact_mod_cast g2) (by omega) g3 (by exact_mod_cast g4)]
  exact (Int.natCast_add _ _).symm
theorem uint_step (n c i : Nat) (hn : n < 128 ^ i) (hc : 128 ≤ c) (hc2 : c < 256) : n + (c - 128) * 128 ^ i < 128 ^ (i + 1) := by
  rw [Nat.pow_succ]
  have : (c - 128) * 128 ^ i ≤ 127 * 128 ^ i := Nat.mul_le_mul_right _ (by omega)
  omega
theorem uintGo_lt : ∀ (l : List UInt8) (i n : Nat), i ≤ 9 → n < 128 ^ i → ∀ m l', uintGo i n l = .ok (m, l') → m < 18446744073709551616 ∧ ∃ k, l' = l.drop k
  | [], i, n, _, _, m, l', h => by simp [uintGo] at h
  | c :: l, i, n, hi, hn, m, l', h => by
    have hc := c.toNat_lt
    unfold uintGo at h
    split at h
    · cases h
    · rename_i hbad
      split at h
      · rename_i hs
        cases h
        exact ⟨(or_var n c.toNat i hn hs hi (fun e => by rw [e] at hbad; omega)).2, 1, rfl⟩
      · rename_i hs
        by_cases h9 : i = 9
        · exfalso; rw [h9] at hbad; omega
        · obtain ⟨h1, k, h2⟩ := uintGo_lt l (i + 1) _ (by omega) (uint_step n c.toNat i hn (by omega) (by omega)) m l' h
          exact ⟨h1, k + 1, by rw [h2]; rfl⟩
theorem stU_lt (st : RSt) : (stU st).1 < 18446744073709551616 := by
  cases st with
  | error e => exact (by decide : 0 < 18446744073709551616)
  | ok l =>
    unfold stU
    dsimp only
    cases h : uintP l with
    | error e => exact (by decide : 0 < 18446744073709551616)
    | ok x => obtain ⟨m, l'⟩ := x; exact (uintGo_lt l 0 0 (by omega) (by decide) m l' h).1
end PA
/- Package wire: zigzag, Int, Text, Raw, Done; the reference's Uint, Int, Raw. -/
namespace Go.Proofs.YtcmjbjlliehdiaaDoor
open Go.RowKit PA
theorem zigzag_spec (n : Int) (w : World) (h1 : -9223372036854775808 ≤ n) (h2 : n ≤ 9223372036854775807) : Calls Tryd.prog 93 #[.int .i64 n] w fun e w' => e = .returned (.int .u64 (Lib.zigzag n : Nat)) ∧ w = w' := by
  go_enter Tryd.func93, Tryd.ntmps93
  go_wp2
  go_ret
  exact ⟨ret_int (zz_val n h1 h2), rfl⟩
theorem rzigzag_spec (n : Int) (w : World) (h1 : -9223372036854775808 ≤ n) (h2 : n ≤ 9223372036854775807) : Calls Tryd.prog 96 #[.int .i64 n] w fun e w' => e = .returned (.int .u64 (Lib.zigzag n : Nat)) ∧ w = w' := by
  by_cases h0 : n < 0
  · go_enter Tryd.func96, Tryd.ntmps96
    go_wp2
    go_ret
    exact ⟨ret_int (by show 2 * -(n + 1) + 1 = _; unfold Lib.zigzag; rw [if_neg (by omega)]; omega), rfl⟩
  · go_enter Tryd.func96, Tryd.ntmps96
    go_wp2
    go_ret
    exact ⟨ret_int (by show 2 * n = _; unfold Lib.zigzag; rw [if_pos (by omega)]; omega), rfl⟩
theorem unzigzag_spec (z : Nat) (w : World) (h1 : z < 18446744073709551616) : Calls Tryd.prog 94 #[.int .u64 z] w fun e w' => e = .returned (.int .i64 (unz z)) ∧ w = w' := by
  go_enter Tryd.func94, Tryd.ntmps94
  go_wp2
  go_ret
  exact ⟨ret_int (unz_val z h1), rfl⟩
theorem wint_spec {W w : World} {A : Assn} (p : Nat) (bs : List UInt8) (n : Int) (h1 : -9223372036854775808 ≤ n) (h2 : n ≤ 9223372036854775807) (h : Sat W w (sep (isWr p bs) A)) (hb : bs.length ≤ 1073741824) :
    Calls Tryd.prog 63 #[.pointer (some ⟨p, 0, none⟩), .int .i64 n] w fun e w' => e = .returned (.tuple #[]) ∧ Sat W w' (sep (isWr p (bs ++ PA.encI n)) A) := by
  have hz := Lib.zigzag_lt h1 h2
  have HZ := Lib.hid hz
  have HB := Lib.hid hb
  clear hz hb
  go_enter Tryd.func63, Tryd.ntmps63
  go_wp2_with fail
  refine (zigzag_spec n _ h1 h2).mono ?_
  rintro e w2 ⟨rfl, rfl⟩
  go_wp2_with fail
  refine (wuint_spec p bs (Lib.zigzag n) HZ.out h HB.out).mono ?_
  rintro e w3 ⟨rfl, hS⟩
  go_wp2_with fail
  go_end0
  exact ⟨rfl, hS⟩
set_option maxHeartbeats 1000000 in
theorem wtext_spec {W w : World} {A : Assn} (p : Nat) (bs : List UInt8) (s : ByteArray) (h : Sat W w (sep (isWr p bs) A)) (hb : bs.length ≤ 1073741800) (hs : s.size ≤ 1073741824) :
    Calls Tryd.prog 92 #[.pointer (some ⟨p, 0, none⟩), .string s] w fun e w' => e = .returned (.tuple #[]) ∧ Sat W w' (sep (isWr p (bs ++ encR s.data.toList)) A) := by
  have hw1 : IntKind.u64.wrap (s.size : Int) = (s.size : Nat) := wraps_u64 _ (by omega) (by omega)
  have HB := Lib.hid hb
  have HS := Lib.hid hs
  clear hb hs
  go_enter Tryd.func92, Tryd.ntmps92
  go_wp2_with fail
  refine (wuint_spec p bs s.size (by have := HS.out; omega) h (by have := HB.out; omega)).mono ?_
  rintro e w3 ⟨rfl, hS⟩
  obtain ⟨a, n, c, hn, h3⟩ := isWr_open hS
  have hul := Lib.uvarint_length64 (x := s.size) (by have := HS.out; omega)
  have hnb : n ≤ 1073741900 := by rw [hn, List.length_append]; have := HB.out; omega
  obtain ⟨vs, hvs⟩ : ∃ vs, vs = (bs ++ Lib.uvarint s.size).map bv := ⟨_, rfl⟩
  rw [← hvs] at h3
  have c1 : w3.cell? ⟨p, 0, none⟩ = some (.slice a n c) := h3.cell 0
  have f1 : w3.frozen? ⟨p, 0, none⟩ = false := h3.unfrozen 0
  have hB := h3.p1
  have HN := Lib.hid hnb
  have HVS := Lib.hid hvs
  clear hn hul hnb hvs h h3 hS hw1
  go_wp2_with (at_builtin; (refine wpl_append_osl_str rfl (.tmp 13) (.tmp 14) 32 9 rfl 5 Tryd.underlying32 Tryd.underlying9 infoU8w rfl hB s rfl (by have := HN.out; have := HS.out; omega) ?_))
  intro a2 c2 w4 h4
  have h5 := h4.p1
  have c2' : w4.cell? ⟨p, 0, none⟩ = some (.slice a n c) := h5.cell 0
  have f2' : w4.frozen? ⟨p, 0, none⟩ = false := h5.unfrozen 0
  have h6 : Sat W (w4.setCell ⟨p, 0, none⟩ (.slice a2 (n + s.size) c2)) (sep (blk p (.cells #[.slice a2 (n + s.size) c2] 120 (0, 0))) (sep (osl 5 1 a2 (n + s.size) c2 (vs ++ s.data.toList.map bv)) A)) := h5.setCell 0 _
  clear hB h4 h5 c1 f1
  go_wp2_with fail
  go_end0
  refine ⟨rfl, isWr_mk (a := a2) (n := n + s.size) (c := c2) ?_⟩
  rw [encR, show s.data.toList.length = s.size by simp, ← List.append_assoc, List.map_append, ← HVS.out]
  exact h6
theorem wdone_spec {W w : World} {A : Assn} (p : Nat) (bs : List UInt8) (h : Sat W w (sep (isWr p bs) A)) (hb : bs.length ≤ 1073742900) :
    Calls Tryd.prog 65 #[.pointer (some ⟨p, 0, none⟩)] w fun e w' => ∃ a c, e = .returned (.slice a bs.length c) ∧ Sat W w' (sep (osl 5 1 a bs.length c (bs.map bv)) (sep (isWr p bs) A)) := by
  obtain ⟨a, n, c, hn, h1⟩ := isWr_open h
  have c1 : w.cell? ⟨p, 0, none⟩ = some (.slice a n c) := h1.cell 0
  have hsw := h1.p1.swf_of_osl
  have hsrc := h1.p1.osl_src
  rw [← hn] at hb ⊢
  have hcl := clone_any a n c (bs.map bv) h1 hsrc (by rw [List.length_map, hn]) hsw (bv_one bs) (by omega)
  have HCL := Lib.hid hcl
  clear h h1 hn hsw hsrc hcl hb
  go_enter Tryd.func65, Tryd.ntmps65
  go_wp2_with fail
  refine HCL.out.mono ?_
  rintro e w2 ⟨a2, c2, rfl, hS⟩
  clear c1
  go_wp2_with fail
  go_ret
  refine ⟨a2, c2, rfl, ?_⟩
  have h2 := isWr_mk (a := a) (n := n) (c := c) (p := p) (bs := bs) (A := sep (osl 5 1 a2 n c2 (bs.map bv)) A) (by simpa only [sep_comm, sep_lcomm, sep_assoc] using hS)
  exact h2.p1
set_option maxHeartbeats 1000000 in
theorem wraw_spec {W w : World} {A : Assn} {I : Mem} (p : Nat) (bs : List UInt8) (v : Value) (b : List UInt8) (h : Sat W w (sep (isWr p bs) (sep (kn I) A))) (hv : rBytes.rel I [v] b) (hb : bs.length ≤ 1073741800) (hs : b.length ≤ 1073741824) :
    Calls Tryd.prog 62 #[.pointer (some ⟨p, 0, none⟩), v] w fun e w' => e = .returned (.tuple #[]) ∧ Sat W w' (sep (isWr p (bs ++ encR b)) (sep (kn I) A)) := by
  obtain ⟨a, c, rfl, hsw, hc⟩ := bytes_rel.1 hv
  have hsrc := src_ext hc h.p1.ext
  obtain ⟨s, hsd⟩ : ∃ s : ByteArray, s = ⟨b.toArray⟩ := ⟨_, rfl⟩
  have hsl : s.data.toList = b := by rw [hsd]
  have hss : s.size = b.length := by rw [hsd]; simp [ByteArray.size]
  have hconv : (convert 32 9 (.slice a b.length c)).run Tryd.prog w = .ok (.string s) w := by
    cases a with
    | none =>
      have hc0 := hsw.2.2 rfl
      have hb0 : b = [] := List.eq_nil_of_length_eq_zero (by have := hsw.1; omega)
      subst hb0
      rw [hsd]
      simp [convert, run_underlying Tryd.underlying32, run_underlying Tryd.underlying9, run_underlying Tryd.underlying5, Conv.bytesToString]
      rfl
    | some ad =>
      have := run_convert_bytes_back (P := Tryd.prog) w 32 9 5 ad c b Tryd.underlying32 Tryd.underlying5 Tryd.underlying9 (fun j hj => hsrc ad rfl j _ (by rw [List.getElem?_map, List.getElem?_eq_getElem hj]; rfl))
      rw [hsd]; exact this
  have htx := wtext_spec p bs s h hb (by rw [hss]; exact hs)
  rw [hsl] at htx
  have HT := Lib.hid htx
  obtain ⟨n0, hn0⟩ : ∃ n0, n0 = b.length := ⟨_, rfl⟩
  rw [← hn0] at hconv ⊢
  clear htx hv hsw hc hsrc hsd hsl hss hn0 hb hs h
  go_enter Tryd.func62, Tryd.ntmps62
  go_wp2_with fail
  refine HT.out.mono ?_
  rintro e w3 ⟨rfl, hS⟩
  go_wp2_with fail
  go_end0
  exact ⟨rfl, hS⟩
end Go.Proofs.YtcmjbjlliehdiaaDoor
