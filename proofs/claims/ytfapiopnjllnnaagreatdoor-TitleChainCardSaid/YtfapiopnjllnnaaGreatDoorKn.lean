/- Facts on blocks that no longer change, kept beside the assertion. Plain Lean, no program in sight. -/
import Derived.Test.YtfapiopnjllnnaaGreatDoorVal
import Derived.Lib.ConvBytes
namespace PA
open Go Go.RowKit
/-- What no longer changes in I stands. -/
def kn (I : Mem) : Assn := pers (Mem.le I) fun _ _ hl h b o hb => hl _ _ (h b o hb)
def Ext (I : Mem) (w : World) : Prop := ∀ b o, I b = some o → w.heap[b]? = some o
section
variable {W w w' : World} {A : Assn} {I J : Mem}
theorem Sat.ext (h : Sat W w (sep (kn I) A)) : Ext I w := h.pers_heap
theorem Sat.know (h : Sat W w A) : ∃ I, Sat W w (sep (kn I) A) := by
  obtain ⟨h1, h2, h3, I, m, h4, h5, h6, h7⟩ := h
  exact ⟨I, h1, h2, h3, I, m, h4, h5, h6, Mem.no, m, fun _ => .inl rfl, (Mem.un_no _).symm, ⟨rfl, Mem.le_refl I⟩, h7⟩
theorem Sat.learn {p : Mem → Prop} {hp : ∀ I J, Mem.le I J → p I → p J} (h : Sat W w (sep (pers p hp) (sep (kn I) A))) : ∃ J, Mem.le I J ∧ p J ∧ Sat W w (sep (kn J) A) := by
  obtain ⟨h1, h2, h3, J, m, h4, h5, h6, x, y, h7, rfl, ⟨rfl, hp'⟩, x', y', h8, rfl, ⟨rfl, hle⟩, h9⟩ := h
  refine ⟨J, hle, hp', h1, h2, h3, J, _, h4, h5, h6, Mem.no, y', fun _ => .inl rfl, ?_, ⟨rfl, Mem.le_refl J⟩, h9⟩
  rw [Mem.un_no]
theorem Sat.tell {p : Mem → Prop} {hp : ∀ I J, Mem.le I J → p I → p J} (h : Sat W w (sep (kn I) A)) (hI : p I) : Sat W w (sep (pers p hp) (sep (kn I) A)) := by
  refine h.wk ?_
  rintro K m ⟨x, y, h7, rfl, ⟨rfl, hle⟩, h9⟩
  exact ⟨Mem.no, _, fun _ => .inl rfl, (Mem.un_no _).symm, ⟨rfl, hp _ _ hle hI⟩, Mem.no, y, fun _ => .inl rfl, rfl, ⟨rfl, hle⟩, h9⟩
theorem Sat.kn_mono (h : Sat W w (sep (kn J) A)) (hle : Mem.le I J) : Sat W w (sep (kn I) A) := by
  refine h.wk ?_
  rintro K m ⟨x, y, h7, rfl, ⟨rfl, hle'⟩, h9⟩
  exact ⟨Mem.no, y, fun _ => .inl rfl, rfl, ⟨rfl, fun b o hb => hle' _ _ (hle _ _ hb)⟩, h9⟩
theorem Mem.le_trans {I J K : Mem} (h : Mem.le I J) (k : Mem.le J K) : Mem.le I K := fun b o hb => k _ _ (h _ _ hb)
theorem Sat.of_below (h : Sat W w A) (hb : Below w.heap.size w w') : Sat W w' A := by
  obtain ⟨h1, h2, h3, I, m, h4, h5, h6, h7⟩ := h
  obtain ⟨b1, b2, b3, b4, b5⟩ := hb
  have keep : ∀ b o, w.heap[b]? = some o → w'.heap[b]? = some o := fun b o ho => (b5 b (Array.getElem?_eq_some_iff.1 ho).1).trans ho
  exact ⟨b1.trans h1, b2.trans h2, b3.trans h3, I, m, h4, fun b o ho => keep _ _ (h5 b o ho), fun b o ho => ⟨keep _ _ (h6 b o ho).1, (h6 b o ho).2⟩, h7⟩
theorem cells_ext {a : Option Addr} {xs : List Value} (h : cellsAt a xs I) (hne : xs ≠ []) : ∃ b o, a = some ⟨b, o, none⟩ ∧ ∀ w', Ext I w' → ∀ i u, xs[i]? = some u → w'.cell? ⟨b, o + i, none⟩ = some u := by
  rcases h with h | ⟨b, o, cs, t, f, h1, h2, h3⟩
  · exact absurd h hne
  · exact ⟨b, o, h1, fun w' he i u hu => by rw [cell_of_row w' b (o + i) cs t f (he _ _ h2)]; exact h3 i u hu⟩
theorem cells_lt {a : Option Addr} {xs : List Value} (h : cellsAt a xs I) (he : Ext I w) (hne : xs ≠ []) : ∃ b o, a = some ⟨b, o, none⟩ ∧ b < w.heap.size := by
  rcases h with h | ⟨b, o, cs, t, f, h1, h2, h3⟩
  · exact absurd h hne
  · exact ⟨b, o, h1, (Array.getElem?_eq_some_iff.1 (he _ _ h2)).1⟩
theorem cellsAt_mono {a : Option Addr} {xs : List Value} (hl : Mem.le I J) (h : cellsAt a xs I) : cellsAt a xs J := by
  rcases h with h | ⟨b, o, cs, t, f, h1, h2, h3⟩
  · exact .inl h
  · exact .inr ⟨b, o, cs, t, f, h1, hl _ _ h2, h3⟩
theorem bytes_rel {v : Value} {bs : List UInt8} : rBytes.rel I [v] bs ↔ ∃ a c, v = .slice a bs.length c ∧ Swf a bs.length c ∧ cellsAt a (bs.map bv) I := by
  constructor
  · rintro ⟨a, c, cells, h1, h2, h3, h4⟩
    cases h1
    rw [(rows_rByte _ _ _).1 h4] at h3
    exact ⟨a, c, rfl, h2, h3⟩
  · rintro ⟨a, c, rfl, h2, h3⟩
    exact ⟨a, c, _, rfl, h2, h3, (rows_rByte _ _ _).2 rfl⟩
/-- Bytes that are known, as a byte slice's cells. -/
theorem bytes_cells {a : Option Addr} {bs : List UInt8} (h : cellsAt a (bs.map bv) I) (hne : bs ≠ []) : ∃ b o, a = some ⟨b, o, none⟩ ∧ ∀ w', Ext I w' → ∀ i (hi : i < bs.length), w'.cell? ⟨b, o + i, none⟩ = some (.int .u8 (bs[i].toNat : Nat)) := by
  obtain ⟨b, o, e, hc⟩ := cells_ext h (by simpa using hne)
  exact ⟨b, o, e, fun w' he i hi => hc w' he i _ (by rw [List.getElem?_map, List.getElem?_eq_getElem hi]; rfl)⟩
end
theorem new_src (w : World) (cs : List Value) (t : TypeId) : ∀ j u, cs[j]? = some u → (w.alloc (.cells cs.toArray t)).cell? ((⟨w.heap.size, 0, none⟩ : Addr).add j) = some u := by
  intro j u h
  have : (⟨w.heap.size, 0, none⟩ : Addr).add j = ⟨w.heap.size, j, none⟩ := by unfold Addr.add; split <;> simp_all
  rw [this, World.cell?_alloc_new]
  simpa using h
theorem new_src2 (w : World) (o : Obj) (cs : List Value) (t : TypeId) : ∀ j u, cs[j]? = some u → ((w.alloc o).alloc (.cells cs.toArray t)).cell? ((⟨w.heap.size + 1, 0, none⟩ : Addr).add j) = some u := by
  have := new_src (w.alloc o) cs t
  rw [World.size_alloc] at this
  exact this
theorem old_src {w : World} {b : Addr} {xs : List Value} (h : ∀ j u, xs[j]? = some u → w.cell? (b.add j) = some u) (o : Obj) : ∀ j u, xs[j]? = some u → (w.alloc o).cell? (b.add j) = some u := by
  intro j u hu
  have := h j u hu
  rw [World.cell?_alloc_lt w o _ (World.block_lt_of_cell? w _ this)]
  exact this
theorem bv_one (bs : List UInt8) : ∀ u ∈ bs.map bv, u.oneCell' = true := by
  intro u hu
  obtain ⟨b, _, rfl⟩ := List.mem_map.1 hu
  rfl
/-- '[]byte(s)'. -/
theorem Sat.conv_bytes {W w : World} {A : Assn} {I : Mem} (h : Sat W w (sep (kn I) A)) (e : TypeId) (s : ByteArray) (hs : s.size ≤ maxLen) :
    ∃ J, Mem.le I J ∧ rBytes.rel J [.slice (some ⟨w.heap.size, 0, none⟩) s.size (grownCap w s.size 0 e)] s.data.toList ∧ Sat W (Lib.bytesWorld w e s) (sep (kn J) A) := by
  have hlen : s.data.toList.length = s.size := by simp
  have h1 : Sat W (Lib.bytesWorld w e s) (sep (blk w.heap.size _) (sep (kn I) A)) :=
    h.grow rfl rfl rfl (Lib.bytesWorld_at_new w e s) (Nat.le_refl _) fun k hk => Lib.bytesWorld_at_old w e s k hk
  obtain ⟨J, hle, hp, hS⟩ := h1.settle.learn
  have hcap := grownCap_ok w s.size 0 e hs
  refine ⟨J, hle, ?_, hS⟩
  refine bytes_rel.2 ⟨some ⟨w.heap.size, 0, none⟩, grownCap w s.size 0 e, by rw [hlen], ⟨by rw [hlen]; exact hcap.1, hcap.2, fun h => (by cases h)⟩, .inr ⟨w.heap.size, 0, _, _, _, rfl, hp, fun i u hu => ?_⟩⟩
  have hi : i < s.data.size := by
    have := (List.getElem?_eq_some_iff.1 hu).1
    simpa using this
  simp only [Nat.zero_add, Lib.bytesCells]
  rw [Array.getElem?_append_left (by simpa using hi), Array.getElem?_map]
  rw [List.getElem?_map, Array.getElem?_toList] at hu
  exact hu
/-- Cells that are known, as an append's source. -/
theorem src_ext {I : Mem} {w : World} {a : Option Addr} {xs : List Value} (h : cellsAt a xs I) (he : Ext I w) : ∀ b, a = some b → ∀ j u, xs[j]? = some u → w.cell? (b.add j) = some u := by
  intro b hb j u hu
  obtain ⟨b', o, e, hc⟩ := cells_ext h (fun e => by rw [e] at hu; simp at hu)
  rw [hb] at e; cases e
  have := hc w he j u hu
  unfold Addr.add
  split
  · rename_i e; subst e; simpa using this
  · exact this
end PA
