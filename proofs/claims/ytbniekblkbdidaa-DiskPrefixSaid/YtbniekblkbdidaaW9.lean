/- The reference's reader: length, Raw, Int. -/
import Derived.Test.YtbniekblkbdidaaW8
namespace Go.Proofs.Ytbniekblkbdidaa
open Go.RowKit PA
/-- 's[:k]' of bytes that are known. -/
theorem _root_.PA.Sat.bytes_take {W w : World} {A : Assn} {a : Option Addr} {n c : Nat} {l : List UInt8} (k : Nat) (hn : n = l.length) (hk : k ≤ n) (h : Sat W w (sep (rBytes.is [.slice a n c] l) A)) :
    Sat W w (sep (rBytes.is [.slice a k c] (l.take k)) A) := by
  subst hn
  refine h.wk ?_
  rintro I m ⟨x, y, h5, h6, ⟨h7, hr⟩, h9⟩
  refine ⟨x, y, h5, h6, ⟨h7, ?_⟩, h9⟩
  obtain ⟨a', c', e, hw, hc⟩ := bytes_rel.1 hr
  cases e
  have hl : (l.take k).length = k := by simp; omega
  refine bytes_rel.2 ⟨a, c, by rw [hl], ⟨by rw [hl]; have := hw.1; omega, hw.2.1, hw.2.2⟩, ?_⟩
  rcases hc with hc | ⟨b', o', cs, t, f, e1, e2, e3⟩
  · left
    have : l = [] := by simpa using hc
    rw [this]; simp
  · right
    refine ⟨b', o', cs, t, f, e1, e2, fun i u hu => e3 i u ?_⟩
    rw [List.map_take, List.getElem?_take] at hu
    split at hu
    · exact hu
    · cases hu
theorem rd_split {W w : World} {A : Assn} {T p b o n m c : Nat} {l : List UInt8} (hm : m = l.length) (hn : n ≤ m)
    (h : Sat W w (sep (blk p (.cells #[.slice (if c = n then some ⟨b, o, none⟩ else some ⟨b, o + n, none⟩) (m - n) (c - n), .int .i64 0] T (0, 0))) (sep (rBytes.is [.slice (some ⟨b, o, none⟩) m c] l) A))) :
    Sat W w (sep (rBytes.is [.slice (some ⟨b, o, none⟩) n c] (l.take n)) (sep (isRd T p (.ok (l.drop n))) A)) := by
  have h1 : Sat W w (sep (rBytes.is [.slice (some ⟨b, o, none⟩) m c] l) (sep (rBytes.is [.slice (some ⟨b, o, none⟩) m c] l) _)) := h.p1.dup
  have h2 := h1.bytes_take n hm hn
  have h3 := h2.p1.bytes_drop n hm hn
  have h4 : Sat W w (sep (blk p (.cells #[.slice (if c = n then some ⟨b, o, none⟩ else some ⟨b, o + n, none⟩) (m - n) (c - n), .int .i64 0] T (0, 0))) (sep (rBytes.is [.slice (if c = n then some ⟨b, o, none⟩ else some ⟨b, o + n, none⟩) (m - n) (c - n)] (l.drop n)) (sep (rBytes.is [.slice (some ⟨b, o, none⟩) n c] (l.take n)) A))) := by
    simpa only [sep_comm, sep_lcomm, sep_assoc] using h3
  exact (isRd_okmk (by rw [List.length_drop, hm]) h4).p1
theorem rd_split_nil {W w : World} {A : Assn} {T p : Nat} {a a2 : Option Addr} {c c2 : Nat} (hw : Swf a2 0 c2)
    (h : Sat W w (sep (blk p (.cells #[.slice a2 0 c2, .int .i64 0] T (0, 0))) (sep (rBytes.is [.slice a 0 c] []) A))) :
    Sat W w (sep (rBytes.is [.slice a 0 c] []) (sep (isRd T p (.ok [])) A)) := by
  have h2 := (h.rsl_nil a2).bytes_mk (bs := []) hw
  exact (isRd_okmk (T := T) (p := p) (l := []) rfl (h2.p1)).p1
end Go.Proofs.Ytbniekblkbdidaa
