/- Part of a proof. -/
import Derived.Test.YtgicfogmdfdjmaaGreatDoorGTitleHolds46
namespace PA
open Go Go.RowKit Go.Proofs.YtgicfogmdfdjmaaGreatDoor
theorem RQ {L:Nat} {v1 v2 v3:Value} {z2 z3:List Ac} {l:List Int} {J:Mem} (hc:bP (some ⟨L,0,none⟩) [v1,v2,v3,.slice none 0 0] J) (h1:lW J v1 (iM l)) (h2:lW J v2 z2) (h3:lW J v3 (z3++iM l)) (g2:qy J z2) (g3:qy J z3) (l2:z2.length≤14) (l3:z3.length≤8):
 ∀i,i<4→∃v xs,Lst L J i v xs∧RJ J xs:=by
 have h:=hc
 obtain⟨b,o,e,hcell⟩:=fV hc (by simp)
 cases e
 have hs:(iM l).length≤14:=by rw[UL];have:=Pg l;omega
 intro i hi
 rcases (show i=0∨i=1∨i=2∨i=3 by omega) with rfl|rfl|rfl|rfl
 ·exact⟨v1,iM l,⟨fun w' he=>hcell w' he 0 v1 rfl,h1,U6 l,by omega⟩,U6 l,PS l,by omega,F6 (Ll l)⟩
 ·exact⟨v2,z2,⟨fun w' he=>hcell w' he 1 v2 rfl,h2,NM g2 l2,by omega⟩,NM g2 l2,PO g2,by omega,Lh g2 l2⟩
 ·refine⟨v3,z3++iM l,⟨fun w' he=>hcell w' he 2 v3 rfl,h3,Pm l g3 l3,by rw[dI];omega⟩,Pm l g3 l3,fun x hx=>?_,by rw[dI];omega,(Lh g3 (by omega)).append (F6 (Ll l))⟩
  rcases List.mem_append.1 hx with h|h
  ·exact PO g3 x h
  ·exact PS l x h
 ·have hT:TL []:=⟨fun _ h=>(by cases h),.nil,by simp[jM]⟩
  exact⟨.slice none 0 0,[],⟨fun w' he=>hcell w' he 3 _ rfl,⟨none,0,0,rfl,rfl,⟨Nat.le_refl _,Nat.zero_le _,fun _=>rfl⟩,.inl rfl⟩,hT,by simp⟩,hT,fun _ h=>(by cases h),by simp,⟨[],trivial,fun _ h=>(by cases h)⟩⟩
theorem IK {J:Mem} {B:Nat} {zs:List Int} {t:TypeId} (hJ:J B=some (.cells (zs.map PA.iv).toArray t (0,0))) {w':World} (he:Ext J w') {k:Nat} {z:Int} (hz:zs[k]?=some z):w'.cell? ⟨B,k,none⟩=some (.int .i64 z):=by
 rw[cell_of_row w' B k _ _ _ (he _ _ hJ)]
 simp[hz,PA.iv]
theorem Wu {W w:World} {A:aG} {J:Mem} {t:TypeId} (xs ys:List Int) (h:Sat W w (sep (kn J) A)):∃J',Mem.le J J'∧J' w.heap.size=some (.cells (xs.map PA.iv).toArray t (0,0))∧J' (w.heap.size+1)=some (.cells (ys.map PA.iv).toArray t (0,0)) ∧
 Sat W ((w.alloc (.cells (xs.map PA.iv).toArray t)).alloc (.cells (ys.map PA.iv).toArray t)) (sep (kn J') A):=by
 obtain⟨J1,l1,e1,h1⟩:=(h.alloc (.cells (xs.map PA.iv).toArray t)).settle.learn
 obtain⟨J2,l2,e2,h2⟩:=(h1.alloc (.cells (ys.map PA.iv).toArray t)).settle.learn
 rw[World.size_alloc] at e2
 exact⟨J2,Mem.le_trans l1 l2,l2 _ _ e1,e2,h2⟩
end PA
namespace Go.Proofs.YtgicfogmdfdjmaaGreatDoor
open Go.RowKit PA
theorem bs_z6 (w:World) (a b c d e f:Int):(KR 6 #[(0,.int .i64 a),(1,.int .i64 b),(2,.int .i64 c),(3,.int .i64 d),(4,.int .i64 e),(5,.int .i64 f)]).run Tryz.prog w=.ok (.slice (some ⟨w.heap.size,0,none⟩) 6 6) (w.alloc (.cells #[.int .i64 a,.int .i64 b,.int .i64 c,.int .i64 d,.int .i64 e,.int .i64 f] 3)):=by
 obtain⟨i,h1,h2,h3,h4⟩:=info_parts su
 exact run_buildSlice w 22 3 6 _ _ i _ Tryz.underlying22 h1 h2 (by rw[h3];omega) (by rw[h3];omega) (by rw[h3];kernel_rfl)
theorem ZM (w:World) (a b c d:Int):(KR 4 #[(0,.int .i64 a),(1,.int .i64 b),(2,.int .i64 c),(3,.int .i64 d)]).run Tryz.prog w=.ok (.slice (some ⟨w.heap.size,0,none⟩) 4 4) (w.alloc (.cells #[.int .i64 a,.int .i64 b,.int .i64 c,.int .i64 d] 3)):=by
 obtain⟨i,h1,h2,h3,h4⟩:=info_parts su
 exact run_buildSlice w 22 3 4 _ _ i _ Tryz.underlying22 h1 h2 (by rw[h3];omega) (by rw[h3];omega) (by rw[h3];kernel_rfl)
theorem bs_z3 (w:World) (a b c:Int):(KR 3 #[(0,.int .i64 a),(1,.int .i64 b),(2,.int .i64 c)]).run Tryz.prog w=.ok (.slice (some ⟨w.heap.size,0,none⟩) 3 3) (w.alloc (.cells #[.int .i64 a,.int .i64 b,.int .i64 c] 3)):=by
 obtain⟨i,h1,h2,h3,h4⟩:=info_parts su
 exact run_buildSlice w 22 3 3 _ _ i _ Tryz.underlying22 h1 h2 (by rw[h3];omega) (by rw[h3];omega) (by rw[h3];kernel_rfl)
attribute [local go_sem ↓] nI
attribute [local go_sem] bs_z6 ZM
end Go.Proofs.YtgicfogmdfdjmaaGreatDoor
