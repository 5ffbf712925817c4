/- Part of a proof. -/
import Derived.Test.YtgicfogmdfdjmaaGreatDoorGTitleHolds35
namespace PA
open Go Go.RowKit
def KX:List (Int×Int)→Int
 | []=>0
 | p::l=>if p.1<p.2 then -1 else if p.2<p.1 then 1 else KX l
def EG (X Y:List UInt8):List (Int×Int):=List.zipWith (fun u v=>(((u.toNat:Nat):Int),((v.toNat:Nat):Int))) X Y
def keysB (d1 n1 d2 n2:Int) (X Y:List UInt8):List (Int×Int):=[(d1,d2),(n1,n2)]++EG X Y++[((X.length:Int),(Y.length:Int))]
def VO (x y:Pa):Int:=KX (keysB x.d x.n y.d y.n (Iw x) (Iw y))
def vM (l:List (Int×Int)):List Value:=(l.map fun p=>[Value.int .i64 p.1,Value.int .i64 p.2]).flatten
theorem PE (a b:List (Int×Int)):vM (a++b)=vM a++vM b:=by unfold vM;simp
theorem PG:∀{l:List (Int×Int)} {i:Nat} {p:Int×Int},l[i]?=some p→(vM l)[i*2]?=some (.int .i64 p.1)∧(vM l)[i*2+1]?=some (.int .i64 p.2)
 | [],i,p,h=>by simp at h
 | q::l,0,p,h=>by simp at h;subst h;unfold vM;simp
 | q::l,i+1,p,h=>by
  have:=PG (l:=l) (i:=i) (p:=p) (by simpa using h)
  unfold vM at this ⊢
  rw[List.map_cons,List.flatten_cons,show (i+1)*2=i*2+2 by omega,show i*2+2+1=i*2+1+2 by omega]
  exact⟨by simpa using this.1,by simpa using this.2⟩
theorem PI (l:List (Int×Int)):∀u∈vM l,u.oneCell'=true:=by
 intro u hu
 unfold vM at hu
 obtain⟨c,hc,hu⟩:=List.mem_flatten.1 hu
 obtain⟨p,-,rfl⟩:=List.mem_map.1 hc
 simp at hu
 rcases hu with rfl|rfl<;>rfl
theorem KY (X Y:List UInt8):(EG X Y).length=min X.length Y.length:=by unfold EG;simp
theorem VP {X Y:List UInt8} {i:Nat} {u v:UInt8} (h1:X[i]?=some u) (h2:Y[i]?=some v):(EG X Y)[i]?=some (((u.toNat:Nat):Int),((v.toNat:Nat):Int)):=by
 unfold EG;rw[List.getElem?_zipWith,h1,h2]
theorem Rl {l:List (Int×Int)} {i:Nat} {p:Int×Int} (h:l[i]?=some p):KX (l.drop i)=if p.1<p.2 then -1 else if p.2<p.1 then 1 else KX (l.drop (i+1)):=by
 obtain⟨hi,rfl⟩:=List.getElem?_eq_some_iff.1 h
 rw[List.drop_eq_getElem_cons hi];rfl
theorem VQ {x y:Pa} (h:x.d≠y.d∨x.n≠y.n):VO x y=if x.d<y.d then -1 else if y.d<x.d then 1 else if x.n<y.n then -1 else 1:=by
 unfold VO keysB
 simp only[List.cons_append,List.nil_append,KX]
 by_cases h1:x.d<y.d
 ·rw[if_pos h1,if_pos h1]
 ·rw[if_neg h1,if_neg h1]
  by_cases h2:y.d<x.d
  ·rw[if_pos h2,if_pos h2]
  ·rw[if_neg h2,if_neg h2]
   by_cases h3:x.n<y.n
   ·rw[if_pos h3,if_pos h3]
   ·rw[if_neg h3,if_neg h3,if_pos (by omega)]
theorem FY {I:Mem} {a:Option Addr} {n c:Nat} {l:List UInt8} (h:fB.rel I [.slice a n c] l):n=l.length∧(n:Int)≤9223372036854775807∧∀i u,l[i]?=some u→∃b o,a=some ⟨b,o,none⟩∧∀w',Ext I w'→w'.cell? ⟨b,o+i,none⟩=some (bv u):=by
 obtain⟨a',c',e,hsw,hc⟩:=xK.1 h
 simp only[Value.slice.injEq] at e
 obtain⟨rfl,rfl,rfl⟩:=e
 refine⟨rfl,by have h1:=hsw.1;have h2:=hsw.2.1;unfold maxLen at h2;omega,fun i u hu=>?_⟩
 obtain⟨b,o,e,hx⟩:=fV hc (fun e=>by rw[List.map_eq_nil_iff] at e;rw[e] at hu;simp at hu)
 exact⟨b,o,e,fun w' he=>hx w' he i _ (by rw[List.getElem?_map,hu];rfl)⟩
end PA
namespace Go.Proofs.YtgicfogmdfdjmaaGreatDoor
open Go.RowKit PA
theorem IB:(Tryz.prog.info? 136).map (fun i=>(i.zero,i.size,i.bytes))=some (some (.agg #[.int .i64 0,.int .i64 0]),2,16):=by kernel_rfl
def bsP (n:Nat) (p:Array (Nat×Value)):Sem Value:=Instr.buildSlice 137 n p
theorem IC (n:Nat) (p:Array (Nat×Value)):Instr.buildSlice 137 n p=bsP n p:=rfl
theorem ZH (w:World) (a b:Int):(bsP 1 #[(0,.agg #[.int .i64 a,.int .i64 b])]).run Tryz.prog w=.ok (.slice (some ⟨w.heap.size,0,none⟩) 1 1) (w.alloc (.cells #[.int .i64 a,.int .i64 b] 136)):=by
 obtain⟨i,h1,h2,h3,h4⟩:=info_parts IB
 exact run_buildSlice w 137 136 1 _ _ i _ Tryz.underlying137 h1 h2 (by rw[h3];omega) (by rw[h3];omega) (by rw[h3];kernel_rfl)
theorem bs_p2 (w:World) (a b c d:Int):(bsP 2 #[(0,.agg #[.int .i64 a,.int .i64 b]),(1,.agg #[.int .i64 c,.int .i64 d])]).run Tryz.prog w=.ok (.slice (some ⟨w.heap.size,0,none⟩) 2 2) (w.alloc (.cells #[.int .i64 a,.int .i64 b,.int .i64 c,.int .i64 d] 136)):=by
 obtain⟨i,h1,h2,h3,h4⟩:=info_parts IB
 exact run_buildSlice w 137 136 2 _ _ i _ Tryz.underlying137 h1 h2 (by rw[h3];omega) (by rw[h3];omega) (by rw[h3];kernel_rfl)
attribute [local go_sem ↓] bQ bZ aT IC
set_option maxRecDepth 100000 in
set_option maxHeartbeats 16000000 in
theorem Dp {W w:World} {A:aG} {I:Mem} (z y:Ac) (x t:Pa) (hA:oM I z x) (hz:VD x) (hE:zx x) (hA2:oM I y t) (hz2:VD t) (hE2:zx t) (h:Sat W w (sep (kn I) A)):
 Calls Tryz.prog 57 #[.agg z.cells.toArray,.agg y.cells.toArray] w fun e w'=>∃J,e=.returned (.int .i64 (VO x t))∧Mem.le I J∧Sat W w' (sep (kn J) A):=by
 have h1:=(h.alloc (.cells z.cells.toArray 67)).alloc (.cells y.cells.toArray 67)
 rw[World.size_alloc] at h1
 obtain⟨B,hB⟩:=aC (w.heap.size)
 obtain⟨w1,hw1⟩:=aC ((w.alloc (.cells z.cells.toArray 67)).alloc (.cells y.cells.toArray 67))
 rw[←hB,←hw1] at h1
 have HB:=ah (And.intro hB hw1)
 obtain⟨X,hX⟩:=aC (sep (blk (B+1) (.cells y.cells.toArray 67 (0,0))) (sep (blk B (.cells z.cells.toArray 67 (0,0))) A))
 have h1':Sat W w1 (sep (kn I) X):=by rw[hX];simpa only[ay,au,aj] using h1
 have HX1:Hid (∀w' J,Sat W w' (sep (kn J) X)→Sat W w' (sep (blk B (.cells z.cells.toArray 67 (0,0))) (sep (blk (B+1) (.cells y.cells.toArray 67 (0,0))) (sep (kn J) A)))):=ah fun w' J h'=>by rw[hX] at h';simpa only[ay,au,aj] using h'
 have HX2:Hid (∀w' J,Sat W w' (sep (kn J) X)→Sat W w' (sep (blk (B+1) (.cells y.cells.toArray 67 (0,0))) (sep (blk B (.cells z.cells.toArray 67 (0,0))) (sep (kn J) A)))):=ah fun w' J h'=>by rw[hX] at h';simpa only[ay,au,aj] using h'
 have hld:=iD (HX1.out _ _ h1')
 obtain⟨BX,hBX⟩:=aC (Iw x)
 obtain⟨BY,hBY⟩:=aC (Iw t)
 obtain⟨KS,hKS⟩:=aC (keysB z.d z.n y.d y.n BX BY)
 obtain⟨rv,fQ⟩:=aC (VO x t)
 have rZ:rv=KX KS:=by rw[fQ,hKS,hBX,hBY,hA.d,hA.n,hA2.d,hA2.n];rfl
 have HE1:Hid (∀w' A',Sat W w' (sep (kn I) A')→Calls Tryz.prog 72 #[.agg z.cells.toArray] w' fun e w''=>∃(b:Option Addr) (m d:Nat) (ev:Int) (J:Mem),e=.returned (.tuple #[.slice b m d,.int .i64 ev])∧Mem.le I J∧fB.rel J [.slice b m d] BX∧Sat W w'' (sep (kn J) A')):=ah fun w' A' h'=>by
  refine (uI z x hA hz hE h').mono ?_
  rintro e w'' ⟨b,m,d,J,rfl,h1,h2,h3⟩
  exact⟨b,m,d,_,J,rfl,h1,by rw[hBX];exact h2,h3⟩
 have HE2:Hid (∀w' A' J,Mem.le I J→Sat W w' (sep (kn J) A')→Calls Tryz.prog 72 #[.agg y.cells.toArray] w' fun e w''=>∃(b:Option Addr) (m d:Nat) (ev:Int) (J2:Mem),e=.returned (.tuple #[.slice b m d,.int .i64 ev])∧Mem.le J J2∧fB.rel J2 [.slice b m d] BY∧Sat W w'' (sep (kn J2) A')):=ah fun w' A' J hl h'=>by
  refine (uI y t (hA2.mono hl) hz2 hE2 h').mono ?_
  rintro e w'' ⟨b,m,d,J2,rfl,h1,h2,h3⟩
  exact⟨b,m,d,_,J2,rfl,h1,by rw[hBY];exact h2,h3⟩
 have hlx:BX.length≤1073741824:=by
  rw[hBX];unfold Iw;split
  ·exact hE.lw
  ·simp
 have hly:BY.length≤1073741824:=by
  rw[hBY];unfold Iw;split
  ·exact hE2.lw
  ·simp
 have dP:=ah (And.intro rZ hKS)
 have H1:=ah h1'
 rw[←fQ]
 obtain⟨Po,iU⟩:∃P:Ending→World→Prop,P=fun e w'=>∃J,e=.returned (.int .i64 rv)∧Mem.le I J∧Sat W w' (sep (kn J) A):=⟨_,rfl⟩
 rw[←iU]
 have dZ:=ah iU
 have LK:=ah (And.intro hlx hly)
 clear hA hz hE hA2 hz2 hE2 h h1 h1' hB hw1 hX hBX hBY hKS fQ rZ hlx hly iU
 go_enter Tryz.func57,Tryz.ntmps57
 go_upto_region 1 with (fail)
 rw[←HB.out.1,←HB.out.2]
 go_wp2_with fail
 refine (HE1.out _ _ H1.out).mono ?_
 rintro e w2 ⟨xa,xn,xc,ev1,J1,rfl,hle1,hr1,h2⟩
 have aa4:=iD (HX2.out _ _ h2)
 have HJ1:=ah (And.intro hle1 hr1)
 have H2:=ah h2
 clear h2 hle1 hr1 HE1 H1 hld
 go_upto_region 2 with (fail)
 go_wp2_with fail
 refine (HE2.out _ _ J1 HJ1.out.1 H2.out).mono ?_
 rintro e w3 ⟨ya,yn,yc,ev2,J2,rfl,hle2,hr2,h3⟩
 have hp1:=HX1.out _ _ h3
 have hp2:=HX2.out _ _ h3
 have a1:=(aB hp1 1 _ rfl).1
 have a2:=(aB hp1 2 _ rfl).1
 have b1:=(aB hp2 1 _ rfl).1
 have b2:=(aB hp2 2 _ rfl).1
 obtain⟨hxn,ajC,hxe⟩:=FY (fB.mono hle2 HJ1.out.2)
 obtain⟨hyn,ajD,hye⟩:=FY hr2
 have Md:=ah (And.intro hxn hxe)
 have HYE:=ah (And.intro hyn hye)
 have HJ2:=ah (Mem.le_trans HJ1.out.1 hle2)
 have hbs:=bs_p2 w3 z.d y.d z.n y.n
 have hAl:=h3.alloc (.cells #[.int .i64 z.d,.int .i64 y.d,.int .i64 z.n,.int .i64 y.n] 136)
 obtain⟨N,hN⟩:=aC (w3.heap.size)
 obtain⟨w4,hw4⟩:=aC (w3.alloc (.cells #[.int .i64 z.d,.int .i64 y.d,.int .i64 z.n,.int .i64 y.n] 136))
 rw[←hN,←hw4] at hbs hAl
 have hos:Sat W w4 (sep (aK 136 2 (some ⟨N,0,none⟩) 2 2 (vM [(z.d,y.d),(z.n,y.n)])) (sep (kn J2) X)):=hAl.lI 2 2 2 _ rfl (by omega) (by unfold maxLen;omega) rfl rfl
 have HO:=ah hos
 have hxl:xn≤1073741824:=by have:=LK.out.1;omega
 have hyl:yn≤1073741824:=by have:=LK.out.2;omega
 have LU:=ah (And.intro hxl hyl)
 clear hxn hxe hyn hye hle2 hr2 h3 hp1 hp2 hN hAl hos aa4 H2 HE2 hxl hyl
 go_upto_region 4 with (fail)
 try rw[←hw4]
 clear hbs hw4 a1 a2 b1 b2
 obtain⟨K,hK⟩:∃K:Nat→List (Int×Int),K=fun j=>[(z.d,y.d),(z.n,y.n)]++(EG BX BY).take j:=⟨_,rfl⟩
 have hK0:K 0=[(z.d,y.d),(z.n,y.n)]:=by rw[hK];rfl
 have hKl:∀j,(K j).length≤2+j:=fun j=>by rw[hK];simp only[dI,List.length_take,List.length_cons,List.length_nil];omega
 have hKs:∀(j:Nat) (u v:UInt8),BX[j]?=some u→BY[j]?=some v→K (j+1)=K j++[(((u.toNat:Nat):Int),((v.toNat:Nat):Int))]:=fun j u v hu hv=>by
  rw[hK];simp only;rw[List.take_add_one,VP hu hv];simp
 have hKe:∀j,(EG BX BY).length≤j→KS=K j++[((xn:Int),(yn:Int))]:=fun j hj=>by
  rw[hK,dP.out.2];simp only;rw[List.take_of_length_le hj,Md.out.1,HYE.out.1];rfl
 have HK:=ah (And.intro hK0 (And.intro hKl (And.intro hKs hKe)))
 clear hK hK0 hKl hKs hKe
 go_upto_block 0 with (fail)
 go_cut [9] from 33 to 58 (fun ov wx=>∃(k:Nat) (a':Option Addr) (n' c':Nat),ov=.slice a' n' c'∧Hid (n'=(K k).length∧(EG BX BY).length≤k∧k≤1073741824)∧Sat W wx (sep (aK 136 2 a' n' c' (vM (K k))) (sep (kn J2) X)))
 case first=>
  as_aux_lemma=>
  go_wp2_with fail
  go_loopw [9,10] (fun ov kv wr=>∃(k:Nat) (a':Option Addr) (n' c':Nat) (vs:List Value),ov=.slice a' n' c'∧kv=.int .i64 k∧k≤xn∧Hid (n'=(K k).length∧vs=vM (K k)∧k≤yn)∧Sat W wr (sep (aK 136 2 a' n' c' vs) (sep (kn J2) X))) (fun _ kv _=>xn-(intOf kv).toNat)
  case atStart=>exact⟨0,_,2,2,_,rfl,rfl,by omega,ah ⟨by rw[HK.out.1];rfl,by rw[HK.out.1],by omega⟩,HO.out⟩
  case round=>
   obtain⟨k,a',n',c',vs',rfl,rfl,hk,HVV,hS⟩:=hrel
   clear HO
   by_cases hlx:k<xn
   ·have afm:(k:Int)<(xn:Int):=by omega
    by_cases hly:k<yn
    ·have afn:(k:Int)<(yn:Int):=by omega
     obtain⟨u,hu⟩:∃u,BX[k]?=some u:=⟨_,List.getElem?_eq_getElem (by have:=Md.out.1;omega)⟩
     obtain⟨v,hv⟩:∃v,BY[k]?=some v:=⟨_,List.getElem?_eq_getElem (by have:=HYE.out.1;omega)⟩
     obtain⟨bx,ox,hxa,hcx⟩:=Md.out.2 k u hu
     obtain⟨by',oy,hya,hcy⟩:=HYE.out.2 k v hv
     subst hxa hya
     have j0:=hcx wr hS.p1.ext
     have j1:=hcy wr hS.p1.ext
     have ac2:=u.toNat_lt
     have ac3:=v.toNat_lt
     obtain⟨un,hun⟩:∃n:Nat,n=u.toNat:=⟨_,rfl⟩
     obtain⟨vn,hvn⟩:∃n:Nat,n=v.toNat:=⟨_,rfl⟩
     unfold bv at j0 j1
     rw[←hun] at j0 ac2
     rw[←hvn] at j1 ac3
     have oU:Hid (K (k+1)=K k++[((un:Int),(vn:Int))]∧k<xn∧k<yn):=ah ⟨by rw[HK.out.2.2.1 k u v hu hv,hun,hvn],hlx,hly⟩
     have hnb:n'≤2+k:=by rw[HVV.out.1];exact HK.out.2.1 k
     have HNB:=ah hnb
     have hd:=hS.drew
     have j0':wr.drew.cell? ⟨bx,ox+k,none⟩=some (.int .u8 (un:Int)):=j0
     have j1':wr.drew.cell? ⟨by',oy+k,none⟩=some (.int .u8 (vn:Int)):=j1
     obtain⟨wd,hwd⟩:=aC (wr.drew)
     rw[←hwd] at hd j0' j1'
     have kR:=ah hwd
     have hbs:=ZH wd (un:Int) (vn:Int)
     have hAl:=hd.alloc (.cells #[.int .i64 (un:Int),.int .i64 (vn:Int)] 136)
     obtain⟨M,hM⟩:=aC (wd.heap.size)
     obtain⟨w5,hw5⟩:=aC (wd.alloc (.cells #[.int .i64 (un:Int),.int .i64 (vn:Int)] 136))
     rw[←hM,←hw5] at hbs hAl
     have hAp:Sat W w5 (sep (aK 136 2 a' n' c' vs') (sep (blk M (.cells #[.int .i64 (un:Int),.int .i64 (vn:Int)] 136 (0,0))) (sep (kn J2) X))):=by simpa only[ay,au,aj] using hAl
     have hsrc:∀b,some (⟨M,0,none⟩:Addr)=some b→∀j u,(vM [((un:Int),(vn:Int))])[j]?=some u→w5.cell? (b.add j)=some u:=by
      intro b hb j u hu
      cases hb
      rw[show (⟨M,0,none⟩:Addr).add j=⟨M,j,none⟩ by unfold Addr.add;split<;>simp_all,hAl.cell j]
      match j,hu with
      | 0,hu|1,hu=>simp[vM] at hu;subst hu;rfl
      | j+2,hu=>simp[vM] at hu
     have gI:=ah hsrc
     have HAP:=ah hAp
     clear hwd hu hv hcx hcy hun hvn hnb hd hM hAl hAp hsrc hlx hly hk hS j0 j1
     go_upto_region 7 with (fail)
     refine aA rfl (fun _=>True) [(0,.p),(1,.p),(2,.p),(3,.p),(4,.t),(5,.p),(6,.p),(7,.p),(8,.p),(9,.t),(10,.p),(11,.p),(12,.e false),(13,.e false),(14,.p)] (by kernel_rfl) ?_
     rw[←kR.out]
     have hS0:True:=trivial
     (repeat ((first|(refine eF (v:=?_) rfl rfl (fun w'=>?_) ?_;rotate_left;(go_simp;with_reducible rfl))|(refine eG (v:=?_) rfl rfl hS0 (fun w' hS=>?_) ?_;rotate_left;((try dsimp only at hS);go_simp;with_reducible rfl))|(refine eH (v:=?_) rfl rfl ?_ ?_;rotate_left;(go_simp;with_reducible rfl))|(refine bD rfl rfl ?_)|(refine bG rfl rfl hS0 ?_)|(refine bH rfl rfl ?_));simp only[Act.put,lsA,lsB,bC]))
     have hc1:IntKind.i64.wrap (un:Int)=(un:Int):=IntWalk.i64_in _ (by omega)
     have hc2:IntKind.i64.wrap (vn:Int)=(vn:Int):=IntWalk.i64_in _ (by omega)
     try rw[hc1,hc2]
     (refine iQ rfl rfl (fun K hK=>?_);go_simp)
     try rw[←hw5]
     clear hbs hw5 j0' j1'
     (refine hK _ _ (fun h=>by cases h) ?_;clear hK K;(try simp only[Act.put,lsA,lsB,bC]))
     refine iQ rfl rfl (fun K hK=>?_)
     refine fO (.tmp 45) (.tmp 57) 137 rfl 136 2 16 (.agg #[.int .i64 0,.int .i64 0]) Tryz.underlying137 IB rfl rfl HAP.out rfl (vM [((un:Int),(vn:Int))]) rfl (fun e=>by cases e) gI.out (PI _) (by have:=HNB.out;have:=LU.out.1;have:=oU.out.2.1;omega) (by have:=HNB.out;have:=LU.out.1;have:=oU.out.2.1;unfold maxLen;omega) ?_
     intro a6 c6 w6 h6
     have h7:Sat W w6 (sep (aK 136 2 a6 (n'+1) c6 (vs'++vM [((un:Int),(vn:Int))])) (sep (kn J2) X)):=by
      exact Sat.drop (by simpa only[ay,au,aj] using h6:Sat W w6 (sep (blk M (.cells #[.int .i64 (un:Int),.int .i64 (vn:Int)] 136 (0,0))) (sep (aK 136 2 a6 (n'+1) c6 (vs'++vM [((un:Int),(vn:Int))])) (sep (kn J2) X))))
     obtain⟨cs,hcs⟩:=aC (vs'++vM [((un:Int),(vn:Int))])
     rw[←hcs] at h7
     have nY:=ah hcs
     have H7:=ah h7
     clear h6 h7 HAP gI hcs
     (refine hK _ _ (fun h=>by cases h) ?_;clear hK K;(try simp only[Act.put,lsA,lsB,bC]))
     (repeat ((first|(refine eF (v:=?_) rfl rfl (fun w'=>?_) ?_;rotate_left;(go_simp;with_reducible rfl))|(refine eG (v:=?_) rfl rfl hS0 (fun w' hS=>?_) ?_;rotate_left;((try dsimp only at hS);go_simp;with_reducible rfl))|(refine eH (v:=?_) rfl rfl ?_ ?_;rotate_left;(go_simp;with_reducible rfl))|(refine bD rfl rfl ?_)|(refine bG rfl rfl hS0 ?_)|(refine bH rfl rfl ?_));simp only[Act.put,lsA,lsB,bC]))
     refine bM ?_
     go_wp2_with fail
     go_roundw
     case rel=>
      refine⟨k+1,a6,n'+1,c6,cs,rfl,by go_num,by have:=oU.out.2.1;omega,ah ⟨?_,?_,by have:=oU.out.2.2;omega⟩,H7.out⟩
      ·rw[oU.out.1,dI,HVV.out.1];rfl
      ·rw[oU.out.1,PE,nY.out,HVV.out.2.1]
     case measure=>simp[intOf];have:=oU.out.2.1;omega
    ·have afn:¬(k:Int)<(yn:Int):=by omega
     have HF:Hid (n'=(K k).length∧(EG BX BY).length≤k∧k≤1073741824):=ah ⟨HVV.out.1,by rw[KY,←Md.out.1,←HYE.out.1];omega,by have:=LU.out.1;omega⟩
     have hS':Sat W wr (sep (aK 136 2 a' n' c' (vM (K k))) (sep (kn J2) X)):=by rw[←HVV.out.2.1];exact hS
     have HS:=ah hS'
     clear hS hS' hlx hly hk HVV
     go_wp2
     go_meet
     case rel=>exact⟨k,a',n',c',rfl,HF,HS.out⟩
   ·have afm:¬(k:Int)<(xn:Int):=by omega
    have HF:Hid (n'=(K k).length∧(EG BX BY).length≤k∧k≤1073741824):=ah ⟨HVV.out.1,by rw[KY,←Md.out.1,←HYE.out.1];omega,by have:=LU.out.1;omega⟩
    have hS':Sat W wr (sep (aK 136 2 a' n' c' (vM (K k))) (sep (kn J2) X)):=by rw[←HVV.out.2.1];exact hS
    have HS:=ah hS'
    clear hS hS' hlx hk HVV
    go_wp2
    go_meet
    case rel=>exact⟨k,a',n',c',rfl,HF,HS.out⟩
 clear HO
 obtain⟨k,a',n',c',rfl,HF,hS⟩:=hcut
 have ac4:=HK.out.2.2.2 k HF.out.2.1
 have hnb:n'≤1073741826:=by rw[HF.out.1];have:=HK.out.2.1 k;have:=HF.out.2.2;omega
 have HNB:=ah hnb
 have hbs:=ZH wc (xn:Int) (yn:Int)
 have hAl:=hS.alloc (.cells #[.int .i64 (xn:Int),.int .i64 (yn:Int)] 136)
 obtain⟨M,hM⟩:=aC (wc.heap.size)
 obtain⟨w5,hw5⟩:=aC (wc.alloc (.cells #[.int .i64 (xn:Int),.int .i64 (yn:Int)] 136))
 rw[←hM,←hw5] at hbs hAl
 have hAp:Sat W w5 (sep (aK 136 2 a' n' c' (vM (K k))) (sep (blk M (.cells #[.int .i64 (xn:Int),.int .i64 (yn:Int)] 136 (0,0))) (sep (kn J2) X))):=by simpa only[ay,au,aj] using hAl
 have hsrc:∀b,some (⟨M,0,none⟩:Addr)=some b→∀j u,(vM [((xn:Int),(yn:Int))])[j]?=some u→w5.cell? (b.add j)=some u:=by
  intro b hb j u hu
  cases hb
  rw[show (⟨M,0,none⟩:Addr).add j=⟨M,j,none⟩ by unfold Addr.add;split<;>simp_all,hAl.cell j]
  match j,hu with
  | 0,hu|1,hu=>simp[vM] at hu;subst hu;rfl
  | j+2,hu=>simp[vM] at hu
 have gI:=ah hsrc
 have HKS:=ah ac4
 obtain⟨vs',hvs'⟩:=aC (vM (K k))
 rw[←hvs'] at hAp
 have Ic:=ah hvs'
 clear hS hM hAl hsrc hnb ac4 hvs'
 go_wp2_with (at_builtin;((try rw[←hw5]);refine aJ rfl (.tmp 59) (.tmp 65) 137 rfl 136 2 16 (.agg #[.int .i64 0,.int .i64 0]) Tryz.underlying137 IB rfl rfl hAp rfl (vM [((xn:Int),(yn:Int))]) rfl (fun e=>by cases e) gI.out (PI _) (by have:=HNB.out;omega) (by have:=HNB.out;unfold maxLen;omega) ?_))
 intro a6 c6 w6 h6
 have h7:Sat W w6 (sep (aK 136 2 a6 (n'+1) c6 (vM KS)) (sep (kn J2) X)):=by
  have h8:Sat W w6 (sep (blk M (.cells #[.int .i64 (xn:Int),.int .i64 (yn:Int)] 136 (0,0))) (sep (aK 136 2 a6 (n'+1) c6 (vs'++vM [((xn:Int),(yn:Int))])) (sep (kn J2) X))):=by simpa only[ay,au,aj] using h6
  rw[HKS.out,PE,←Ic.out];exact h8.drop
 have hm:n'+1=KS.length:=by rw[HKS.out,dI,HF.out.1];rfl
 obtain⟨m,hmm⟩:=aC (n'+1)
 rw[←hmm] at h7 hm ⊢
 have hm63:m≤1073741827:=by have:=HNB.out;omega
 obtain⟨g,rfl⟩:∃g,a6=some ⟨g,0,none⟩:=by
  rcases h7.dL with ⟨e1,e2,-⟩|⟨g,cur,e1,-⟩
  ·omega
  ·exact⟨g,e1⟩
 have HM:=ah hm
 have H7:=ah h7
 clear h6 h7 hAp hbs hw5 gI hmm hm
 go_wp2_with fail
 go_loopw [11] (fun kv wr=>∃(i:Nat),kv=.int .i64 i∧i≤m∧Hid (KX (KS.drop i)=rv)∧Sat W wr (sep (aK 136 2 (some ⟨g,0,none⟩) m c6 (vM KS)) (sep (kn J2) X))) (fun kv _=>m-(intOf kv).toNat)
 case atStart=>exact⟨0,rfl,by omega,ah (by rw[dP.out.1];rfl),H7.out⟩
 case round=>
  obtain⟨i,rfl,hi,HLX,hS⟩:=hrel
  clear H7
  by_cases hlt:i<m
  ·have hltz:(i:Int)<(m:Int):=by omega
   obtain⟨p,hp⟩:∃p,KS[i]?=some p:=⟨_,List.getElem?_eq_getElem (by have:=HM.out;omega)⟩
   obtain⟨u,v⟩:=p
   obtain⟨g0,g1⟩:=PG hp
   obtain⟨g',e',hcell⟩:=hS.kD (fun e=>by rw[e] at g0;simp at g0)
   cases e'
   have j0:=hcell _ _ g0
   have j1:=hcell _ _ g1
   have hL:=HLX.out
   rw[Rl hp] at hL
   have HL:=ah hL
   have HI:=ah hlt
   have HS:=ah hS
   have hd:=hS.drew
   have HD:=ah hd
   have HD2:=ah hd.drew
   have HFD:=ah (HX1.out _ _ hd.drop).drop.drop
   have afp:=ah (HX1.out _ _ hd.drew.drop).drop.drop
   have j0':wr.drew.cell? ⟨g,i*2,none⟩=some (.int .i64 u):=j0
   have j1':wr.drew.cell? ⟨g,i*2+1,none⟩=some (.int .i64 v):=j1
   have ajE:wr.drew.drew.cell? ⟨g,i*2,none⟩=some (.int .i64 u):=j0
   have j1'':wr.drew.drew.cell? ⟨g,i*2+1,none⟩=some (.int .i64 v):=j1
   clear hp g0 g1 hL hlt hi hcell hd hS HLX j0 j1
   by_cases h1:u<v
   ·have HF:Hid (rv=-1):=ah (by rw[←HL.out];exact if_pos h1)
    go_upto_region 12 with (fail)
    refine aA rfl (fun _=>True) [(0,.p),(1,.p),(2,.p),(3,.p),(4,.t),(5,.p),(6,.p),(7,.p),(8,.p),(9,.t),(10,.p)] (by kernel_rfl) ?_
    have hS0:True:=trivial
    (repeat ((first|(refine eF (v:=?_) rfl rfl (fun w'=>?_) ?_;rotate_left;(go_simp;with_reducible rfl))|(refine eG (v:=?_) rfl rfl hS0 (fun w' hS=>?_) ?_;rotate_left;((try dsimp only at hS);go_simp;with_reducible rfl))|(refine eH (v:=?_) rfl rfl ?_ ?_;rotate_left;(go_simp;with_reducible rfl))|(refine bD rfl rfl ?_)|(refine bG rfl rfl hS0 ?_)|(refine bH rfl rfl ?_));simp only[Act.put,lsA,lsB,bC]))
    try rw[show decide (u<v)=true from decide_eq_true h1]
    refine bM ?_
    clear h1
    go_wp2
    rw[dZ.out]
    exact⟨J2,by rw[HF.out];try rfl,HJ2.out,HFD.out⟩
   ·have hb1:decide (u<v)=false:=decide_eq_false h1
    go_upto_region 12 with (fail)
    refine aA rfl (fun _=>True) [(0,.p),(1,.p),(2,.p),(3,.p),(4,.t),(5,.p),(6,.p),(7,.p),(8,.p),(9,.t),(10,.p)] (by kernel_rfl) ?_
    have hS0:True:=trivial
    (repeat ((first|(refine eF (v:=?_) rfl rfl (fun w'=>?_) ?_;rotate_left;(go_simp;with_reducible rfl))|(refine eG (v:=?_) rfl rfl hS0 (fun w' hS=>?_) ?_;rotate_left;((try dsimp only at hS);go_simp;with_reducible rfl))|(refine eH (v:=?_) rfl rfl ?_ ?_;rotate_left;(go_simp;with_reducible rfl))|(refine bD rfl rfl ?_)|(refine bG rfl rfl hS0 ?_)|(refine bH rfl rfl ?_));simp only[Act.put,lsA,lsB,bC]))
    try rw[hb1]
    refine bM ?_
    by_cases h2:v<u
    ·have HF:Hid (rv=1):=ah (by rw[←HL.out];rw[if_neg h1];exact if_pos h2)
     have hb2:decide (v<u)=true:=decide_eq_true h2
     clear h1 h2 hb1
     go_upto_region 14 with (fail)
     refine aA rfl (fun _=>True) [(0,.p),(1,.p),(2,.p),(3,.p),(4,.t),(5,.p),(6,.p),(7,.p),(8,.p),(9,.t),(10,.p)] (by kernel_rfl) ?_
     have hS0:True:=trivial
     (repeat ((first|(refine eF (v:=?_) rfl rfl (fun w'=>?_) ?_;rotate_left;(go_simp;with_reducible rfl))|(refine eG (v:=?_) rfl rfl hS0 (fun w' hS=>?_) ?_;rotate_left;((try dsimp only at hS);go_simp;with_reducible rfl))|(refine eH (v:=?_) rfl rfl ?_ ?_;rotate_left;(go_simp;with_reducible rfl))|(refine bD rfl rfl ?_)|(refine bG rfl rfl hS0 ?_)|(refine bH rfl rfl ?_));simp only[Act.put,lsA,lsB,bC]))
     try rw[hb2]
     refine bM ?_
     clear hb2
     go_wp2
     rw[dZ.out]
     exact⟨J2,by rw[HF.out];try rfl,HJ2.out,afp.out⟩
    ·have HF:Hid (KX (KS.drop (i+1))=rv):=ah (by rw[←HL.out];rw[if_neg h1];exact (if_neg h2).symm)
     have hb2:decide (v<u)=false:=decide_eq_false h2
     clear h1 h2 hb1
     go_upto_region 14 with (fail)
     refine aA rfl (fun _=>True) [(0,.p),(1,.p),(2,.p),(3,.p),(4,.t),(5,.p),(6,.p),(7,.p),(8,.p),(9,.t),(10,.p)] (by kernel_rfl) ?_
     have hS0:True:=trivial
     (repeat ((first|(refine eF (v:=?_) rfl rfl (fun w'=>?_) ?_;rotate_left;(go_simp;with_reducible rfl))|(refine eG (v:=?_) rfl rfl hS0 (fun w' hS=>?_) ?_;rotate_left;((try dsimp only at hS);go_simp;with_reducible rfl))|(refine eH (v:=?_) rfl rfl ?_ ?_;rotate_left;(go_simp;with_reducible rfl))|(refine bD rfl rfl ?_)|(refine bG rfl rfl hS0 ?_)|(refine bH rfl rfl ?_));simp only[Act.put,lsA,lsB,bC]))
     try rw[hb2]
     refine bM ?_
     clear hb2
     go_wp2
     go_roundw
     case rel=>exact⟨i+1,by go_num,by have:=HI.out;omega,HF,HD2.out⟩
     case measure=>simp[intOf];have:=HI.out;omega
  ·obtain rfl:i=m:=by omega
   have HF:Hid (rv=0):=ah (by
    have:=HLX.out
    rw[List.drop_of_length_le (by rw[←HM.out];exact Nat.le_refl _)] at this
    exact this.symm)
   have HFD:=ah (HX1.out _ _ hS.drop).drop.drop
   clear hS hlt hi HLX
   go_wp2
   rw[dZ.out]
   exact⟨J2,by rw[HF.out];try rfl,HJ2.out,HFD.out⟩
end Go.Proofs.YtgicfogmdfdjmaaGreatDoor
