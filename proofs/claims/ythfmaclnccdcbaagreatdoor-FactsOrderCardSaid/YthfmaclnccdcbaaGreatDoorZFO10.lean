/- Part of a proof. -/
import Derived.Test.YthfmaclnccdcbaaGreatDoorZFO9
namespace PA
open Go Go.RowKit
theorem flat_get {α:Type} {k:Nat}:∀(L:List (List α)),(∀c∈L,c.length=k)→∀(j:Nat) (hj:j<L.length) (q:Nat),q<k→L.flatten[j*k+q]?=L[j][q]?
 | [],_,j,hj,_,_=>by simp at hj
 | c::L,hl,0,_,q,hq=>by
  have hc:=hl c (List.mem_cons_self ..);rw[List.flatten_cons,Nat.zero_mul,Nat.zero_add,List.getElem?_append_left (by omega)];rfl
 | c::L,hl,j+1,hj,q,hq=>by
  have hc:=hl c (List.mem_cons_self ..);rw[List.flatten_cons,List.getElem?_append_right (by rw[hc,Nat.add_mul];omega),hc,show (j+1)*k+q-k=j*k+q by rw[Nat.add_mul];omega];rw[flat_get L (fun c h=>hl c (tY _ h)) j (by simpa using hj) q hq];rfl
theorem gU.RS {α:Type} {R:Rep α} {I:Mem} {k:Nat}:∀{css:List (List Value)} {l:List α},gU (fun c x=>R.rel I c x∧c.length=k) css l→∀c∈css,c.length=k
 | [],_,_,c,hc=>by cases hc
 | a::css,b::l,h,c,hc=>by
  rcases List.mem_cons.1 hc with rfl|hc
  ·exact h.1.2
  ·exact gU.RS h.2 c hc
 | _::_,[],h,_,_=>h.elim
theorem mJ {α:Type} {R:Rep α} {k:Nat} {I:Mem} {a:Option Addr} {n c:Nat} {l:List α} (h:(R.slice k).rel I [.slice a n c] l) {i:Nat} {x:α} (hx:l[i]?=some x) (hk:0<k):
 ∃b o cs,a=some ⟨b,o,none⟩∧R.rel I cs x∧cs.length=k∧∀w',Ext I w'→∀j u,cs[j]?=some u→w'.cell? ⟨b,o+i*k+j,none⟩=some u:=by
 obtain⟨hi,rfl⟩:=qM hx;obtain⟨a',c',cells,e,hsw,hc,css,rfl,h2⟩:=h;simp only[List.cons.injEq,Value.slice.injEq,and_true] at e;obtain⟨rfl,-,rfl⟩:=e;have hlen:=gU.length h2;have hj:i<css.length:=by omega
 have hla:=gU.RS h2;have hg:=h2.get i hj hi;have hne:css.flatten≠[]:=fun e=>by
  have:=flat_get css hla i hj 0 hk;rw[e] at this;have h3:css[i].length=k:=hg.2;rw[List.getElem?_nil,iM (by omega)] at this;cases this
 obtain⟨b,o,rfl,hcell⟩:=lD hc hne;refine⟨b,o,css[i],rfl,hg.1,hg.2,fun w' he j u hu=>?_⟩;have hjk:j<k:=by have:=(qM hu).1;have:=hg.2;omega
 have:=hcell w' he (i*k+j) u (by rw[flat_get css hla i hj j hjk];exact hu);rw[←Nat.add_assoc] at this;exact this
theorem aJ {α:Type} {R:Rep α} {k:Nat} {I:Mem} {a:Option Addr} {n c:Nat} {l:List α} (h:(R.slice k).rel I [.slice a n c] l):n=l.length∧Ld a n c∧(n:Int)≤9223372036854775807:=by
 obtain⟨a',c',cells,e,hsw,-⟩:=h;simp only[List.cons.injEq,Value.slice.injEq,and_true] at e;obtain⟨rfl,rfl,rfl⟩:=e;exact⟨rfl,hsw,by have h1:=hsw.1;have h2:=hsw.2.1;unfold maxLen at h2;omega⟩
theorem vU {I:Mem} {a:Option Addr} {n c:Nat} {l:List Iv} (h:(Yr.slice 8).rel I [.slice a n c] l) {i:Nat} {x:Iv} (hx:l[i]?=some x):
 ∃b o,a=some ⟨b,o,none⟩∧∀w',Ext I w'→w'.cell? ⟨b,o+i*8,none⟩=some (.int .i64 x.ln)∧w'.cell? ⟨b,o+i*8+1,none⟩=some (.int .i64 x.ld)∧w'.cell? ⟨b,o+i*8+2,none⟩=some (.int .i64 x.hn)∧w'.cell? ⟨b,o+i*8+3,none⟩=some (.int .i64 x.hd) ∧
  w'.cell? ⟨b,o+i*8+4,none⟩=some (.bool x.lo)∧w'.cell? ⟨b,o+i*8+5,none⟩=some (.bool x.ho)∧w'.cell? ⟨b,o+i*8+6,none⟩=some (.bool x.li)∧w'.cell? ⟨b,o+i*8+7,none⟩=some (.bool x.hi):=by
 obtain⟨b,o,cs,rfl,hr,-,hc⟩:=mJ h hx (by omega);have e:cs=[.int .i64 x.ln,.int .i64 x.ld,.int .i64 x.hn,.int .i64 x.hd,.bool x.lo,.bool x.ho,.bool x.li,.bool x.hi]:=hr;subst e;exact⟨b,o,rfl,fun w' he=>⟨hc w' he 0 _ rfl,hc w' he 1 _ rfl,hc w' he 2 _ rfl,hc w' he 3 _ rfl,hc w' he 4 _ rfl,hc w' he 5 _ rfl,hc w' he 6 _ rfl,hc w' he 7 _ rfl⟩⟩
end PA
namespace Go.Proofs.YthfmaclnccdcbaaGreatDoor
open Go.RowKit PA
theorem Iz {l:List Iv} {x:Iv} (h:l[0]?=some x):tZ l 0=ig x:=by
 unfold tZ;rw[h];simp
theorem Am {l:List Iv} {j:Nat} {x y:Iv} (h:l[j+1]?=some x) (h':l[j]?=some y):tZ l (j+1)=(ig x&&rX y x):=by
 unfold tZ;rw[h];simp only;rw[h']
theorem wE {l:List Iv} {j:Nat} {x:Iv} (h:l[j]?=some x) (hs:tZ l j=true):ig x=true:=by
 unfold tZ at hs;rw[h] at hs;simp only[Bool.and_eq_true] at hs;exact hs.1
theorem SG {l:List Iv} {n i:Nat} (hi:i<n) (h:BU l n=true):tZ l i=true:=by
 cases hs:tZ l i with
 | true=>rfl
 | false=>rw[uY hi hs] at h;cases h
set_option maxRecDepth 100000 in
set_option maxHeartbeats 4000000 in
theorem N9 {W w:World} {A:aB} {I:Mem} (a:Option Addr) (c:Nat) (l:List Iv) (hv:(Yr.slice 8).rel I [.slice a l.length c] l) (h:Sat W w (sep (kn I) A)):
 Calls Tryz.prog 217 #[.slice a l.length c] w fun e w'=>e=.returned (.int .i64 (KO l))∧Sat W w' (sep (kn I) A):=by
 obtain⟨n,hn⟩:=aC (l.length);obtain⟨sv,hsv⟩:=aC (KO l);have hl63:=(aJ hv).2.2;rw[←hn] at hv hl63 ⊢;rw[←hsv];have KH:=ah (aH hsv hn);have HV:=ah hv;have H:=ah h;clear hv h hsv hn;go_enter Tryz.func217,Tryz.ntmps217;go_wp2;go_loopw [3] (fun iv wr=>∃i:Nat,iv=.int .i64 i∧i≤n∧Hid (BU l i=true)∧Sat W wr (sep (kn I) A)) (fun iv _=>n-(intOf iv).toNat)
 case atStart=>exact⟨0,rfl,by omega,ah (Ap l),H.out⟩
 case round=>
  obtain⟨i,rfl,hi,hsp,hS⟩:=hrel;by_cases hlt:i<n
  ·have hltz:(i:Int)<(n:Int):=by omega
   have hil:i<l.length:=by have:=KH.out.2;omega
   obtain⟨x,hx⟩:∃x,l[i]?=some x:=⟨_,iM hil⟩
   obtain⟨b,o,rfl,hcell⟩:=vU HV.out hx;have HC:=ah hcell;obtain⟨k0,k1,k2,k3,k4,k5,k6,k7⟩:=hcell wr hS.ext;obtain⟨g,hg⟩:=aC (ig x);have hgs:=Qx x hS;rw[←hg] at hgs;have HG:=ah hgs;have HX:=ah (aH hx hg);have HI:=ah (aH hlt hil);clear hcell hS hgs hx hg hlt hil hi H;unfold Hw at HG;go_wp2_with fail;refine HG.out.mono ?_;rintro e w2 ⟨rfl,h2⟩;clear k0 k1 k2 k3 k4 k5 k6 k7 HG;have hd:=h2.drew;have H2:=ah hd;cases g with
   | false=>
    clear h2 hd;go_upto_region 5 with fail;refine aG rfl (fun _=>True) [(0,.p),(1,.p),(2,.p),(3,.p),(4,.p),(5,.p),(6,.p),(7,.p),(8,.p),(9,.p),(10,.t),(11,.p),(12,.p),(13,.p),(14,.t),(15,.e false),(16,.p),(17,.p),(18,.p)] (by kernel_rfl) ?_;have hS0:True:=trivial;refine bG ?_
    (refine C_eo rfl rfl (fun h=>by first|(cases h;done)|exact hS0) ?_;simp only[Act.put,lsA,lsB,lq])
    refine bG ?_;refine dJ ?_;go_wp2;go_ret;refine⟨?_,H2.out⟩;have hsa:tZ l i=false:=by
     cases hsa:tZ l i with
     | false=>rfl
     | true=>have:=wE HX.out.1 hsa;rw[←HX.out.2] at this;cases this
    have:sv=1:=by rw[KH.out.1];unfold KO;rw[if_pos (uY (by have:=HI.out.1;have:=KH.out.2;omega) hsa)]
    rw[this];rfl
   | true=>
    cases i with
    | zero=>
     clear h2 hd;go_upto_region 5 with fail;refine aG rfl (fun _=>True) [(0,.p),(1,.p),(2,.p),(3,.p),(4,.p),(5,.p),(6,.p),(7,.p),(8,.p),(9,.p),(10,.t),(11,.p),(12,.p),(13,.p),(14,.t),(15,.e false),(16,.p),(17,.p),(18,.p)] (by kernel_rfl) ?_;have hS0:True:=trivial;refine bG ?_
     (refine C_eo rfl rfl (fun h=>by first|(cases h;done)|exact hS0) ?_;simp only[Act.put,lsA,lsB,lq])
     refine bG ?_;refine dJ ?_;go_wp2;go_roundw;case rel=>exact⟨1,by go_num,by have:=HI.out;omega,ah (by rw[rJ,hsp.out,Iz HX.out.1,←HX.out.2];rfl),H2.out⟩
     case measure=>simp[intOf];have:=HI.out;omega
    | succ j=>
     obtain⟨y,hy⟩:∃y,l[j]?=some y:=⟨_,iM (by have:=HI.out.2;omega)⟩
     obtain⟨b',o',e',hcj⟩:=vU HV.out hy;cases e';obtain⟨k0,k1,k2,k3,k4,k5,k6,k7⟩:=HC.out _ hd.ext;obtain⟨j0,j1,j2,j3,j4,j5,j6,j7⟩:=hcj _ hd.ext;have TT:ig y=true:=wE hy (SG (by omega) hsp.out);obtain⟨ap,hap⟩:=aC (rX y x);have hra:=NT y x TT HX.out.2.symm hd;rw[←hap] at hra;have YD:=ah hra;have HY:=ah (aH hy hap);have hji:(j:Int)+1-1=(j:Int):=by omega
     have hjw:IntKind.i64.wrap (j:Int)=(j:Int):=IntWalk.i64_in _ (by omega);have hjn:(j:Int)<(n:Int):=by omega
     have hj0:(0:Int)<(j:Int)+1:=by omega
     have hj1:(j:Int)+1<(n:Int):=by omega
     obtain⟨wd,hwd⟩:=aC (w2.drew);rw[←hwd] at k0 k1 k2 k3 k4 k5 k6 k7 j0 j1 j2 j3 j4 j5 j6 j7 YD;have jY:=ah hwd;have hjz:(0:Int)≤(j:Int)+1:=by omega
     have hjt:((j:Int)+1).toNat=j+1:=by omega
     clear h2 hd hcj TT hra hy hap hwd HC H2 hltz;unfold Hw at YD;go_upto_region 5 with fail;refine aG rfl (fun _=>True) [(0,.p),(1,.p),(2,.p),(3,.p),(4,.p),(5,.p),(6,.p),(7,.p),(8,.p),(9,.p),(10,.t),(11,.p),(12,.p),(13,.p),(14,.t),(15,.e false),(16,.p),(17,.p),(18,.p)] (by kernel_rfl) ?_;rw[←jY.out];have hS0:True:=trivial;refine bG ?_
     (refine jJ rfl rfl (fun K hK=>?_);go_simp)
     refine YD.out.mono ?_;rintro e w3 ⟨rfl,h3⟩;refine dY ?_;clear hK K;refine bG ?_;refine dJ ?_;have H3:=ah h3;clear h3 YD k0 k1 k2 k3 k4 k5 k6 k7 j0 j1 j2 j3 j4 j5 j6 j7;cases ap with
     | true=>
      go_wp2;go_roundw;case rel=>exact⟨j+2,by go_num,by have:=HI.out;omega,ah (by rw[rJ,hsp.out,Am HX.out.1 HY.out.1,←HX.out.2,←HY.out.2];rfl),H3.out⟩
      case measure=>simp[intOf];have:=HI.out;omega
     | false=>
      go_wp2;go_ret;refine⟨?_,H3.out⟩;have hsa:tZ l (j+1)=false:=by rw[Am HX.out.1 HY.out.1,←HX.out.2,←HY.out.2];rfl
      have:sv=1:=by rw[KH.out.1];unfold KO;rw[if_pos (uY (by have:=HI.out.1;have:=KH.out.2;omega) hsa)]
      rw[this];rfl
  ·obtain rfl:i=n:=by omega
   have hsn:BU l l.length=true:=by rw[←KH.out.2];exact hsp.out
   have HS:=ah hS;by_cases h32:32<i
   ·have PU:32<(i:Int):=by omega
    have:sv=4:=by rw[KH.out.1];unfold KO;rw[if_neg (by rw[hsn];decide),if_pos (by have:=KH.out.2;omega)]
    have H4:=ah this;clear this hsn hS H;go_wp2;go_ret;exact⟨by rw[H4.out];rfl,HS.out⟩
   ·have PU:¬32<(i:Int):=by omega
    have:sv=0:=by rw[KH.out.1];unfold KO;rw[if_neg (by rw[hsn];decide),if_neg (by have:=KH.out.2;omega)]
    have H4:=ah this;clear this hsn hS H;go_wp2;go_ret;exact⟨by rw[H4.out];rfl,HS.out⟩
end Go.Proofs.YthfmaclnccdcbaaGreatDoor
namespace PA
open Go Go.RowKit
theorem Fm.FB (l:List Fm) (i:Nat) {f:Fm} (h:l[i]?=some f):Fm.sizes (l.take (i+1))=Fm.sizes (l.take i)+Fm.size f:=by
 obtain⟨hi,rfl⟩:=qM h;rw[List.take_succ_eq_append_getElem hi];have key:∀(a:List Fm) (f:Fm),Fm.sizes (a++[f])=Fm.sizes a+Fm.size f:=by
  intro a f
  induction a with
  | nil=>simp[Fm.sizes]
  | cons g a ih=>rw[pV,Fm.sizes,Fm.sizes,ih];omega
 exact key _ _
theorem Fm.DX (l:List Fm) (i:Nat) {f:Fm} (h:l[i]?=some f):Fm.dK (l.take (i+1))=max (Fm.dK (l.take i)) (Fm.deep f):=by
 obtain⟨hi,rfl⟩:=qM h;rw[List.take_succ_eq_append_getElem hi];have key:∀(a:List Fm) (f:Fm),Fm.dK (a++[f])=max (Fm.dK a) (Fm.deep f):=by
  intro a f
  induction a with
  | nil=>simp[Fm.dK]
  | cons g a ih=>rw[pV,Fm.dK,Fm.dK,ih];omega
 exact key _ _
theorem Fm.OC (sp:List Iv→Bool) (l:List Fm) (i:Nat) {f:Fm} (h:l[i]?=some f):Fm.dN sp (l.take (i+1))=(Fm.dN sp (l.take i)&&Fm.whole sp f):=by
 obtain⟨hi,rfl⟩:=qM h;rw[List.take_succ_eq_append_getElem hi];have key:∀(a:List Fm) (f:Fm),Fm.dN sp (a++[f])=(Fm.dN sp a&&Fm.whole sp f):=by
  intro a f
  induction a with
  | nil=>simp[Fm.dN]
  | cons g a ih=>rw[pV,Fm.dN,Fm.dN,ih,Bool.and_assoc]
 exact key _ _
theorem Fm.QM (sp:List Iv→Bool) {l:List Fm} {f:Fm} (hm:f∈l) (h:Fm.whole sp f=false):Fm.dN sp l=false:=by
 induction l with
 | nil=>cases hm
 | cons g l ih=>
  rw[Fm.dN];rcases List.mem_cons.1 hm with rfl|hm
  ·rw[h];rfl
  ·rw[ih hm];simp
theorem Fm.lQ {l:List Fm} {f:Fm} (h:f∈l):Fm.size f≤Fm.sizes l:=by
 induction l with
 | nil=>cases h
 | cons g l ih=>
  rw[Fm.sizes];rcases List.mem_cons.1 h with rfl|h
  ·omega
  ·have:=ih h;omega
theorem Fm.Rx:∀f:Fm,Fm.deep f≤Fm.size f:=by
 intro f;refine Fm.ind (P:=fun f=>Fm.deep f≤Fm.size f) (fun o n i k ih=>?_) f;rw[Fm.deep,Fm.size];have:Fm.dK k≤Fm.sizes k:=by
  induction k with
  | nil=>simp[Fm.dK]
  | cons g k ihk=>
   rw[Fm.dK,Fm.sizes];have h1:=ih g (List.mem_cons_self ..);have h2:=ihk fun f hf=>ih f (tY _ hf)
   omega
 omega
theorem Fm.LP (l:List Fm):Fm.dK l≤Fm.sizes l:=by
 induction l with
 | nil=>simp[Fm.dK]
 | cons g l ih=>rw[Fm.dK,Fm.sizes];have:=Fm.Rx g;omega
theorem Fm.rH (l:List Fm) (i:Nat):Fm.sizes (l.take i)≤Fm.sizes l:=by
 induction l generalizing i with
 | nil=>simp
 | cons g l ih=>
  cases i with
  | zero=>simp[Fm.sizes]
  | succ i=>rw[List.take_succ_cons,Fm.sizes,Fm.sizes];have:=ih i;omega
theorem lH {W w:World} {A:aB} {g:Nat} {a b c d:Value} {t:TypeId} (h:Sat W w (sep (blk g (.cells #[a,b,c,d] t (0,0))) A)):
 w.cell? ⟨g,0,none⟩=some a∧w.cell? ⟨g,1,none⟩=some b∧w.cell? ⟨g,2,none⟩=some c∧w.cell? ⟨g,3,none⟩=some d:=
 ⟨h.cell 0,h.cell 1,h.cell 2,h.cell 3⟩
theorem gY {I:Mem} {a:Option Addr} {n c:Nat} {l:List Fm} (h:(rF.slice 4).rel I [.slice a n c] l) {i:Nat} {f:Fm} (hx:l[i]?=some f):
 ∃b o p q x1 n1 c1 x2 n2 c2,a=some ⟨b,o,none⟩∧rF.rel I [.int .i64 p,.int .i64 q,.slice x1 n1 c1,.slice x2 n2 c2] f ∧
  ∀w',Ext I w'→w'.cell? ⟨b,o+i*4,none⟩=some (.int .i64 p)∧w'.cell? ⟨b,o+i*4+1,none⟩=some (.int .i64 q)∧w'.cell? ⟨b,o+i*4+2,none⟩=some (.slice x1 n1 c1)∧w'.cell? ⟨b,o+i*4+3,none⟩=some (.slice x2 n2 c2):=by
 obtain⟨b,o,cs,rfl,hr,-,hc⟩:=mJ h hx (by omega);obtain⟨p,q,ins,kids⟩:=f;obtain⟨x1,c1,x2,c2,rfl,h1,h2⟩:=dW.1 hr;exact⟨b,o,p,q,x1,_,c1,x2,_,c2,rfl,dW.2 ⟨x1,c1,x2,c2,rfl,h1,h2⟩,fun w' he=>⟨hc w' he 0 _ rfl,hc w' he 1 _ rfl,hc w' he 2 _ rfl,hc w' he 3 _ rfl⟩⟩
end PA
namespace Go.Proofs.YthfmaclnccdcbaaGreatDoor
open Go.RowKit PA
def nN:Nat:=1000000
set_option maxRecDepth 100000 in
set_option maxHeartbeats 4000000 in
theorem JF {W:World} {I:Mem} (f:Fm):∀(w:World) (A:aB) (p q:Int) (x1:Option Addr) (n1 c1:Nat) (x2:Option Addr) (n2 c2:Nat),rF.rel I [.int .i64 p,.int .i64 q,.slice x1 n1 c1,.slice x2 n2 c2] f→f.size≤nN→Sat W w (sep (kn I) A) →
 Calls Tryz.prog 167 #[.agg #[.int .i64 p,.int .i64 q,.slice x1 n1 c1,.slice x2 n2 c2]] w fun e w'=>e=.returned (.int .i64 (f.size:Nat))∧Sat W w' (sep (kn I) A):=by
 refine Fm.ind (P:=fun f=>∀(w:World) (A:aB) (p q:Int) (x1:Option Addr) (n1 c1:Nat) (x2:Option Addr) (n2 c2:Nat),rF.rel I [.int .i64 p,.int .i64 q,.slice x1 n1 c1,.slice x2 n2 c2] f→f.size≤nN→Sat W w (sep (kn I) A) →
  Calls Tryz.prog 167 #[.agg #[.int .i64 p,.int .i64 q,.slice x1 n1 c1,.slice x2 n2 c2]] w fun e w'=>e=.returned (.int .i64 (f.size:Nat))∧Sat W w' (sep (kn I) A)) (fun o n i k ih=>?_) f
 intro w A p q x1 n1 c1 x2 n2 c2 hr hsz h;obtain⟨x1',c1',x2',c2',e,hi,hk⟩:=dW.1 hr;simp only[List.cons.injEq,Value.int.injEq,Value.slice.injEq,true_and,and_true] at e;obtain⟨rfl,rfl,⟨rfl,rfl,rfl⟩,⟨rfl,rfl,rfl⟩⟩:=e;have h1:=h.alloc (.cells #[.int .i64 p,.int .i64 q,.slice x1 i.length c1,.slice x2 k.length c2] 34);obtain⟨B,hB⟩:=aC (w.heap.size);obtain⟨w1,hw1⟩:=aC (w.alloc (.cells #[.int .i64 p,.int .i64 q,.slice x1 i.length c1,.slice x2 k.length c2] 34));rw[←hB,←hw1] at h1;have HB:=ah (aH hB hw1);have H1:=ah h1;obtain⟨nk,hnk⟩:=aC (k.length);obtain⟨ni,hni⟩:=aC (i.length);obtain⟨sz,hs⟩:=aC (Fm.sizes k);have hszz:(Fm.mk p q i k).size=sz+1:=by rw[hs,Fm.size]
 have uP:=(aJ hk).2.2;rw[hszz] at hsz ⊢;have HIH:=ah ih;rw[←hnk] at hk uP H1 ⊢;rw[←hni] at H1 ⊢;simp only[←hni,←hnk] at HB;have HK:=ah hk;have HN:=ah (aH hnk hs);have ML:sz≤1000000:=by unfold nN at hsz;omega
 have KI:=ah ML;have aaH:(sz:Int)≤1000000:=by omega
 clear hr hsz h hi hk h1 hB hw1 hnk hni hs hszz ih ML;go_enter Tryz.func167,Tryz.ntmps167;go_upto_region 1 with fail;rw[←HB.out.1,←HB.out.2];go_wp2_with fail;go_loopw [3,4] (fun sv iv wr=>∃(j s:Nat),sv=.int .i64 s∧iv=.int .i64 j∧j≤nk∧s≤sz+1∧Hid (s=1+Fm.sizes (k.take j))∧Sat W wr (sep (blk B (.cells #[.int .i64 p,.int .i64 q,.slice x1 ni c1,.slice x2 nk c2] 34 (0,0))) (sep (kn I) A))) (fun _ iv _=>nk-(intOf iv).toNat)
 case atStart=>exact⟨0,1,rfl,rfl,by omega,by omega,ah (by simp[Fm.sizes]),H1.out⟩
 case round=>
  obtain⟨j,s,rfl,rfl,hj,hsl,HS,hS⟩:=hrel;obtain⟨-,-,-,k3⟩:=lH hS;by_cases hlt:j<nk
  ·have hltz:(j:Int)<(nk:Int):=by omega
   obtain⟨g,hg⟩:∃g,k[j]?=some g:=⟨_,iM (by have:=HN.out.1;omega)⟩
   obtain⟨b,o,p',q',y1,m1,d1,y2,m2,d2,rfl,hgr,hcell⟩:=gY HK.out hg;have hmem:g∈k:=mZ hg;obtain⟨j0,j1,j2,j3⟩:=hcell wr hS.p1.ext;obtain⟨sg,hsg⟩:=aC (g.size);have hgs:=Fm.lQ hmem;have htk:=Fm.FB k j hg;have htl:=Fm.rH k (j+1);have hb:s+sg≤sz+1:=by rw[HS.out,hsg,HN.out.2];omega
   have hrec:=HIH.out g hmem wr (sep (blk B (.cells #[.int .i64 p,.int .i64 q,.slice x1 ni c1,.slice (some ⟨b,o,none⟩) nk c2] 34 (0,0))) A) p' q' y1 m1 d1 y2 m2 d2 hgr (by have:=KI.out;have:=HN.out.2;unfold nN;omega) hS.p1;rw[←hsg] at hrec;have HR:=ah hrec;have HT:Hid (s+sg=1+Fm.sizes (k.take (j+1))):=ah (by rw[htk,HS.out,hsg];omega);have hbz:(s:Int)+(sg:Int)≤(sz:Int)+1:=by omega
   have vw:=ah (aH hb hlt);have hsz0:(0:Int)≤s:=by omega
   clear hgr hcell hmem hsg hgs htk htl hrec hg hS hb hlt hj hsl H1;go_upto_region 5 with fail;go_wp2_with fail;refine HR.out.mono ?_;rintro e w2 ⟨rfl,h2⟩;have H2:=ah h2.p1;clear h2 HR j0 j1 j2 j3 k3;go_wp2;go_roundw;case rel=>exact⟨j+1,s+sg,by go_num,by go_num,by have:=vw.out;omega,vw.out.1,HT,H2.out⟩
   case measure=>simp[intOf];have:=vw.out;omega
  ·obtain rfl:j=nk:=by omega
   have hss:s=sz+1:=by rw[HS.out,HN.out.2,List.take_of_length_le (by have:=HN.out.1;omega)];omega
   have HSS:=ah hss;have HF:=ah hS.drop;clear hS hss H1;go_wp2;go_ret;exact⟨by rw[HSS.out];rfl,HF.out⟩
end Go.Proofs.YthfmaclnccdcbaaGreatDoor
namespace PA
open Go Go.RowKit
structure YK (x:Pa):Prop where
 td:∀f∈x.td,f.size≤Go.Proofs.YthfmaclnccdcbaaGreatDoor.nN
 tc:∀c∈x.tc,c.body.size≤Go.Proofs.YthfmaclnccdcbaaGreatDoor.nN
 cl:∀c∈x.cl,c.body.size≤Go.Proofs.YthfmaclnccdcbaaGreatDoor.nN
 fx:x.fx.size≤Go.Proofs.YthfmaclnccdcbaaGreatDoor.nN
end PA
