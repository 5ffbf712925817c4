/- Part of a proof. -/
import Derived.Sort.CutIn
import Derived.Test.YthfmaclnccdcbaaGreatDoorGActsValid14
namespace Go.Proofs.YthfmaclnccdcbaaGreatDoor
open Go.RowKit PA
attribute [local go_sem] Oper.semAt_some
set_option maxRecDepth 100000 in
set_option maxHeartbeats 8000000 in
theorem down11 {W:World} {I:Mem} {Pn:Fm→Prop} {R Z:List FV→aB} {lp yb wb N:Nat} (hY:∀m,uy Fence.wide m Tryz.prog W lp pG (Df I Pn) N R Z) (o n:Int) (i:List Iv) (k:List Fm) (hD:∀g∈k,Down W I Pn R Z lp yb wb N g):
 Down W I Pn R Z lp yb wb N (.mk o n i k):=by
 intro p q x1 n1 c1 x2 n2 c2 pre w A hr hP hN h
 obtain⟨x1',c1',x2',c2',e,hi,hk⟩:=dL.1 hr
 simp only[List.cons.injEq,Value.int.injEq,Value.slice.injEq,true_and,and_true] at e
 obtain⟨rfl,rfl,⟨rfl,rfl,rfl⟩,⟨rfl,rfl,rfl⟩⟩:=e
 refine (callsIn_wide (n:=5)).1 ?_
 have hN1:pre.length<N:=by rw[Fm.size] at hN;omega
 have YM:∀x:FV,(pre++[x]).length+Fm.sizes k≤N:=fun x=>by rw[Fm.size] at hN;rw[fA,List.length_singleton];omega
 have Xh:(Fm.mk p q i k).nodes=Fm.mk p q i k::Fm.bJ k:=by rw[Fm.nodes]
 have YN:∀g∈Fm.bJ k,Pn g:=fun g hg=>hP g (by rw[Xh];exact List.mem_cons_of_mem _ hg)
 have hP0:Pn (Fm.mk p q i k):=hP _ (by rw[Xh];exact List.mem_cons_self ..)
 have VG:=fun (x:FV) (w':World) (A':aB) (h':Sat W w' (sep (R (pre++[x])) (sep (jI lp yb wb) (sep (kn I) A'))))=>fcontF hD x2 c2 hk YN (pre++[x]) w' A' (YM x) h'
 have h1:=h.alloc (.cells #[.int .i64 p,.int .i64 q,.slice x1 i.length c1,.slice x2 k.length c2] 34)
 obtain⟨B,hB⟩:=aC (w.heap.size)
 obtain⟨w1,hw1⟩:=aC (w.alloc (.cells #[.int .i64 p,.int .i64 q,.slice x1 i.length c1,.slice x2 k.length c2] 34))
 rw[←hB,←hw1] at h1
 obtain⟨nk,hnk⟩:=aC (k.length)
 obtain⟨ni,hni⟩:=aC (i.length)
 obtain⟨xv,hxv⟩:∃z:FV,z=([.int .i64 p,.int .i64 q,.slice x1 i.length c1,.slice x2 k.length c2],Fm.mk p q i k):=⟨_,rfl⟩
 have hx:Sat W w1 (sep (R pre) (sep (Df I Pn xv) (sep (blk B (.cells #[.int .i64 p,.int .i64 q,.slice x1 i.length c1,.slice x2 k.length c2] 34 (0,0))) (sep (jI lp yb wb) (sep (kn I) A))))):=by
  have h2:Sat W w1 (sep (Df I Pn xv) (sep (R pre) (sep (blk B (.cells #[.int .i64 p,.int .i64 q,.slice x1 i.length c1,.slice x2 k.length c2] 34 (0,0))) (sep (jI lp yb wb) (sep (kn I) A))))):=Sat.fact.2 ⟨by rw[hxv];exact⟨hr,hP0⟩,by simpa only[au,ak,aj] using h1⟩
  simpa only[au,ak,aj] using h2
 have hy0:=hY 5 pre xv w1 _ hN1 hx
 have hno:(Fm.mk p q i k).nodes=Fm.mk p q i k::Fm.bJ k:=by rw[Fm.nodes]
 have hx2:xv.2=Fm.mk p q i k:=by rw[hxv]
 have hxe:pG xv=#[.agg #[.int .i64 p,.int .i64 q,.slice x1 i.length c1,.slice x2 k.length c2]]:=by rw[hxv];rfl
 rw[hno]
 rw[←hni,←hnk] at hy0 hx hxe ⊢
 rw[←hnk] at VG
 rw[hxe] at hy0
 obtain⟨k0,k1,k2,k3⟩:=kS hx.p2
 obtain⟨e0,e1⟩:=zy hx.p3
 have HB:Hid (B=w.heap.size∧w1=w.alloc (.cells #[.int .i64 p,.int .i64 q,.slice x1 ni c1,.slice x2 nk c2] 34)):=ah ⟨hB,by rw[hw1,hni,hnk]⟩
 have PS:=ah hx2
 have XL:=ah VG
 have hmf:∀(fn:Fn) (first cap:Array Value) (w:World),(Instr.makeFunc fn first cap).run Tryz.prog w=.ok (.func fn first cap) w:=fun _ _ _ _=>rfl
 obtain⟨XM,Qx⟩:=aC (Fm.bJ k)
 rw[←Qx] at XL ⊢
 obtain⟨f0,hf0⟩:=aC (Fm.mk p q i k)
 rw[←hf0] at PS ⊢
 clear hr hi hk hN h h1 hB hw1 hnk hni hxv hx hno hx2 hxe hY hD hN1 YM VG Qx hf0 hP YN hP0 Xh
 refine callsIn_of_wp (n:=5) Tryz.func173 rfl trivial ?_ rfl
 simp only[Tryz.ntmps173,List.size_toArray,List.length_cons,List.length_nil,Nat.reduceAdd,Nat.reduceSub,Array.replicate_succ,Array.replicate_zero,List.push_toArray,List.append_toArray,List.nil_append,List.cons_append]
 gi_upto_region 1 with (fail)
 rw[←HB.out.1,←HB.out.2]
 obtain⟨fn,tmps,assign,body,hy,hR⟩:=hy0
 gi_wp2_with fail
 refine (pF hR).mono ?_
 rintro e wz (⟨rfl,hz⟩|⟨rfl,hz⟩)
 ·clear hR hy k0 k1 k2 k3 e0 e1
  obtain⟨k0,k1,k2,k3⟩:=kS hz.p1
  obtain⟨e0,e1⟩:=zy hz.p2
  have HW:=ah (XL.out xv wz (sep (blk B (.cells #[.int .i64 p,.int .i64 q,.slice x1 ni c1,.slice x2 nk c2] 34 (0,0))) A) (by simpa only[au,ak,aj] using hz))
  clear hz
  gi_wp2_with fail
  refine⟨trivial,(callsIn_wide.2 HW.out).mono ?_⟩
  rintro e w2 (⟨rfl,xs,hxs,h2⟩|⟨rfl,xs,rest,hxs,hne,h2⟩)
  ·have H2:Hid (Sat W w2 (sep (R (pre++xv::xs)) (sep (jI lp yb wb) (sep (kn I) A)))):=ah (by
    rw[List.append_assoc] at h2
    have h3:Sat W w2 (sep (blk B (.cells #[.int .i64 p,.int .i64 q,.slice x1 ni c1,.slice x2 nk c2] 34 (0,0))) (sep (R (pre++([xv]++xs))) (sep (jI lp yb wb) (sep (kn I) A)))):=by simpa only[au,ak,aj] using h2
    exact h3.forget)
   have vH:Hid ((xv::xs).map (·.2)=f0::XM):=ah (by rw[List.map_cons,PS.out,hxs])
   clear h2 hxs HW k0 k1 k2 k3 e0 e1
   gi_wp2_with fail
   refine bodyPost_ret (results_tmp rfl _ _ _) rfl (.inl ⟨rfl,_,vH.out,H2.out⟩)
  ·have H2:Hid (Sat W w2 (sep (Z (pre++xv::xs)) (sep (jI lp yb wb) (sep (kn I) A)))):=ah (by
    rw[List.append_assoc] at h2
    have h3:Sat W w2 (sep (blk B (.cells #[.int .i64 p,.int .i64 q,.slice x1 ni c1,.slice x2 nk c2] 34 (0,0))) (sep (Z (pre++([xv]++xs))) (sep (jI lp yb wb) (sep (kn I) A)))):=by simpa only[au,ak,aj] using h2
    exact h3.forget)
   have vH:Hid ((xv::xs).map (·.2)++rest=f0::XM):=ah (by rw[List.map_cons,PS.out,List.cons_append,hxs])
   clear h2 hxs hne HW k0 k1 k2 k3 e0 e1
   gi_wp2_with fail
   refine bodyPost_ret (results_tmp rfl _ _ _) rfl (.inr ⟨rfl,_,rest,vH.out,by simp,H2.out⟩)
 ·have H2:Hid (Sat W wz (sep (Z (pre++[xv])) (sep (jI lp yb wb) (sep (kn I) A)))):=ah (by
   have h3:Sat W wz (sep (blk B (.cells #[.int .i64 p,.int .i64 q,.slice x1 ni c1,.slice x2 nk c2] 34 (0,0))) (sep (Z (pre++[xv])) (sep (jI lp yb wb) (sep (kn I) A)))):=by simpa only[au,ak,aj] using hz
   exact h3.forget)
  have vH:Hid (([xv]:List FV).map (·.2)++XM=f0::XM):=ah (by rw[List.map_cons,PS.out];rfl)
  clear hR hy hz k0 k1 k2 k3 e0 e1
  gi_wp2_with fail
  refine⟨trivial,?_⟩
  gi_wp2_with fail
  refine bodyPost_ret (results_tmp rfl _ _ _) rfl (.inr ⟨rfl,_,XM,vH.out,by simp,H2.out⟩)
theorem Qy {W:World} {I:Mem} {Pn:Fm→Prop} {R Z:List FV→aB} {lp yb wb N:Nat} (hY:∀m,uy Fence.wide m Tryz.prog W lp pG (Df I Pn) N R Z) (f:Fm):Down W I Pn R Z lp yb wb N f:=
 Fm.ind (P:=fun f=>Down W I Pn R Z lp yb wb N f) (fun o n i k ih=>down11 hY o n i k ih) f
def nM:Nat:=1000000
set_option maxRecDepth 100000 in
set_option maxHeartbeats 4000000 in
theorem sW {W:World} {A:aB} {I:Mem} (Pn:Fm→Prop) (N:Nat) (n:Nat) (f:Fm) (p q:Int) (x1:Option Addr) (n1 c1:Nat) (x2:Option Addr) (n2 c2:Nat) (hr:rF.rel I [.int .i64 p,.int .i64 q,.slice x1 n1 c1,.slice x2 n2 c2] f) (hP:∀g∈f.nodes,Pn g) (hsz:f.size≤N) (fb:Nat):
 Ag Fence.wide n Tryz.prog W 172 #[.pointer (some ⟨fb,0,none⟩)] pG (Df I Pn) N (fun xs=>xs.map (·.2)=f.nodes) (fun xs=>xs≠[]∧∃rest,xs.map (·.2)++rest=f.nodes)
  (sep (blk fb (.cells #[.int .i64 p,.int .i64 q,.slice x1 n1 c1,.slice x2 n2 c2] 34 (0,0))) (sep (kn I) A)) (sep (kn I) A):=by
 intro lp R Z w hY h0
 have YO:∀m,uy Fence.wide m Tryz.prog W lp pG (Df I Pn) N R Z:=fun m pre x w B h1 h2=>vM (hY pre x w B h1 h2)
 obtain⟨y,hy⟩:=aC (w.heap.size)
 obtain⟨w1,hw1⟩:=aC ((w.alloc (.cells #[.func (.yield lp) #[] #[]] 185)).alloc (.cells #[.func (.func 173) #[] #[.pointer (some ⟨y,0,none⟩),.pointer (some ⟨y+1,0,none⟩)]] 185))
 have h1:Sat W w1 (sep (R []) (sep (jI lp y (y+1)) (sep (kn I) (sep (blk fb (.cells #[.int .i64 p,.int .i64 q,.slice x1 n1 c1,.slice x2 n2 c2] 34 (0,0))) A)))):=by
  have h2:=(h0.alloc (.cells #[.func (.yield lp) #[] #[]] 185)).alloc (.cells #[.func (.func 173) #[] #[.pointer (some ⟨y,0,none⟩),.pointer (some ⟨y+1,0,none⟩)]] 185)
  rw[World.size_alloc,←hy,←hw1] at h2
  unfold jI
  simpa only[au,ak,aj] using h2
 have hwk:=Qy YO f p q x1 n1 c1 x2 n2 c2 [] w1 _ hr hP (by rw[List.length_nil];omega) h1
 obtain⟨e0,e1⟩:=zy h1.p1
 obtain⟨k0,k1,k2,k3⟩:=kS h1.p3
 have Xi:=ah hwk
 have HY:=ah (And.intro hy hw1)
 have hmf:∀(fn:Fn) (first cap:Array Value) (w:World),(Instr.makeFunc fn first cap).run Tryz.prog w=.ok (.func fn first cap) w:=fun _ _ _ _=>rfl
 clear hY YO h0 h1 hwk hy hw1 hr hsz hP
 refine callsIn_of_wp Tryz.func172 rfl trivial ?_ rfl
 simp only[Tryz.ntmps172,List.size_toArray,List.length_cons,List.length_nil,Nat.reduceAdd,Nat.reduceSub,Array.replicate_succ,Array.replicate_zero,List.push_toArray,List.append_toArray,List.nil_append,List.cons_append]
 gi_upto_region 3 with (fail)
 rw[←HY.out.1,←HY.out.2]
 gi_wp2_with fail
 refine⟨trivial,fun hd=>(by cases hd),(callsIn_wide.2 Xi.out).mono ?_⟩
 rintro e w2 (⟨rfl,xs,hx,h2⟩|⟨rfl,xs,rest,hx,hne,h2⟩)
 ·have H2:Hid (Sat W w2 (sep (R xs) (sep (kn I) A))):=ah (by
   rw[List.nil_append] at h2
   unfold jI at h2
   simp only[aj] at h2
   have h3:Sat W w2 (sep (blk y (.cells #[.func (.yield lp) #[] #[]] 185 (0,0))) (sep (blk (y+1) (.cells #[.func (.func 173) #[] #[.pointer (some ⟨y,0,none⟩),.pointer (some ⟨y+1,0,none⟩)]] 185 (0,0))) (sep (blk fb (.cells #[.int .i64 p,.int .i64 q,.slice x1 n1 c1,.slice x2 n2 c2] 34 (0,0))) (sep (R xs) (sep (kn I) A))))):=by simpa only[au,ak,aj] using h2
   exact h3.forget.forget.forget)
  have HX:=ah hx
  clear Xi e0 e1 k0 k1 k2 k3 h2 hx
  gi_wp2_with fail
  exact bodyPost_end (results_none rfl _ _ _) rfl ⟨⟨_,rfl⟩,.inl ⟨xs,HX.out,H2.out⟩⟩
 ·have H2:Hid (Sat W w2 (sep (Z xs) (sep (kn I) A))):=ah (by
   rw[List.nil_append] at h2
   unfold jI at h2
   simp only[aj] at h2
   have h3:Sat W w2 (sep (blk y (.cells #[.func (.yield lp) #[] #[]] 185 (0,0))) (sep (blk (y+1) (.cells #[.func (.func 173) #[] #[.pointer (some ⟨y,0,none⟩),.pointer (some ⟨y+1,0,none⟩)]] 185 (0,0))) (sep (blk fb (.cells #[.int .i64 p,.int .i64 q,.slice x1 n1 c1,.slice x2 n2 c2] 34 (0,0))) (sep (Z xs) (sep (kn I) A))))):=by simpa only[au,ak,aj] using h2
   exact h3.forget.forget.forget)
  have HX:Hid (xs≠[]∧∃rest,xs.map (·.2)++rest=f.nodes):=ah ⟨hne,rest,hx⟩
  clear Xi e0 e1 k0 k1 k2 k3 h2 hx hne
  gi_wp2_with fail
  exact bodyPost_end (results_none rfl _ _ _) rfl ⟨⟨_,rfl⟩,.inr ⟨xs,HX.out,H2.out⟩⟩
theorem vN {W:World} {A:aB} {I:Mem} (Pn:Fm→Prop) (n:Nat) (f:Fm) (p q:Int) (x1:Option Addr) (n1 c1:Nat) (x2:Option Addr) (n2 c2:Nat) (hr:rF.rel I [.int .i64 p,.int .i64 q,.slice x1 n1 c1,.slice x2 n2 c2] f) (hP:∀g∈f.nodes,Pn g) (hsz:f.size≤nM) (fb:Nat):
 Ag Fence.wide n Tryz.prog W 172 #[.pointer (some ⟨fb,0,none⟩)] pG (Df I Pn) nM (fun xs=>xs.map (·.2)=f.nodes) (fun xs=>xs≠[]∧∃rest,xs.map (·.2)++rest=f.nodes)
  (sep (blk fb (.cells #[.int .i64 p,.int .i64 q,.slice x1 n1 c1,.slice x2 n2 c2] 34 (0,0))) (sep (kn I) A)) (sep (kn I) A):=
 sW Pn nM n f p q x1 n1 c1 x2 n2 c2 hr hP hsz fb
end Go.Proofs.YthfmaclnccdcbaaGreatDoor
namespace Go.Proofs.YthfmaclnccdcbaaGreatDoor
open Go.RowKit PA
attribute [local go_sem] Oper.semAt_some
theorem qU {W w:World} {A:aB} (a b c d:Value) (h:Sat W w A):
 Calls Tryz.prog 130 #[.agg #[a,b,c,d]] w fun e w'=>∃fb,e=.returned (.func (.func 172) #[] #[.pointer (some ⟨fb,0,none⟩)])∧Sat W w' (sep (blk fb (.cells #[a,b,c,d] 34 (0,0))) A):=by
 have h1:=h.alloc (.cells #[a,b,c,d] 34)
 obtain⟨B,hB⟩:=aC (w.heap.size)
 obtain⟨w1,hw1⟩:=aC (w.alloc (.cells #[a,b,c,d] 34))
 rw[←hB,←hw1] at h1
 have HB:=ah (And.intro hB hw1)
 have hmf:∀(fn:Fn) (first cap:Array Value) (w:World),(Instr.makeFunc fn first cap).run Tryz.prog w=.ok (.func fn first cap) w:=fun _ _ _ _=>rfl
 clear h hB hw1
 go_enter Tryz.func130,Tryz.ntmps130
 go_upto_region 1 with (fail)
 rw[←HB.out.1,←HB.out.2]
 go_wp2
 go_ret
 exact⟨B,rfl,h1⟩
set_option maxRecDepth 100000 in
set_option maxHeartbeats 4000000 in
theorem Lc {W w:World} {A:aB} {I:Mem} (f:Fm) (p q:Int) (x1:Option Addr) (n1 c1:Nat) (x2:Option Addr) (n2 c2:Nat) (hr:rF.rel I [.int .i64 p,.int .i64 q,.slice x1 n1 c1,.slice x2 n2 c2] f) (hsz:f.size≤nM) (h:Sat W w (sep (kn I) A)):
 Calls Tryz.prog 161 #[.agg #[.int .i64 p,.int .i64 q,.slice x1 n1 c1,.slice x2 n2 c2]] w fun e w'=>e=.returned (.int .i64 (f.size:Nat))∧Sat W w' (sep (kn I) A):=by
 obtain⟨sz,Xj⟩:=aC (f.size)
 rw[←Xj]
 have He:=ah Xj
 clear Xj
 have h1:=(h.alloc (.cells #[.int .i64 p,.int .i64 q,.slice x1 n1 c1,.slice x2 n2 c2] 34)).alloc (.cells #[.int .i64 0] 3)
 rw[World.size_alloc] at h1
 obtain⟨B,hB⟩:=aC (w.heap.size)
 obtain⟨w1,hw1⟩:=aC ((w.alloc (.cells #[.int .i64 p,.int .i64 q,.slice x1 n1 c1,.slice x2 n2 c2] 34)).alloc (.cells #[.int .i64 0] 3))
 rw[←hB,←hw1] at h1
 have HB:=ah (And.intro hB hw1)
 have VH:=ah (qU (.int .i64 p) (.int .i64 q) (.slice x1 n1 c1) (.slice x2 n2 c2) h1)
 obtain⟨k0,k1,k2,k3⟩:=kS h1.p1
 have HR:=ah (And.intro hr hsz)
 have eg:=enters_of (P:=Tryz.prog) Tryz.func172 (by kernel_rfl) rfl
 clear h h1 hB hw1 hr hsz
 refine (callsIn_wide (n:=5)).1 ?_
 refine callsIn_of_wp_marks Tryz.func161 rfl trivial ?_ rfl
 simp only[Tryz.ntmps161,List.size_toArray,List.length_cons,List.length_nil,Nat.reduceAdd,Nat.reduceSub,Array.replicate_succ,Array.replicate_zero,List.push_toArray,List.append_toArray,List.nil_append,List.cons_append]
 refine wpIn_wide.2 ?_
 go_upto_region 2 with (fail)
 rw[←HB.out.1,←HB.out.2]
 go_wp2_with fail
 refine VH.out.mono ?_
 rintro e w2 ⟨fb,rfl,h2⟩
 have h3:Sat W w2 (sep (blk (B+1) (.cells #[.int .i64 (([]:List FV).length:Nat)] 3 (0,0))) (sep (blk fb (.cells #[.int .i64 p,.int .i64 q,.slice x1 n1 c1,.slice x2 n2 c2] 34 (0,0))) (sep (kn I) (sep (blk B (.cells #[.int .i64 p,.int .i64 q,.slice x1 n1 c1,.slice x2 n2 c2] 34 (0,0))) A)))):=by
  have:=h2
  show Sat W w2 (sep (blk (B+1) (.cells #[.int .i64 0] 3 (0,0))) _)
  simpa only[au,ak,aj] using this
 clear h2 VH k0 k1 k2 k3
 go_wp2_with fail
 refine (wpIn_wide (n:=5)).1 ?_
 refine kX (F:=Fence.wide) (W:=W) rfl (by omega) (gf:=172) (lb:=#[.pointer (some ⟨fb,0,none⟩)]) rfl trivial eg (encs:=pG) (fun _=>rfl) (vN (A:=sep (blk B (.cells #[.int .i64 p,.int .i64 q,.slice x1 n1 c1,.slice x2 n2 c2] 34 (0,0))) A) (fun _=>True) (5-1) f p q x1 n1 c1 x2 n2 c2 HR.out.1 (fun _ _=>trivial) HR.out.2 fb)
  (fun xs=>blk (B+1) (.cells #[.int .i64 (xs.length:Nat)] 3 (0,0))) (fun _ _=>fact False) h3
  (fun y _ t=>t.setIfInBounds 6 (.agg y.1.toArray))
  (fun pre _ _=>blk (B+1) (.cells #[.int .i64 (pre.length:Nat)] 3 (0,0))) ?assign ?body ?done ?stop
 case assign=>
  as_aux_lemma=>
  intro lp pre y w' X K hlen hS hK
  have h4:Sat W w' (sep (Df I (fun _=>True) y) (sep (blk (B+1) (.cells #[.int .i64 (pre.length:Nat)] 3 (0,0))) X)):=by simpa only[au,ak,aj] using hS
  unfold Df at h4
  have h5:=hK 0 w' (Sat.fact.1 h4).2
  simp only[lsA,lsB,bV] at h5
  have H5:=ah h5
  clear hK hS h4 h5 h3
  dsimp only[pG] at *
  gi_wp2_with fail
  simpa using H5.out
 case body=>
  as_aux_lemma=>
  intro lp pre y g w' X hlen hS
  simp only[lsA,lsB,bV]
  obtain⟨m,hm⟩:=aC (pre.length)
  rw[←hm] at hS hlen
  have c0:w'.cell? ⟨B+1,0,none⟩=some (.int .i64 (m:Nat)):=hS.cell 0
  have u0:=hS.aF 0
  have h4:=hS.setCell 0 (.int .i64 ((m:Int)+1))
  obtain⟨w3,hw3⟩:=aC (w'.setCell ⟨B+1,0,none⟩ (.int .i64 ((m:Int)+1)))
  rw[←hw3] at h4
  have HW3:=ah hw3
  have hmz:(m:Int)<1000000:=by unfold nM at hlen;omega
  have H4:Hid (Sat W w3 (sep (blk (B+1) (.cells #[.int .i64 ((pre++[y]).length:Nat)] 3 (0,0))) X)):=ah (by
   rw[fA,←hm]
   exact h4)
  clear hS h4 hw3 hm hlen h3
  gi_wp2_with fail
  rw[←HW3.out]
  exact H4.out
 case done=>
  as_aux_lemma=>
  intro D xs w' hxs hS
  have hl:xs.length=sz:=by rw[He.out,←Fm.sD,←hxs,List.length_map]
  rw[hl] at hS
  have c0:w'.cell? ⟨B+1,0,none⟩=some (.int .i64 (sz:Nat)):=hS.p1.cell 0
  have hD:=hS.aK
  have h4:=hS.putObj (.deferred none)
  have h5:Sat W (w'.putObj D (.deferred none)) (sep (blk D (.deferred none)) (sep (blk (B+1) (.cells #[.int .i64 (sz:Nat)] 3 (0,0))) (sep (blk B (.cells #[.int .i64 p,.int .i64 q,.slice x1 n1 c1,.slice x2 n2 c2] 34 (0,0))) (sep (kn I) A)))):=by simpa only[au,ak,aj] using h4
  have H5:=ah h5.drop.forget.forget
  clear hS h4 h5 hl hxs h3
  go_wp2_with fail
  refine⟨by simp,.inl ⟨_,_,rfl,run_takeDeferred hD,?_⟩⟩
  refine⟨.int .i64 (sz:Nat),?_,?_⟩
  ·simp[results,Tryz.results161,go_sem]
  ·exact⟨rfl,H5.out⟩
 case stop=>
  intro D c xs w' _ hS
  exact absurd (Sat.fact.1 (show Sat W w' (sep (fact False) _) from hS.p1)).1 (fun h=>h)
end Go.Proofs.YthfmaclnccdcbaaGreatDoor
namespace Go.Proofs.YthfmaclnccdcbaaGreatDoor
open Go.RowKit PA
attribute [local go_sem] Oper.semAt_some
def vC (I:Mem) (rc:Nat) (xs:List FV):aB:=sep (fact (∀x∈xs,x.2.formed oQ=true)) (sep (kn I) (blk rc (.cells #[.int .i64 0] 39 (0,0))))
def vZ (rc:Nat):Code→List FV→aB
 | .ret,xs=>sep (fact (∃x∈xs,x.2.formed oQ=false)) (blk rc (.cells #[.int .i64 1] 39 (0,0)))
 | _,_=>fact False
set_option maxRecDepth 100000 in
set_option maxHeartbeats 4000000 in
theorem kD {W w:World} {A:aB} {I:Mem} (f:Fm) (p q:Int) (x1:Option Addr) (n1 c1:Nat) (x2:Option Addr) (n2 c2:Nat) (hr:rF.rel I [.int .i64 p,.int .i64 q,.slice x1 n1 c1,.slice x2 n2 c2] f) (hsz:f.size≤nM) (VE:∀g∈f.nodes,∀x∈g.ins,Hf x) (h:Sat W w (sep (kn I) A)):
 Calls Tryz.prog 118 #[.agg #[.int .i64 p,.int .i64 q,.slice x1 n1 c1,.slice x2 n2 c2]] w fun e w'=>e=.returned (.int .i64 (jO f))∧Sat W w' (sep (kn I) A):=by
 have h1:=(h.alloc (.cells #[.int .i64 p,.int .i64 q,.slice x1 n1 c1,.slice x2 n2 c2] 34)).alloc (.cells #[.int .i64 0] 39)
 rw[World.size_alloc] at h1
 obtain⟨B,hB⟩:=aC (w.heap.size)
 obtain⟨w1,hw1⟩:=aC ((w.alloc (.cells #[.int .i64 p,.int .i64 q,.slice x1 n1 c1,.slice x2 n2 c2] 34)).alloc (.cells #[.int .i64 0] 39))
 rw[←hB,←hw1] at h1
 have HB:=ah (And.intro hB hw1)
 have h1':Sat W w1 (sep (blk B (.cells #[.int .i64 p,.int .i64 q,.slice x1 n1 c1,.slice x2 n2 c2] 34 (0,0))) (sep (kn I) (sep (blk (B+1) (.cells #[.int .i64 0] 39 (0,0))) A))):=by simpa only[au,ak,aj] using h1
 have H1:=ah h1'
 obtain⟨k0,k1,k2,k3⟩:=kS h1'
 obtain⟨sz,hs⟩:=aC (f.size)
 obtain⟨dp,hdp⟩:=aC (f.deep)
 obtain⟨wh,hwh⟩:=aC (f.whole oQ)
 obtain⟨rv,dJ⟩:=aC (jO f)
 have jk:rv=if 96<sz∨8<dp then 4 else if wh=true then 0 else 1:=by rw[dJ,hs,hdp,hwh];rfl
 have bI:=ah jk
 have VI:Hid (wh=f.nodes.all (Fm.formed oQ)):=ah (by rw[hwh,Fm.qI])
 have aei:sz≤1000000:=by rw[hs];exact hsz
 have aej:dp≤1000000:=by rw[hdp];exact Nat.le_trans (Fm.NG f) hsz
 have HA:Hid (∀w' A',Sat W w' (sep (kn I) A')→Calls Tryz.prog 161 #[.agg #[.int .i64 p,.int .i64 q,.slice x1 n1 c1,.slice x2 n2 c2]] w' fun e w''=>e=.returned (.int .i64 (sz:Nat))∧Sat W w'' (sep (kn I) A')):=ah fun w' A' h'=>by rw[hs];exact Lc f p q x1 n1 c1 x2 n2 c2 hr hsz h'
 have HD:Hid (∀w' A',Sat W w' (sep (kn I) A')→Calls Tryz.prog 162 #[.agg #[.int .i64 p,.int .i64 q,.slice x1 n1 c1,.slice x2 n2 c2]] w' fun e w''=>e=.returned (.int .i64 (dp:Nat))∧Sat W w'' (sep (kn I) A')):=ah fun w' A' h'=>by rw[hdp];exact KT f w' A' p q x1 n1 c1 x2 n2 c2 hr hsz h'
 have VH:Hid (∀w' A',Sat W w' A'→Calls Tryz.prog 130 #[.agg #[.int .i64 p,.int .i64 q,.slice x1 n1 c1,.slice x2 n2 c2]] w' fun e w''=>∃fb,e=.returned (.func (.func 172) #[] #[.pointer (some ⟨fb,0,none⟩)])∧Sat W w'' (sep (blk fb (.cells #[.int .i64 p,.int .i64 q,.slice x1 n1 c1,.slice x2 n2 c2] 34 (0,0))) A')):=ah fun w' A' h'=>qU (.int .i64 p) (.int .i64 q) (.slice x1 n1 c1) (.slice x2 n2 c2) h'
 have HR:=ah (And.intro hr (And.intro hsz VE))
 have eg:=enters_of (P:=Tryz.prog) Tryz.func172 (by kernel_rfl) rfl
 rw[←dJ]
 clear h h1 h1' hB hw1 hr hsz VE hs hdp hwh dJ jk
 by_cases z1:96<sz
 ·have z1':(96:Int)<(sz:Int):=by omega
  have HV:Hid (rv=4):=ah (by rw[bI.out,if_pos (.inl z1)])
  clear z1
  refine (callsIn_wide (n:=5)).1 ?_
  refine callsIn_of_wp_marks Tryz.func118 rfl trivial ?_ rfl
  simp only[Tryz.ntmps118,List.size_toArray,List.length_cons,List.length_nil,Nat.reduceAdd,Nat.reduceSub,Array.replicate_succ,Array.replicate_zero,List.push_toArray,List.append_toArray,List.nil_append,List.cons_append]
  refine wpIn_wide.2 ?_
  go_upto_region 1 with (fail)
  rw[←HB.out.1,←HB.out.2]
  go_wp2_with fail
  refine (HA.out _ _ H1.out.p1).mono ?_
  rintro e w2 ⟨rfl,h2⟩
  have h2':=h2.p2
  have c0:=h2'.cell 0
  have u0:=h2'.aF 0
  have h3:=h2'.setCell 0 (.int .i64 4)
  obtain⟨w3,hw3⟩:=aC (w2.setCell ⟨B+1,0,none⟩ (.int .i64 4))
  rw[←hw3] at h3
  have HW3:=ah hw3
  have y0:w3.cell? ⟨B+1,0,none⟩=some (.int .i64 4):=h3.cell 0
  have H3:Hid (Sat W w3 (sep (kn I) A)):=ah (by have:=h3.p2.drop.drop;simpa only[au] using this)
  clear h2 h2' h3 HA k0 k1 k2 k3 hw3
  go_wp2_with fail
  rw[←HW3.out]
  refine⟨.int .i64 4,?_,?_⟩
  ·simp[results,Tryz.results118,go_sem,y0]
  ·exact⟨by rw[HV.out],H3.out⟩
 ·have z1':¬(96:Int)<(sz:Int):=by omega
  by_cases z2:8<dp
  ·have z2':(8:Int)<(dp:Int):=by omega
   have HV:Hid (rv=4):=ah (by rw[bI.out,if_pos (.inr z2)])
   clear z1 z2
   refine (callsIn_wide (n:=5)).1 ?_
   refine callsIn_of_wp_marks Tryz.func118 rfl trivial ?_ rfl
   simp only[Tryz.ntmps118,List.size_toArray,List.length_cons,List.length_nil,Nat.reduceAdd,Nat.reduceSub,Array.replicate_succ,Array.replicate_zero,List.push_toArray,List.append_toArray,List.nil_append,List.cons_append]
   refine wpIn_wide.2 ?_
   go_upto_region 1 with (fail)
   rw[←HB.out.1,←HB.out.2]
   go_wp2_with fail
   refine (HA.out _ _ H1.out.p1).mono ?_
   rintro e w2 ⟨rfl,h2⟩
   have H2:Hid (Sat W w2 (sep (blk B (.cells #[.int .i64 p,.int .i64 q,.slice x1 n1 c1,.slice x2 n2 c2] 34 (0,0))) (sep (kn I) (sep (blk (B+1) (.cells #[.int .i64 0] 39 (0,0))) A)))):=ah (by simpa only[au,ak,aj] using h2)
   clear h2 HA k0 k1 k2 k3
   obtain⟨k0,k1,k2,k3⟩:=kS H2.out
   go_wp2_with fail
   refine (HD.out _ _ H2.out.p1).mono ?_
   rintro e w4 ⟨rfl,h4⟩
   have h2':=h4.p2
   have c0:=h2'.cell 0
   have u0:=h2'.aF 0
   have h3:=h2'.setCell 0 (.int .i64 4)
   obtain⟨w3,hw3⟩:=aC (w4.setCell ⟨B+1,0,none⟩ (.int .i64 4))
   rw[←hw3] at h3
   have HW3:=ah hw3
   have y0:w3.cell? ⟨B+1,0,none⟩=some (.int .i64 4):=h3.cell 0
   have H3:Hid (Sat W w3 (sep (kn I) A)):=ah (by have:=h3.p2.drop.drop;simpa only[au] using this)
   clear h4 h2' h3 HD k0 k1 k2 k3 hw3 H2
   go_wp2_with fail
   rw[←HW3.out]
   refine⟨.int .i64 4,?_,?_⟩
   ·simp[results,Tryz.results118,go_sem,y0]
   ·exact⟨by rw[HV.out],H3.out⟩
  ·have z2':¬(8:Int)<(dp:Int):=by omega
   have HV:Hid (rv=if wh=true then 0 else 1):=ah (by rw[bI.out,if_neg (by omega)])
   clear z1 z2
   refine (callsIn_wide (n:=5)).1 ?_
   refine callsIn_of_wp_marks Tryz.func118 rfl trivial ?_ rfl
   simp only[Tryz.ntmps118,List.size_toArray,List.length_cons,List.length_nil,Nat.reduceAdd,Nat.reduceSub,Array.replicate_succ,Array.replicate_zero,List.push_toArray,List.append_toArray,List.nil_append,List.cons_append]
   refine wpIn_wide.2 ?_
   go_upto_region 1 with (fail)
   rw[←HB.out.1,←HB.out.2]
   go_wp2_with fail
   refine (HA.out _ _ H1.out.p1).mono ?_
   rintro e w2 ⟨rfl,h2⟩
   have H2:Hid (Sat W w2 (sep (blk B (.cells #[.int .i64 p,.int .i64 q,.slice x1 n1 c1,.slice x2 n2 c2] 34 (0,0))) (sep (kn I) (sep (blk (B+1) (.cells #[.int .i64 0] 39 (0,0))) A)))):=ah (by simpa only[au,ak,aj] using h2)
   clear h2 HA k0 k1 k2 k3
   obtain⟨k0,k1,k2,k3⟩:=kS H2.out
   go_wp2_with fail
   refine (HD.out _ _ H2.out.p1).mono ?_
   rintro e w3 ⟨rfl,h3⟩
   have H3:Hid (Sat W w3 (sep (blk B (.cells #[.int .i64 p,.int .i64 q,.slice x1 n1 c1,.slice x2 n2 c2] 34 (0,0))) (sep (kn I) (sep (blk (B+1) (.cells #[.int .i64 0] 39 (0,0))) A)))):=ah (by simpa only[au,ak,aj] using h3)
   clear h3 HD k0 k1 k2 k3 H2
   obtain⟨k0,k1,k2,k3⟩:=kS H3.out
   go_upto_region 3 with (fail)
   go_wp2_with fail
   refine (VH.out _ _ H3.out).mono ?_
   rintro e w4 ⟨fb,rfl,h4⟩
   have h5:Sat W w4 (sep (vC I (B+1) []) (sep (blk fb (.cells #[.int .i64 p,.int .i64 q,.slice x1 n1 c1,.slice x2 n2 c2] 34 (0,0))) (sep (kn I) (sep (blk B (.cells #[.int .i64 p,.int .i64 q,.slice x1 n1 c1,.slice x2 n2 c2] 34 (0,0))) A)))):=by
    unfold vC
    rw[aj]
    exact Sat.fact.2 ⟨fun x hx=>absurd hx (by simp),by
     have:=Sat.dup (show Sat W w4 (sep (kn I) (sep (blk fb (.cells #[.int .i64 p,.int .i64 q,.slice x1 n1 c1,.slice x2 n2 c2] 34 (0,0))) (sep (blk B (.cells #[.int .i64 p,.int .i64 q,.slice x1 n1 c1,.slice x2 n2 c2] 34 (0,0))) (sep (blk (B+1) (.cells #[.int .i64 0] 39 (0,0))) A)))) by simpa only[au,ak,aj] using h4)
     show Sat W w4 (sep (sep (kn I) _) _)
     simpa only[au,ak,aj,kn] using this⟩
   clear h4 VH k0 k1 k2 k3 H3 H1 bI
   go_wp2_with fail
   refine (wpIn_wide (n:=5)).1 ?_
   refine kX (F:=Fence.wide) (W:=W) rfl (by omega) (gf:=172) (lb:=#[.pointer (some ⟨fb,0,none⟩)]) rfl trivial eg (encs:=pG) (fun _=>rfl) (vN (A:=sep (blk B (.cells #[.int .i64 p,.int .i64 q,.slice x1 n1 c1,.slice x2 n2 c2] 34 (0,0))) A) (fun g=>∀x∈g.ins,Hf x) (5-1) f p q x1 n1 c1 x2 n2 c2 HR.out.1 HR.out.2.2 HR.out.2.1 fb)
    (vC I (B+1)) (vZ (B+1)) h5
    (fun y g t=>(t.setIfInBounds 14 (.agg y.1.toArray)).setIfInBounds 3 (.pointer (some ⟨g,0,none⟩)))
    (fun pre y g=>sep (fact (rF.rel I y.1 y.2∧∀x∈y.2.ins,Hf x)) (sep (blk g (.cells y.1.toArray 34 (0,0))) (vC I (B+1) pre))) ?assign ?body ?done ?stop
   case assign=>
    as_aux_lemma=>
    intro lp pre y w' X K hlen hS hK
    have h4:Sat W w' (sep (Df I (fun g=>∀x∈g.ins,Hf x) y) (sep (vC I (B+1) pre) X)):=by simpa only[au,ak,aj] using hS
    unfold Df at h4
    obtain⟨hf,h6⟩:=Sat.fact.1 h4
    obtain⟨y1,y2⟩:=y
    obtain⟨yo,yn,yi,yk⟩:=y2
    obtain⟨u1,d1,u2,d2,e,hi,hk⟩:=dL.1 hf.1
    dsimp only at e hf hK
    subst e
    have h7:=h6.alloc (.cells #[.int .i64 yo,.int .i64 yn,.slice u1 yi.length d1,.slice u2 yk.length d2] 34)
    have h5:=hK w'.heap.size _ (show Sat W (w'.alloc (.cells #[.int .i64 yo,.int .i64 yn,.slice u1 yi.length d1,.slice u2 yk.length d2] 34)) (sep (sep (fact _) (sep _ _)) X) by rw[aj,aj];exact Sat.fact.2 ⟨hf,h7⟩)
    simp only[lsA,lsB,bV] at h5
    have H5:=ah h5
    clear hK hS h4 h5 h6 h7 hf hi hk
    dsimp only[pG] at *
    gi_wp2_with fail
    simpa using H5.out
   case body=>
    as_aux_lemma=>
    intro lp pre y g w' X hlen hS
    simp only[lsA,lsB,bV]
    rw[aj,aj] at hS
    obtain⟨hf,h4⟩:=Sat.fact.1 hS
    have h5:Sat W w' (sep (fact (∀x∈pre,x.2.formed oQ=true)) (sep (blk g (.cells y.1.toArray 34 (0,0))) (sep (kn I) (sep (blk (B+1) (.cells #[.int .i64 0] 39 (0,0))) X)))):=by
     unfold vC at h4
     simpa only[au,ak,aj] using h4
    obtain⟨hpre,h6⟩:=Sat.fact.1 h5
    obtain⟨y1,y2⟩:=y
    dsimp only at hf h6
    obtain⟨yo,yn,yi,yk⟩:=y2
    obtain⟨u1,d1,u2,d2,e,hi,hk⟩:=dL.1 hf.1
    subst e
    have HF:=ah (FC (Fm.mk yo yn yi yk) yo yn u1 yi.length d1 u2 yk.length d2 hf.1 hf.2 h6.p1)
    obtain⟨k0,k1,k2,k3⟩:=kS h6
    obtain⟨fo,hfo⟩:=aC ((Fm.mk yo yn yi yk).formed oQ)
    rw[←hfo] at HF
    have VJ:=ah (And.intro hpre hfo)
    clear hS h4 h5 h6 hf hi hk hpre hfo HR VI HV
    cases fo with
    | true=>
     gi_wp2_with fail
     refine⟨trivial,(callsIn_wide.2 HF.out).mono ?_⟩
     rintro e w2 ⟨rfl,h7⟩
     have h8:Sat W w2 (sep (vC I (B+1) (pre++[([.int .i64 yo,.int .i64 yn,.slice u1 yi.length d1,.slice u2 yk.length d2],Fm.mk yo yn yi yk)])) X):=by
      unfold vC
      rw[aj]
      refine Sat.fact.2 ⟨fun x hx=>?_,?_⟩
      ·rcases List.mem_append.1 hx with hx|hx
       ·exact VJ.out.1 x hx
       ·rw[List.mem_singleton.1 hx]
        exact VJ.out.2.symm
      ·have:=(show Sat W w2 (sep (blk g (.cells #[.int .i64 yo,.int .i64 yn,.slice u1 yi.length d1,.slice u2 yk.length d2] 34 (0,0))) (sep (kn I) (sep (blk (B+1) (.cells #[.int .i64 0] 39 (0,0))) X))) by simpa only[au,ak,aj] using h7).drop
       simpa only[au,ak,aj] using this
     have H8:=ah h8
     clear h7 h8 HF k0 k1 k2 k3
     gi_wp2_with fail
     exact H8.out
    | false=>
     gi_wp2_with fail
     refine⟨trivial,(callsIn_wide.2 HF.out).mono ?_⟩
     rintro e w2 ⟨rfl,h7⟩
     have h8:Sat W w2 (sep (blk (B+1) (.cells #[.int .i64 0] 39 (0,0))) X):=
      (show Sat W w2 (sep (blk g (.cells #[.int .i64 yo,.int .i64 yn,.slice u1 yi.length d1,.slice u2 yk.length d2] 34 (0,0))) (sep (kn I) (sep (blk (B+1) (.cells #[.int .i64 0] 39 (0,0))) X))) by simpa only[au,ak,aj] using h7).drop.drop
     have c0:=h8.cell 0
     have u0:=h8.aF 0
     have h9:=h8.setCell 0 (.int .i64 1)
     obtain⟨w3,hw3⟩:=aC (w2.setCell ⟨B+1,0,none⟩ (.int .i64 1))
     rw[←hw3] at h9
     have H9:Hid (Sat W w3 (sep (vZ (B+1) .ret (pre++[([.int .i64 yo,.int .i64 yn,.slice u1 yi.length d1,.slice u2 yk.length d2],Fm.mk yo yn yi yk)])) X)):=ah (by
      show Sat W w3 (sep (sep (fact _) _) X)
      rw[aj]
      exact Sat.fact.2 ⟨⟨_,List.mem_append_right _ (List.mem_singleton_self _),VJ.out.2.symm⟩,h9⟩)
     have HW3:=ah hw3
     clear h7 h8 h9 hw3 HF k0 k1 k2 k3
     gi_wp2_with fail
     rw[←HW3.out]
     exact H9.out
   case done=>
    as_aux_lemma=>
    intro D xs w' hxs hS
    have h6:Sat W w' (sep (fact (∀x∈xs,x.2.formed oQ=true)) (sep (blk D (.deferred (some []))) (sep (blk (B+1) (.cells #[.int .i64 0] 39 (0,0))) (sep (kn I) (sep A (blk B (.cells #[.int .i64 p,.int .i64 q,.slice x1 n1 c1,.slice x2 n2 c2] 34 (0,0)))))))):=by
     unfold vC at hS
     have h0:=(show Sat W w' (sep (kn I) (sep (fact (∀x∈xs,x.2.formed oQ=true)) (sep (blk D (.deferred (some []))) (sep (blk (B+1) (.cells #[.int .i64 0] 39 (0,0))) (sep (kn I) (sep A (blk B (.cells #[.int .i64 p,.int .i64 q,.slice x1 n1 c1,.slice x2 n2 c2] 34 (0,0))))))))) by simpa only[au,ak,aj] using hS).drop
     exact h0
    obtain⟨hall,h7⟩:=Sat.fact.1 h6
    have hwt:wh=true:=by
     rw[VI.out,←hxs,List.all_eq_true]
     intro x hx
     obtain⟨y,hy,rfl⟩:=List.mem_map.1 hx
     exact hall y hy
    have hD:=h7.aK
    have c0:=h7.p1.cell 0
    have u0:=h7.p1.aF 0
    have h8:=h7.p1.setCell 0 (.int .i64 0)
    obtain⟨w3,hw3⟩:=aC (w'.setCell ⟨B+1,0,none⟩ (.int .i64 0))
    rw[←hw3] at h8
    have h9:Sat W w3 (sep (blk D (.deferred (some []))) (sep (kn I) (sep (blk (B+1) (.cells #[.int .i64 0] 39 (0,0))) (sep (blk B (.cells #[.int .i64 p,.int .i64 q,.slice x1 n1 c1,.slice x2 n2 c2] 34 (0,0))) A)))):=by
     show Sat W w3 (sep _ (sep _ (sep (blk (B+1) (.cells (#[Value.int .i64 0].setIfInBounds 0 (.int .i64 0)) 39 (0,0))) _)))
     simpa only[au,ak,aj] using h8
    have hD:=h9.aK
    have h10:=h9.putObj (.deferred none)
    have y0:=h10.p2.cell 0
    have PO:Hid (Sat W (w3.putObj D (.deferred none)) (sep (kn I) A)):=ah (by
     have:=(h10.drop.p1.drop).p1.drop
     simpa only[au,ak,aj] using this)
    have HW3:=ah hw3
    have kL:Hid (rv=0):=ah (by rw[HV.out,if_pos hwt])
    clear hS h6 h7 h8 h9 h10 hw3 hall hwt HR VI h5
    go_wp2_with fail
    rw[←HW3.out]
    refine⟨by simp,.inl ⟨_,_,rfl,run_takeDeferred hD,?_⟩⟩
    refine⟨.int .i64 0,?_,?_⟩
    ·simp[results,Tryz.results118,go_sem,y0]
    ·exact⟨by rw[kL.out],PO.out⟩
   case stop=>
    as_aux_lemma=>
    intro D c xs w' hxs hS
    cases c with
    | ret=>
     obtain⟨-,rest,hrest⟩:=hxs
     have h6:Sat W w' (sep (fact (∃x∈xs,x.2.formed oQ=false)) (sep (blk D (.deferred (some []))) (sep (kn I) (sep (blk (B+1) (.cells #[.int .i64 1] 39 (0,0))) (sep (blk B (.cells #[.int .i64 p,.int .i64 q,.slice x1 n1 c1,.slice x2 n2 c2] 34 (0,0))) A))))):=by
      unfold vZ at hS
      simpa only[au,ak,aj] using hS
     obtain⟨⟨x,hx,hbad⟩,h7⟩:=Sat.fact.1 h6
     have hwt:wh=false:=by
      rw[VI.out,←hrest,List.all_eq_false]
      exact⟨x.2,List.mem_append_left _ (List.mem_map_of_mem hx),by rw[hbad];decide⟩
     have hD:=h7.aK
     have h10:=h7.putObj (.deferred none)
     have y0:=h10.p2.cell 0
     have PO:Hid (Sat W (w'.putObj D (.deferred none)) (sep (kn I) A)):=ah (by
      have:=(h10.drop.p1.drop).p1.drop
      simpa only[au,ak,aj] using this)
     have kL:Hid (rv=1):=ah (by rw[HV.out,hwt];rfl)
     clear hS h6 h7 h10 hwt HR VI h5 hbad hrest hx
     gi_wp2_with fail
     refine⟨by simp,.inl ⟨_,_,rfl,run_takeDeferred hD,?_⟩⟩
     refine⟨.int .i64 1,?_,?_⟩
     ·simp[results,Tryz.results118,go_sem,y0]
     ·exact⟨by rw[kL.out],PO.out⟩
    | _=>exact absurd (Sat.fact.1 (show Sat W w' (sep (fact False) _) from hS.p1)).1 (fun h=>h)
end Go.Proofs.YthfmaclnccdcbaaGreatDoor
namespace Go.Proofs.YthfmaclnccdcbaaGreatDoor
open Go.RowKit PA
def IL (f:Fm):Prop:=f.size≤nM∧∀g∈f.nodes,∀x∈g.ins,Hf x
theorem cl5 {W w:World} {A:aB} {g:Nat} {a b c d e:Value} {t:TypeId} (h:Sat W w (sep (blk g (.cells #[a,b,c,d,e] t (0,0))) A)):
 w.cell? ⟨g,0,none⟩=some a∧w.cell? ⟨g,1,none⟩=some b∧w.cell? ⟨g,2,none⟩=some c∧w.cell? ⟨g,3,none⟩=some d∧w.cell? ⟨g,4,none⟩=some e:=
 ⟨h.cell 0,h.cell 1,h.cell 2,h.cell 3,h.cell 4⟩
set_option maxRecDepth 100000 in
set_option maxHeartbeats 4000000 in
theorem kY {W w:World} {A:aB} {I:Mem} (a:Option Addr) (n c:Nat) (l:List Cl) (hv:(kV.slice 5).rel I [.slice a n c] l) (hB:∀x∈l,IL x.body) (h:Sat W w (sep (kn I) A)):
 Calls Tryz.prog 113 #[.slice a n c] w fun e w'=>e=.returned (.int .i64 (qF l))∧Sat W w' (sep (kn I) A):=by
 have hn:=(aI hv).1
 have hl63:=(aI hv).2.2
 obtain⟨rv,dJ⟩:=aC (qF l)
 rw[←dJ]
 have bI:Hid (rv=(if 32<n then 4 else pI 0 l)∧n=l.length):=ah ⟨by rw[dJ,hn];rfl,hn⟩
 have HV:=ah hv
 have Kq:=ah hB
 have H:=ah h
 clear hv h dJ hn hB
 by_cases h32:32<n
 ·have Ld:(32:Int)<(n:Int):=by omega
  have HF:Hid (rv=4):=ah (by rw[bI.out.1,if_pos h32])
  clear h32
  go_enter Tryz.func113,Tryz.ntmps113
  go_wp2
  go_ret
  exact⟨by rw[HF.out];rfl,H.out⟩
 ·have Ld:¬(32:Int)<(n:Int):=by omega
  have HG:Hid (rv=pI 0 l):=ah (by rw[bI.out.1,if_neg h32])
  have aaT:(n:Int)≤32:=by omega
  clear h32
  go_enter Tryz.func113,Tryz.ntmps113
  go_upto_region 3 with (fail)
  clear Ld
  go_wp2
  go_loopw [11] (fun iv wr=>∃k:Nat,iv=.int .i64 k∧k≤n∧Hid (rv=pI k (l.drop k))∧Sat W wr (sep (kn I) A)) (fun iv _=>n-(intOf iv).toNat)
  case atStart=>exact⟨0,rfl,by omega,HG,H.out⟩
  case round=>
   obtain⟨k,rfl,hk,HT,hS⟩:=hrel
   by_cases hlt:k<n
   ·have hltz:(k:Int)<(n:Int):=by omega
    have hkl:k<l.length:=by have:=bI.out.2;omega
    obtain⟨x,hx⟩:∃x,l[k]?=some x:=⟨_,List.getElem?_eq_getElem hkl⟩
    obtain⟨b,o,ra,rc,p,q,x1,n1,c1,x2,n2,c2,rfl,hrr,hrb,hcell⟩:=vO HV.out hx
    obtain⟨j0,j1,j2,j3,j4⟩:=hcell wr hS.ext
    have hT:=HT.out
    rw[D6 hx] at hT
    obtain⟨nr,hnr⟩:=aC (x.refs.length)
    obtain⟨rf,hrf⟩:=aC (jr x.refs k)
    obtain⟨be,hbe⟩:=aC (jO x.body)
    have hAl:=hS.alloc (.cells #[.slice ra x.refs.length rc,.int .i64 p,.int .i64 q,.slice x1 n1 c1,.slice x2 n2 c2] 91)
    rw[←hnr] at hAl
    obtain⟨M,hM⟩:=aC (wr.heap.size)
    obtain⟨w1,hw1⟩:=aC (wr.alloc (.cells #[.slice ra nr rc,.int .i64 p,.int .i64 q,.slice x1 n1 c1,.slice x2 n2 c2] 91))
    rw[←hM,←hw1] at hAl
    obtain⟨k0,k1,k2,k3,k4⟩:=cl5 hAl
    have Fp:=ah (And.intro hM hw1)
    have qH:=ah hAl
    have hrs:=KR ra rc x.refs k hrr hAl.p1
    rw[←hrf,←hnr] at hrs
    have Qz:=ah hrs
    have hvs:∀w' A',Sat W w' (sep (kn I) A')→Calls Tryz.prog 118 #[.agg #[.int .i64 p,.int .i64 q,.slice x1 n1 c1,.slice x2 n2 c2]] w' fun e w''=>e=.returned (.int .i64 be)∧Sat W w'' (sep (kn I) A'):=fun w' A' h'=>by
     rw[hbe];exact kD x.body p q x1 n1 c1 x2 n2 c2 hrb (Kq.out x (List.mem_of_getElem? hx)).1 (Kq.out x (List.mem_of_getElem? hx)).2 h'
    have Ho:=ah hvs
    have Xk:=(aI hrr).2.2
    rw[←hnr] at hT j0 Xk
    rw[←hrf,←hbe] at hT
    have HT2:=ah hT
    have HK:=ah hlt
    clear hx hrr hrb hcell hT hnr hrf hbe hrs hvs hS hlt hkl hk H HT HG hAl hM hw1
    by_cases h8:8<nr
    ·have h8z:(8:Int)<(nr:Int):=by omega
     have HF:Hid (rv=4):=ah (by rw[HT2.out,if_pos h8])
     clear h8
     go_upto_region 6 with (fail)
     rw[←Fp.out.1,←Fp.out.2]
     go_wp2
     go_ret
     exact⟨by rw[HF.out];rfl,qH.out.drop⟩
    ·have h8z:¬(8:Int)<(nr:Int):=by omega
     have HT3:Hid (rv=if rf=false then 1 else if be≠0 then be else pI (k+1) (l.drop (k+1))):=ah (by rw[HT2.out,if_neg h8])
     clear h8 HT2
     go_upto_region 6 with (fail)
     rw[←Fp.out.1,←Fp.out.2]
     go_wp2_with fail
     refine Qz.out.mono ?_
     rintro e w2 ⟨rfl,h2⟩
     have h2':Sat W w2 (sep (blk M (.cells #[.slice ra nr rc,.int .i64 p,.int .i64 q,.slice x1 n1 c1,.slice x2 n2 c2] 91 (0,0))) (sep (kn I) A)):=by simpa only[au,ak,aj] using h2
     have H2:=ah h2'.drop
     clear h2 Qz k0 k1 k2 k3 k4 h8z j0 j1 j2 j3 j4
     obtain⟨k0,k1,k2,k3,k4⟩:=cl5 h2'
     clear h2' qH
     cases rf with
     | false=>
      have HF:Hid (rv=1):=ah (by rw[HT3.out];rfl)
      go_wp2
      go_ret
      exact⟨by rw[HF.out];rfl,H2.out⟩
     | true=>
      go_wp2_with fail
      refine (Ho.out _ _ H2.out).mono ?_
      rintro e w3 ⟨rfl,h3⟩
      have H3:=ah h3
      clear h3 H2 Ho k0 k1 k2 k3 k4
      by_cases hb0:be=0
      ·have HF:Hid (rv=pI (k+1) (l.drop (k+1))):=ah (by rw[HT3.out];simp[hb0])
       subst hb0
       go_wp2
       go_roundw
       case rel=>exact⟨k+1,by go_num,by have:=HK.out;omega,HF,H3.out⟩
       case measure=>simp[intOf];have:=HK.out;omega
      ·have HF:Hid (rv=be):=ah (by rw[HT3.out];simp[hb0])
       have hb1:(be !=0)=true:=by simpa using hb0
       have hb2:(be==0)=false:=by simpa using hb0
       clear hb0
       go_wp2
       go_ret
       exact⟨by rw[HF.out];rfl,H3.out⟩
   ·obtain rfl:k=n:=by omega
    have HF:Hid (rv=0):=ah (by
     have:=HT.out
     rw[List.drop_of_length_le (by have:=bI.out.2;omega)] at this
     exact this)
    have HS:=ah hS
    clear hS H
    go_wp2
    go_ret
    exact⟨by rw[HF.out];rfl,HS.out⟩
end Go.Proofs.YthfmaclnccdcbaaGreatDoor
namespace PA
open Go Go.RowKit
theorem Oy {e:Int→List UInt8} {l:List Int} {j:Nat} {g:Int} (h:l[j]?=some g):((l.take (j+1)).map e).flatten=((l.take j).map e).flatten++e g:=by
 rw[List.take_add_one,h];simp
end PA
namespace Go.Proofs.YthfmaclnccdcbaaGreatDoor
open Go.RowKit PA
def VA (p:Array (Nat×Value)):Sem Value:=Instr.buildSlice 22 11 p
theorem zW (p:Array (Nat×Value)):Instr.buildSlice 22 11 p=VA p:=rfl
theorem bs_i11 (w:World) (a b c d e f g h i j k:Int):(VA #[(0,.int .i64 a),(1,.int .i64 b),(2,.int .i64 c),(3,.int .i64 d),(4,.int .i64 e),(5,.int .i64 f),(6,.int .i64 g),(7,.int .i64 h),(8,.int .i64 i),(9,.int .i64 j),(10,.int .i64 k)]).run Tryz.prog w=.ok (.slice (some ⟨w.heap.size,0,none⟩) 11 11) (w.alloc (.cells #[.int .i64 a,.int .i64 b,.int .i64 c,.int .i64 d,.int .i64 e,.int .i64 f,.int .i64 g,.int .i64 h,.int .i64 i,.int .i64 j,.int .i64 k] 3)):=by
 obtain⟨i,h1,h2,h3,h4⟩:=info_parts Ir
 exact run_buildSlice w 22 3 11 _ _ i _ Tryz.underlying22 h1 h2 (by rw[h3];omega) (by rw[h3];omega) (by rw[h3];kernel_rfl)
end Go.Proofs.YthfmaclnccdcbaaGreatDoor
namespace PA
open Go Go.RowKit
def vF:List (Int×Int)→Int
 | []=>0
 | p::l=>if p.1<p.2 then -1 else if p.2<p.1 then 1 else vF l
def wU (X Y:List UInt8):List (Int×Int):=List.zipWith (fun u v=>(((u.toNat:Nat):Int),((v.toNat:Nat):Int))) X Y
def keysB (d1 n1 d2 n2:Int) (X Y:List UInt8):List (Int×Int):=[(d1,d2),(n1,n2)]++wU X Y++[((X.length:Int),(Y.length:Int))]
def KQ (x y:Pa):Int:=vF (keysB x.d x.n y.d y.n (nK x) (nK y))
theorem DV {I:Mem} {a:Option Addr} {n c:Nat} {l:List UInt8} (h:gZ.rel I [.slice a n c] l):n=l.length∧(n:Int)≤9223372036854775807∧∀i u,l[i]?=some u→∃b o,a=some ⟨b,o,none⟩∧∀w',Ext I w'→w'.cell? ⟨b,o+i,none⟩=some (bv u):=by
 obtain⟨a',c',e,hsw,hc⟩:=wV.1 h
 simp only[Value.slice.injEq] at e
 obtain⟨rfl,rfl,rfl⟩:=e
 refine⟨rfl,by have h1:=hsw.1;have h2:=hsw.2.1;unfold maxLen at h2;omega,fun i u hu=>?_⟩
 obtain⟨b,o,e,hx⟩:=nX hc (fun e=>by rw[List.map_eq_nil_iff] at e;rw[e] at hu;simp at hu)
 exact⟨b,o,e,fun w' he=>hx w' he i _ (by rw[List.getElem?_map,hu];rfl)⟩
end PA
namespace PA
open Go Go.RowKit
def Dp:List Int→List Int→Int
 | [],[]=>0
 | [],_::_=>-1
 | _::_,[]=>1
 | a::x,b::y=>if a<b then -1 else if b<a then 1 else Dp x y
theorem Ei:∀x:List Int,Dp x x=0
 | []=>rfl
 | a::x=>by simp[Dp,Ei x]
def keyL (x:Pa):List Int:=x.d::x.n::(nK x).map fun u=>((u.toNat:Nat):Int)
theorem Ej:∀(x y:List UInt8) (k:Int),vF (wU x y++[((x.length:Int)+k,(y.length:Int)+k)])=Dp (x.map fun u=>((u.toNat:Nat):Int)) (y.map fun u=>((u.toNat:Nat):Int))
 | [],[],k=>by simp[wU,vF,Dp]
 | [],b::y,k=>by
  have h:(0:Int)+k<((y.length+1:Nat):Int)+k:=by omega
  simp only[wU,List.zipWith,List.nil_append,vF,Dp,List.length_nil,List.length_cons,List.map_nil,List.map_cons]
  rw[if_pos (by simpa using h)]
 | a::x,[],k=>by
  have h:(0:Int)+k<((x.length+1:Nat):Int)+k:=by omega
  simp only[wU,List.zipWith,List.nil_append,vF,Dp,List.length_nil,List.length_cons,List.map_nil,List.map_cons]
  rw[if_neg (by simp only[Int.natCast_zero];omega),if_pos (by simpa using h)]
 | a::x,b::y,k=>by
  have ih:=Ej x y (k+1)
  have e1:((x.length:Int)+(k+1))=((a::x).length:Int)+k:=by rw[List.length_cons];push_cast;omega
  have e2:((y.length:Int)+(k+1))=((b::y).length:Int)+k:=by rw[List.length_cons];push_cast;omega
  rw[e1,e2] at ih
  have ez:wU (a::x) (b::y)=(((a.toNat:Nat):Int),((b.toNat:Nat):Int))::wU x y:=rfl
  rw[ez,List.cons_append,vF,ih]
  simp only[List.map_cons,Dp]
theorem O8 (x y:Pa):KQ x y=Dp (keyL x) (keyL y):=by
 have h:=Ej (nK x) (nK y) 0
 simp only[Int.add_zero] at h
 unfold KQ keysB keyL
 rw[List.append_assoc]
 simp only[List.cons_append,List.nil_append,vF,Dp,h]
theorem O9 (x:Pa):KQ x x=0:=by rw[O8];exact Ei _
end PA
