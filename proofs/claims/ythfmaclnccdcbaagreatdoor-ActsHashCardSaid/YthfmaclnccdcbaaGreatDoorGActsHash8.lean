/- Part of a proof. -/
import Derived.Test.YthfmaclnccdcbaaGreatDoorGActsHash3
import Derived.Handy
import Derived.Lib.SliceRun
import Derived.Laws.IdiomStrings
namespace Go.Proofs.YthfmaclnccdcbaaGreatDoor
open Go.RowKit PA
theorem CU {W w:World} {A:aA} {I:Mem} (s:ByteArray) (v:Value) (bs:List UInt8) (h:Sat W w (sep (kn I) A)) (hv:dB.rel I [v] bs) (hs:s.size≤4611686018427387904) (hb:bs.length≤140737488351240):
 Calls Tryz.prog 26 #[.string s,v] w fun e w'=>e=.returned (.int .u64 (lJ s.data.toList bs:Nat))∧Sat W w' (sep (kn I) A):=by
 obtain⟨a,c,rfl,_,hc⟩:=jJ.1 hv;refine (J8 s a c bs w hs hb fun hne=>?_).mono fun e w' ⟨h1,h2⟩=>⟨h1,h.of_below h2⟩
 obtain⟨b,o,e,hcc⟩:=zI hc hne;obtain⟨b',o',e',hlt⟩:=cells_lt hc h.ext (by simpa using hne);rw[e] at e';cases e';exact⟨b,o,e,hlt,fun j hj=>hcc w h.ext j hj⟩
theorem Xg:(Tryz.prog.info? 48).map (fun i=>(i.zero,i.size,i.bytes))=some (some (.int .u64 0),1,8):=by kernel_rfl
def uv (x:Nat):Value:=.int .u64 (x:Nat)
theorem Uz (bs:List UInt8) (j e:Nat) (hj:j<e) (he:e≤bs.length):yV ((bs.drop j).take (e-j))=bs[j].toNat+256*yV ((bs.drop (j+1)).take (e-(j+1))):=by
 rw[List.drop_eq_getElem_cons (by omega),show e-j=(e-(j+1))+1 by omega,List.take_succ_cons,yV]
set_option maxRecDepth 100000 in
set_option maxHeartbeats 2000000 in
theorem zZ {W w:World} {A:aA} {I:Mem} (v:Value) (bs:List UInt8) (h:Sat W w (sep (kn I) A)) (hv:dB.rel I [v] bs) (hb:bs.length≤140737488351240):
 Calls Tryz.prog 85 #[v] w fun e w'=>∃a c,e=.returned (.slice a (eF bs).length c)∧Sat W w' (sep (aT 48 1 a (eF bs).length c ((eF bs).map uv)) (sep (kn I) A)):=by
 obtain⟨ad,cp,rfl,_,hcs⟩:=jJ.1 hv;obtain⟨n0,hn0⟩:=ay (bs.length);rw[←hn0] at hb ⊢;have hbI:(n0:Int)≤140737488351240:=by omega
 have HN:=ah hn0;have HB:=ah hb;clear hn0 hb hv
 go_enter Tryz.func85,Tryz.ntmps85
 go_wp2
 go_loopw [3,4] (fun ov iv wr=>∃k:Nat,k≤(n0+7) / 8∧iv=.int .i64 (8*k:Nat)∧∃a c,ov=.slice a k c∧Sat W wr (sep (aT 48 1 a k c (((List.range k).map (uj bs)).map uv)) (sep (kn I) A))) (fun _ iv _=>n0+8-(intOf iv).toNat)
 case atStart=>exact⟨0,Nat.zero_le _,rfl,none,0,rfl,h.fM _ _⟩
 case round=>
  clear h;obtain⟨k,hk,rfl,a,c,rfl,hS⟩:=hrel;obtain⟨i,hi⟩:=ay (8*k);rw[←hi]
  by_cases hlt:i<n0
  ·obtain⟨b,o,rfl,hcells⟩:=zI hcs (fun e=>by rw[e] at HN;have:=HN.out;simp at this;omega)
   have hext:=hS.p1.ext;have hc:=hcells wr hext;have HC:=ah hc;clear hcells hc hext hcs;have hi0:(0:Int)≤i:=by omega
   have hi1:(i:Int)+8≤140737488351300:=by omega
   have QY:(i:Int)<n0:=by omega
   obtain⟨e,he⟩:=ay (min (i+8) n0);have hmin:(if (n0:Int)<(i:Int)+8 then (n0:Int) else (i:Int)+8)=(e:Int):=by split<;>omega
   have he0:(i:Int)<e:=by omega
   have he2:(e:Int)≤140737488351240:=by omega
   have he1:i<e∧e≤i+8∧e≤n0:=by omega
   have HE:=ah he;have HI:=ah hi;have MI:=ah he1;have HK:=ah hk;clear hi he he1 hlt hk
   go_wp2
   go_loop [5,6] (fun wv jv=>∃j:Nat,i≤j∧j≤e∧jv=.int .i64 ((j:Int)-1)∧wv=.int .u64 (yV ((bs.drop j).take (e-j)):Nat)) (fun _ jv=>(intOf jv+1).toNat)
   case atStart=>exact⟨e,by have:=MI.out;omega,Nat.le_refl _,rfl,by simp[yV]⟩
   case round=>
    obtain⟨j,hj1,hj2,rfl,rfl⟩:=hrel;have HJ2:=ah hj2;clear hj2
    by_cases hji:i<j
    ·obtain⟨j,rfl⟩:∃j',j=j'+1:=⟨j-1,by omega⟩
     have hjn:j<bs.length:=by have:=MI.out;have:=HJ2.out;have:=HN.out;omega
     have hcj:=HC.out j hjn;have hpart:=Uz bs j e (by have:=HJ2.out;omega) (by have:=MI.out;have:=HN.out;omega);obtain⟨x,hx⟩:=ay (yV ((bs.drop (j+1)).take (e-(j+1))));have hxl:x*256+255<18446744073709551616:=by
      have h1:=Ie ((bs.drop (j+1)).take (e-(j+1)));rw[←hx] at h1;have h2:((bs.drop (j+1)).take (e-(j+1))).length≤7:=by rw[List.length_take];have:=MI.out;omega
      have h3:x<256 ^ 7:=Nat.lt_of_lt_of_le h1 (Nat.pow_le_pow_right (by decide) h2);omega
     rw[←hx] at hpart ⊢;obtain⟨y,hy⟩:=ay (bs[j].toNat);have hyl:y<256:=by rw[hy];exact bs[j].toNat_lt
     rw[←hy] at hcj hpart;have e1:IntKind.u64.wrap (256*(x:Int))=256*(x:Int):=wraps_u64 _ (by omega) (by omega);have e2:IntKind.u64.wrap (y:Int)=(y:Int):=wraps_u64 _ (by omega) (by omega);have e3:IntKind.u64.wrap (256*(x:Int)+(y:Int))=256*(x:Int)+(y:Int):=wraps_u64 _ (by omega) (by omega);have e4:(((j+1:Nat):Int)-1)=(j:Int):=by omega
     have e5:(i:Int)≤(j:Int):=by omega
     have e6:(j:Int)<(n0:Int):=by have:=HN.out;omega
     have HP:=ah hpart;have HX:=ah hx;have HY:=ah hy;rw[e4];clear hpart hx hy hxl hyl e4 hi1 QY hmin he0 he2 hji hj1
     go_wp2
     go_round
     case rel=>exact⟨j,by omega,by have:=HJ2.out;omega,rfl,by rw[HP.out];congr 1;push_cast;omega⟩
     case measure=>simp[intOf]
    ·obtain rfl:j=i:=by omega
     obtain⟨x,hx⟩:=ay (uj bs k);have hxe:yV ((bs.drop j).take (e-j))=x:=by
      have:=HE.out;have:=HI.out;have:=HN.out;rw[hx,uj,←HI.out]
      by_cases h8:j+8≤n0
      ·rw[show e-j=8 by omega]
      ·rw[List.take_of_length_le (by rw[List.length_drop];omega),List.take_of_length_le (by rw[List.length_drop];omega)]
     rw[hxe];have hge:¬(j:Int)≤(j:Int)-1:=by omega
     have HX:=ah hx;have hB:=hS.fO (.cells #[.int .u64 (x:Nat)] 48);have hkb:k≤17592186043906:=by have:=HI.out;omega
     have HKB:=ah hkb;clear hx hxe hji hj1 hS hkb hmin he0 he2 hi1
     go_wp2_with (at_builtin;(refine aH rfl (.tmp 32) (.tmp 34) 117 rfl 48 1 8 (.int .u64 0) Tryz.underlying117 Xg rfl rfl hB rfl [.int .u64 (x:Nat)] rfl (by simp) (by intro b hb;cases hb;exact gW _ [_] _) (by simp[Value.oneCell']) (by have:=HKB.out;omega) (by have:=HKB.out;unfold maxLen;omega) ?_))
     intro a2 c2 w2 hS2
     go_wp2
     go_roundw
     case rel=>
      refine⟨k+1,by have:=MI.out;have:=HI.out;omega,by rw[HI.out];go_num,a2,c2,rfl,?_⟩;rw[List.range_succ,lD,lD,List.map_cons,List.map_nil,List.map_cons,List.map_nil,←HX.out];rw[←List.map_map] at hS2;exact hS2
     case measure=>simp[intOf];omega
  ·have hge:¬(i:Int)<n0:=by omega
   have hk':k=(n0+7) / 8:=by omega
   have hl:k=(eF bs).length:=by rw[kX,←HN.out,hk']
   have HL:=ah hl;have HK:=ah hk';clear hk' hl hi hk hlt
   go_wp2
   go_ret
   have e:(List.range k).map (uj bs)=eF bs:=by rw[eF,←HN.out,←HK.out]
   rw[e,HL.out] at hS;rw[HL.out];exact⟨a,c,rfl,hS⟩
set_option maxRecDepth 100000 in
set_option maxHeartbeats 2000000 in
theorem RF {W w:World} {A:aA} {I:Mem} (s:ByteArray) (ad:Option Addr) (cp:Nat) (ns:List Int) (h:Sat W w (sep (kn I) A)) (hs:s.size≤1073741824) (hn:ns.length≤17592186044000) (hl:iL ad (ns.map iv) I):
 Calls Tryz.prog 86 #[.string s,.slice ad ns.length cp] w fun e w'=>e=.returned (.int .u64 (LU s.data.toList ns:Nat))∧Sat W w' (sep (kn I) A):=by
 have kc:=fun (w:World)=>Lib.run_convert_string_bytes (P:=Tryz.prog) w 9 51 5 s Tryz.underlying9 Tryz.underlying51 Tryz.underlying5
 obtain⟨J,hle,hJ,hS1⟩:=h.NG 5 s (by unfold maxLen;omega);have hl1:=qM hle hl;have Um:s.data.toList.length=s.size:=by simp
 have hwl:(eF s.data.toList).length≤1073741824:=by rw[kX,Um];omega
 have hsI:(s.size:Int)≤1073741824:=by omega
 obtain⟨n0,hn0⟩:=ay (ns.length);rw[←hn0] at hn ⊢;have hnI:(n0:Int)≤17592186044000:=by omega
 have hw1:IntKind.u64.wrap (s.size:Int)=(s.size:Nat):=wraps_u64 _ (by omega) (by omega);have hw2:IntKind.u64.wrap (n0:Int)=(n0:Nat):=wraps_u64 _ (by omega) (by omega);have HS:=ah hs;have HN:=ah hn;have XQ:=ah hn0;have HL:=ah hl1;have HJ:=ah hJ;have HSL:=ah Um;have HWL:=ah hwl;clear hs hn hl hl1 h hJ Um hn0 hwl
 go_enter Tryz.func86,Tryz.ntmps86
 go_wp2_with fail
 refine (zZ _ s.data.toList hS1 HJ.out (by rw[HSL.out];have:=HS.out;omega)).mono ?_;rintro e w2 ⟨a,c,rfl,hS2⟩;obtain⟨m,hm⟩:=ay ((eF s.data.toList).length);have hmI:(m:Int)≤1073741824:=by rw[hm];have:=HWL.out;omega
 rw[←hm] at hS2 ⊢;obtain⟨K,hle2,hK,hS3⟩:=hS2.dV.learn;have hl2:=qM hle2 HL.out;have HL2:=ah hl2;have HK:=ah hK;have HM:=ah hm;have hle3:=ah (eH hle hle2);clear hS1 hS2 HL kc hK hm hle hle2 hl2
 go_wp2_with fail
 go_loop [5,7] (fun sv kv=>∃k:Nat,k≤m∧kv=.int .i64 k∧sv=.int .u64 (((eF s.data.toList).take k).foldl jq 0:Nat)) (fun _ kv=>m-(intOf kv).toNat)
 case atStart=>exact⟨0,Nat.zero_le _,rfl,rfl⟩
 case round=>
  obtain⟨k,hk,rfl,rfl⟩:=hrel;obtain⟨y,hy⟩:=ay (((eF s.data.toList).take k).foldl jq 0);have hyl:y<18446744073709551616:=by rw[hy];exact jl _ 0 (by omega)
  rw[←hy];have HY:=ah hy;have HYL:=ah hyl;clear hy hyl
  by_cases hkm:k<m
  ·have hkw:k<(eF s.data.toList).length:=by rw[←HM.out];exact hkm
   obtain⟨b,o,rfl,hcc⟩:=jk HK.out (fun e=>by have:=congrArg List.length e;simp at this;rw[this] at hkw;simp at hkw);obtain⟨x,hx⟩:=ay ((eF s.data.toList)[k]);have hc:=hcc _ hS3.ext k (uv x) (by rw[List.getElem?_map,List.getElem?_eq_getElem hkw,hx];rfl);have hxl:x<18446744073709551616:=by rw[hx];exact Gw _ _ (List.getElem_mem hkw)
   unfold uv at hc;have HX:=ah hx;have Js:=ah hxl;have hkI:(k:Int)<m:=by omega
   clear hx hxl hcc
   go_wp2_with fail
   refine (qw y x _ HYL.out Js.out).mono ?_;rintro e w3 ⟨rfl,rfl⟩
   go_wp2_with fail
   go_round
   case rel=>
    refine⟨k+1,by omega,by go_num,?_⟩;rw[List.take_succ_eq_append_getElem hkw,List.foldl_append,←HY.out,←HX.out,List.foldl_cons,List.foldl_nil]
   case measure=>simp[intOf];omega
  ·obtain rfl:k=m:=by omega
   have hkI:¬(k:Int)<k:=by omega
   go_wp2_with fail
   have Ez:s.size<18446744073709551616:=by have:=HS.out;omega
   have oG:n0<18446744073709551616:=by have:=HN.out;omega
   refine (qw y s.size _ HYL.out Ez).mono ?_;rintro e w3 ⟨rfl,rfl⟩;obtain⟨y1,hy1⟩:=ay (jq y s.size);have abU:y1<18446744073709551616:=by rw[hy1];exact xO _ _
   rw[←hy1];have HY1:=ah hy1;have adb:=ah abU;clear hy1 abU Ez
   go_wp2_with fail
   refine (qw y1 n0 _ adb.out oG).mono ?_;rintro e w3 ⟨rfl,rfl⟩;obtain⟨y2,hy2⟩:=ay (jq y1 n0);have Us:y2<18446744073709551616:=by rw[hy2];exact xO _ _
   rw[←hy2];have HY2:=ah hy2;have Zk:=ah Us;clear hy2 Us oG hw1 hw2
   go_wp2_with fail
   go_loop [5,8] (fun sv kv=>∃k:Nat,k≤n0∧kv=.int .i64 k∧sv=.int .u64 (((ns.map oJ).take k).foldl jq y2:Nat)) (fun _ kv=>n0-(intOf kv).toNat)
   case atStart=>exact⟨0,Nat.zero_le _,rfl,rfl⟩
   case round=>
    obtain⟨j,hj,rfl,rfl⟩:=hrel;obtain⟨z,hz⟩:=ay (((ns.map oJ).take j).foldl jq y2);have hzl:z<18446744073709551616:=by rw[hz];exact jl _ _ Zk.out
    rw[←hz];have HZ:=ah hz;have HZL:=ah hzl;clear hz hzl
    by_cases hjn:j<n0
    ·have Zy:j<ns.length:=by rw[←XQ.out];exact hjn
     obtain⟨b,o,rfl,hcc⟩:=jk HL2.out (fun e=>by have:=congrArg List.length e;simp at this;rw[this] at Zy;simp at Zy);obtain⟨x,hx⟩:=ay (ns[j]);have hc:=hcc _ hS3.ext j (iv x) (by rw[List.getElem?_map,List.getElem?_eq_getElem Zy,hx];rfl);unfold iv at hc;have hwx:=Gv x;have HX:=ah hx;have Js:=ah (Qj x);have hjI:(j:Int)<n0:=by omega
     clear hx hcc
     go_wp2_with fail
     refine (qw z (oJ x) _ HZL.out Js.out).mono ?_;rintro e w3 ⟨rfl,rfl⟩
     go_wp2_with fail
     go_round
     case rel=>
      refine⟨j+1,by omega,by go_num,?_⟩;have adH:j<(ns.map oJ).length:=by rw[List.length_map];exact Zy
      rw[List.take_succ_eq_append_getElem adH,List.foldl_append,←HZ.out,List.getElem_map,←HX.out,List.foldl_cons,List.foldl_nil]
     case measure=>simp[intOf];omega
    ·obtain rfl:j=n0:=by omega
     have hjI:¬(j:Int)<j:=by omega
     go_wp2_with fail
     refine (qw z 0 _ HZL.out (by omega)).mono ?_;rintro e w3 ⟨rfl,rfl⟩
     go_wp2_with fail
     go_ret
     refine⟨o8 ?_,hS3.Ic hle3.out⟩;rw[LU,XC,List.length_map,←XQ.out,HSL.out];rw[HM.out,List.take_length] at HY;rw[XQ.out,show ns.length=(ns.map oJ).length by simp,List.take_length] at HZ;rw[←HY.out,←HY1.out,←HY2.out,←HZ.out]
end Go.Proofs.YthfmaclnccdcbaaGreatDoor
namespace Go.Proofs.YthfmaclnccdcbaaGreatDoor
open Go.RowKit PA
set_option maxRecDepth 100000 in
set_option maxHeartbeats 2000000 in
theorem IK {W w:World} {A:aA} {I:Mem} (s:ByteArray) (v:Value) (bs:List UInt8) (h:Sat W w (sep (kn I) A)) (hv:dB.rel I [v] bs) (hs:s.size≤1073741824) (hb:bs.length≤140737488351240):
 Calls Tryz.prog 28 #[.string s,v] w fun e w'=>e=.returned (.int .u64 (lJ s.data.toList bs:Nat))∧Sat W w' (sep (kn I) A):=by
 obtain⟨ad,cp,rfl,_,_⟩:=jJ.1 hv;have HV:=ah hv;have HS:=ah hs;have HB:=ah hb;obtain⟨n0,hn0⟩:=ay (bs.length);rw[←hn0] at HV ⊢;have HN:=ah hn0;clear hv hs hb hn0
 go_enter Tryz.func28,Tryz.ntmps28
 go_wp2_with fail
 refine (zZ _ bs h HV.out HB.out).mono ?_;rintro e w2 ⟨a,c,rfl,hS2⟩;obtain⟨m,hm⟩:=ay ((eF bs).length);have hmI:(m:Int)≤17592186043906:=by rw[hm,kX];have:=HB.out;omega
 rw[←hm] at hS2 ⊢;obtain⟨K,hle,hK,hS3⟩:=hS2.dV.learn;have HK:=ah hK;have HM:=ah hm;have ji:=ah hle;clear h hS2 hK hm hle
 go_wp2_with fail
 go_loopw [6,7] (fun lv kv wr=>∃k:Nat,k≤m∧kv=.int .i64 k∧∃a2 c2,lv=.slice a2 k c2∧Sat W wr (sep (aT 3 1 a2 k c2 (((eF bs).map fun x:Nat=>iv (wrap64 (x:Int))).take k)) (sep (kn K) A))) (fun _ kv _=>m-(intOf kv).toNat)
 case atStart=>exact⟨0,Nat.zero_le _,rfl,none,0,rfl,hS3.fM _ _⟩
 case round=>
  clear hS3;obtain⟨k,hk,rfl,a2,c2,rfl,hS⟩:=hrel
  by_cases hkm:k<m
  ·have hkw:k<(eF bs).length:=by rw[←HM.out];exact hkm
   obtain⟨b,o,rfl,hcc⟩:=jk HK.out (fun e=>by have:=congrArg List.length e;simp at this;rw[this] at hkw;simp at hkw);obtain⟨x,hx⟩:=ay ((eF bs)[k]);have hc:=hcc _ hS.p1.ext k (uv x) (by rw[List.getElem?_map,List.getElem?_eq_getElem hkw,hx];rfl);unfold uv at hc;obtain⟨z,hz⟩:∃z,wrap64 (x:Int)=z:=⟨_,rfl⟩
   have HX:=ah hx;have hkI:(k:Int)<m:=by omega
   have hkb:k≤17592186043906:=by omega
   have HKB:=ah hkb;have hB:=hS.fO (.cells #[.int .i64 z] 3);clear hx hcc hkb hS
   go_wp2_with (at_builtin;(refine aH rfl (.tmp 16) (.tmp 22) 22 rfl 3 1 8 (.int .i64 0) Tryz.underlying22 Uu rfl rfl hB rfl [.int .i64 z] rfl (by simp) (by intro b hb;cases hb;exact gW _ [_] _) (by simp[Value.oneCell']) (by have:=HKB.out;omega) (by have:=HKB.out;unfold maxLen;omega) ?_))
   intro a3 c3 w3 hS4
   go_wp2_with fail
   go_roundw
   case rel=>
    refine⟨k+1,by omega,by go_num,a3,c3,rfl,?_⟩;have e1:((eF bs).map (fun x:Nat=>iv (wrap64 (x:Int)))).take (k+1)=((eF bs).map (fun x:Nat=>iv (wrap64 (x:Int)))).take k++[.int .i64 z]:=by
     rw[List.take_succ_eq_append_getElem (by rw[List.length_map];exact hkw),List.getElem_map,←HX.out,hz];rfl
    rw[e1];exact hS4
   case measure=>simp[intOf];omega
  ·obtain rfl:k=m:=by omega
   have hkI:¬(k:Int)<k:=by omega
   have hkb:k≤17592186043906:=by omega
   have HKB:=ah hkb;have hB:=hS.fO (.cells #[.int .i64 (n0:Int)] 3);clear hkb hS
   go_wp2_with (at_builtin;(refine aH rfl (.tmp 25) (.tmp 28) 22 rfl 3 1 8 (.int .i64 0) Tryz.underlying22 Uu rfl rfl hB rfl [.int .i64 (n0:Int)] rfl (by simp) (by intro b hb;cases hb;exact gW _ [_] _) (by simp[Value.oneCell']) (by have:=HKB.out;omega) (by have:=HKB.out;unfold maxLen;omega) ?_))
   intro a3 c3 w3 hS4;obtain⟨ns,hns⟩:∃ns:List Int,ns=(eF bs).map (fun x:Nat=>wrap64 (x:Int))++[(n0:Int)]:=⟨_,rfl⟩
   have hnl:ns.length=k+1:=by rw[hns,dD,List.length_map,HM.out];rfl
   have e1:((eF bs).map (fun x:Nat=>iv (wrap64 (x:Int)))).take k++[.int .i64 (n0:Int)]=ns.map iv:=by
    rw[hns,HM.out,List.take_of_length_le (by rw[List.length_map];exact Nat.le_refl _),lD,List.map_map];rfl
   rw[e1] at hS4;obtain⟨L,hle2,hL,hS5⟩:=hS4.dV.learn;have hsv:LU s.data.toList ns=lJ s.data.toList bs:=by rw[hns,HN.out];exact Gt _ _ HB.out
   have hsum:=RF s a3 c3 ns hS5 HS.out (by have:=HKB.out;omega) hL;rw[hnl,hsv] at hsum;obtain⟨r,hr⟩:=ay (lJ s.data.toList bs);rw[←hr] at hsum;have HR:=ah hr;clear hr;have ac6:=ah hsum;have hle3:=ah (eH ji.out hle2);clear hsum hsv hns hnl e1 hS4 hS5 hL hB hle2
   go_wp2_with fail
   refine ac6.out.mono ?_;rintro e w4 ⟨rfl,hS6⟩
   go_wp2_with fail
   go_ret
   exact⟨by rw[←HR.out];rfl,hS6.Ic hle3.out⟩
end Go.Proofs.YthfmaclnccdcbaaGreatDoor
namespace Go.Proofs.YthfmaclnccdcbaaGreatDoor
open Go.RowKit PA
theorem eG:(Tryz.prog.info? 5).map (fun i=>(i.zero,i.size,i.bytes))=some (some (.int .u8 0),1,1):=by kernel_rfl
def dM (p:Nat) (bs:List UInt8):aA:=ex fun a:Option Addr=>ex fun n:Nat=>ex fun c:Nat=>sep (blk p (.cells #[.slice a n c] 104 (0,0))) (aT 5 1 a n c (bs.map bv))
theorem qo {W w:World} {A:aA} {p:Nat} {bs:List UInt8} (h:Sat W w (sep (dM p bs) A)):∃a n c,n=bs.length∧Sat W w (sep (blk p (.cells #[.slice a n c] 104 (0,0))) (sep (aT 5 1 a n c (bs.map bv)) A)):=by
 simp only[dM,fP,Sat.ex,aj] at h;obtain⟨a,n,c,h⟩:=h;have:=h.p1.uP.1;exact⟨a,n,c,by simpa using this.symm,h⟩
theorem uK {W w:World} {A:aA} {p:Nat} {bs:List UInt8} {a:Option Addr} {n c:Nat} (h:Sat W w (sep (blk p (.cells #[.slice a n c] 104 (0,0))) (sep (aT 5 1 a n c (bs.map bv)) A))):Sat W w (sep (dM p bs) A):=by
 simp only[dM,fP,Sat.ex,aj];exact⟨a,n,c,h⟩
set_option maxHeartbeats 1000000 in
theorem wU {W w:World} {A:aA} (p:Nat) (bs:List UInt8) (x:Nat) (hx:x<18446744073709551616) (h:Sat W w (sep (dM p bs) A)) (hb:bs.length≤1073741824):
 Calls Tryz.prog 126 #[.pointer (some ⟨p,0,none⟩),.int .u64 (x:Nat)] w fun e w'=>e=.returned (.tuple #[])∧Sat W w' (sep (dM p (bs++Lib.uvarint x)) A):=by
 have HX:=ah hx;have HB:=ah hb;clear hx hb
 go_enter Tryz.func126,Tryz.ntmps126
 go_wp2_with fail
 go_loopw [1] (fun nv wr=>∃(y:Nat) (pre:List UInt8),nv=.int .u64 (y:Nat)∧Hid (y<18446744073709551616∧pre++Lib.uvarint y=Lib.uvarint x)∧Sat W wr (sep (dM p (bs++pre)) A)) (fun nv _=>(intOf nv).toNat)
 case atStart=>exact⟨x,[],rfl,ah ⟨HX.out,rfl⟩,by simpa using h⟩
 case round=>
  clear h;obtain⟨y,pre,rfl,HY,hS⟩:=hrel;have hpl:pre.length≤10:=by
   have:=congrArg List.length HY.out.2;have:=Lib.uvarint_length64 HX.out;simp at *;omega
  obtain⟨a,n,c,hn,h1⟩:=qo hS;have hnb:n≤1073741834:=by rw[hn,dD];have:=HB.out;omega
  have HN:=ah hnb;have c1:wr.cell? ⟨p,0,none⟩=some (.slice a n c):=h1.cell 0;obtain⟨vs,hvs⟩:=ay ((bs++pre).map bv);rw[←hvs] at h1;have uV:=ah hvs;have hS':=h1.p1;clear hn hpl hnb hS hvs
  by_cases hy:128≤y
  ·have hyI:(128:Int)≤(y:Int):=by omega
   obtain⟨z,hz⟩:∃z:UInt8,z=(y % 128+128).toUInt8:=⟨_,rfl⟩
   have hor:bits BinOp.or IntKind.u8 ((y:Int) % 256) 128=(z.toNat:Int):=by
    rw[Lib.u8_or128_any _ (by omega) (by omega),hz];simp;omega
   have hB:=(hS'.fO (.cells #[.int .u8 (z.toNat:Int)] 5))
   have HZ:=ah hz;clear hz h1 hS'
   go_wp2_with (at_builtin;(refine aH rfl (.tmp 12) (.tmp 16) 51 rfl 5 1 1 (.int .u8 0) Tryz.underlying51 eG rfl rfl hB rfl [.int .u8 (z.toNat:Int)] rfl (by simp) (by intro b hb;cases hb;exact gW _ [_] _) (by simp[Value.oneCell']) (by have:=HN.out;omega) (by have:=HN.out;unfold maxLen;omega) ?_))
   intro a2 c2 w2 h2;have h3:=h2.p1;have c2':w2.cell? ⟨p,0,none⟩=some (.slice a n c):=h3.cell 0;have f2':w2.frozen? ⟨p,0,none⟩=false:=h3.aG 0;have h4:Sat W (w2.setCell ⟨p,0,none⟩ (.slice a2 (n+1) c2)) (sep (blk p (.cells #[.slice a2 (n+1) c2] 104 (0,0))) (sep (aT 5 1 a2 (n+1) c2 (vs++[.int .u8 (z.toNat:Int)])) A)):=h3.setCell 0 _;clear hB h2 h3 c1
   go_wp2_with fail
   go_roundw
   case rel=>
    refine⟨y / 128,pre++[z],by go_num,ah ⟨by have:=HY.out.1;omega,?_⟩,uK (a:=a2) (n:=n+1) (c:=c2) ?_⟩
    ·rw[List.append_assoc,←HY.out.2,Lib.uvarint_big hy,←HZ.out];rfl
    ·rw[←List.append_assoc,lD,←uV.out];exact h4
   case measure=>simp[intOf];omega
  ·have hyB:decide ((128:Int)≤(y:Int))=false:=by simp;omega
   have SQ:=ah hy;obtain⟨z,hz⟩:∃z:UInt8,z=y.toUInt8:=⟨_,rfl⟩
   have hzy:z.toNat=y:=by
    rw[hz];simp;omega
   have hor:((y:Int) % 256)=(z.toNat:Int):=by omega
   have hB:=(hS'.fO (.cells #[.int .u8 (z.toNat:Int)] 5))
   have HZ:=ah hz;clear hz h1 hS' hzy hy
   go_wp2_with (at_builtin;(refine aH rfl (.tmp 24) (.tmp 27) 51 rfl 5 1 1 (.int .u8 0) Tryz.underlying51 eG rfl rfl hB rfl [.int .u8 (z.toNat:Int)] rfl (by simp) (by intro b hb;cases hb;exact gW _ [_] _) (by simp[Value.oneCell']) (by have:=HN.out;omega) (by have:=HN.out;unfold maxLen;omega) ?_))
   intro a2 c2 w2 h2;have h3:=h2.p1;have c2':w2.cell? ⟨p,0,none⟩=some (.slice a n c):=h3.cell 0;have f2':w2.frozen? ⟨p,0,none⟩=false:=h3.aG 0;have h4:Sat W (w2.setCell ⟨p,0,none⟩ (.slice a2 (n+1) c2)) (sep (blk p (.cells #[.slice a2 (n+1) c2] 104 (0,0))) (sep (aT 5 1 a2 (n+1) c2 (vs++[.int .u8 (z.toNat:Int)])) A)):=h3.setCell 0 _;clear hB h2 h3 c1
   go_wp2_with fail
   go_end0
   refine⟨rfl,uK (a:=a2) (n:=n+1) (c:=c2) ?_⟩;rw[←HY.out.2,Lib.uvarint_small (by have:=SQ.out;omega),←HZ.out,←List.append_assoc,lD,←uV.out,List.map_cons,List.map_nil,bv];exact h4
end Go.Proofs.YthfmaclnccdcbaaGreatDoor
namespace Go.Proofs.YthfmaclnccdcbaaGreatDoor
open Go.RowKit PA
theorem Xh:(Tryz.prog.info? 5).map (fun i=>(i.zero,i.size,i.bytes))=some (some (.int .u8 0),1,1):=by kernel_rfl
theorem clone_any {W w:World} {A:aA} (a:Option Addr) (n c:Nat) (xs:List Value) (h:Sat W w A) (hsrc:∀b,a=some b→∀j u,xs[j]?=some u→w.cell? (b.add j)=some u) (hl:xs.length=n) (hw:X9 a n c) (h1:∀u∈xs,u.oneCell'=true) (hn:n≤140737488355328):
 Calls Tryz.prog 93 #[.slice a n c] w fun e w'=>∃a' c',e=.returned (.slice a' n c')∧Sat W w' (sep (aT 5 1 a' n c' xs) A):=by
 obtain⟨hw1,hw2,hw3⟩:=hw;have hq:=fun w a n c=>Lib.run_eql_slice_nil (P:=Tryz.prog) w 51 5 a n c 0 0 Tryz.underlying51
 cases a with
 | none=>
  obtain rfl:=hw3 rfl;obtain rfl:n=0:=by omega
  obtain rfl:xs=[]:=List.eq_nil_of_length_eq_zero hl;clear hsrc
  go_enter Tryz.func93,Tryz.ntmps93
  go_wp2
  go_ret
  exact⟨_,_,rfl,h.fM _ _⟩
 | some b=>
  have hS:=(h.alloc (.cells #[] 5)).lT 0 0 1 [] rfl (by omega) (by unfold maxLen;omega) rfl rfl;have hc2:=ah (P6 (hsrc b rfl) (.cells #[] 5));have HN:=ah hn;have HW2:=ah hw2;have HW1:=ah hw1;clear hsrc hn hw1 hw2 hw3
  go_enter Tryz.func93,Tryz.ntmps93
  go_wp2_with (at_builtin;refine aH rfl _ _ 51 rfl 5 1 1 (.int .u8 0) Tryz.underlying51 Xh rfl rfl hS rfl xs (by omega) (by simp) (by intro b' hb;cases hb;exact hc2.out) h1 (by have:=HN.out;omega) (by have:=HN.out;unfold maxLen;omega) ?_)
  intro a' c' w' hS'
  go_wp2
  go_ret
  refine⟨a',c',?_,?_⟩
  ·simp
  ·simpa using hS'
theorem _root_.PA.Sat.P8 {W w:World} {A:aA} {E:Nat} {a:Option Addr} {n c:Nat} {xs:List Value} (h:Sat W w (sep (aT E 1 a n c xs) A)):∀b,a=some b→∀j u,xs[j]?=some u→w.cell? (b.add j)=some u:=by
 intro b hb j u hu;obtain⟨g,e,hc⟩:=h.Iu (fun e=>by rw[e] at hu;simp at hu);rw[hb] at e;cases e;have:=hc j u hu;unfold Addr.add;split
 ·rename_i e;subst e;exact this
 ·simpa using this
end Go.Proofs.YthfmaclnccdcbaaGreatDoor
namespace Go.Proofs.YthfmaclnccdcbaaGreatDoor
open Go.RowKit PA
theorem MH (n:Int) (w:World) (h1:-9223372036854775808≤n) (h2:n≤9223372036854775807):Calls Tryz.prog 127 #[.int .i64 n] w fun e w'=>e=.returned (.int .u64 (Lib.zigzag n:Nat))∧w=w':=by
 go_enter Tryz.func127,Tryz.ntmps127
 go_wp2
 go_ret
 exact⟨o8 (zz_val n h1 h2),rfl⟩
theorem IV (n:Int) (w:World) (h1:-9223372036854775808≤n) (h2:n≤9223372036854775807):Calls Tryz.prog 137 #[.int .i64 n] w fun e w'=>e=.returned (.int .u64 (Lib.zigzag n:Nat))∧w=w':=by
 by_cases h0:n<0
 ·go_enter Tryz.func137,Tryz.ntmps137
  go_wp2
  go_ret
  exact⟨o8 (by show 2*-(n+1)+1=_;unfold Lib.zigzag;rw[if_neg (by omega)];omega),rfl⟩
 ·go_enter Tryz.func137,Tryz.ntmps137
  go_wp2
  go_ret
  exact⟨o8 (by show 2*n=_;unfold Lib.zigzag;rw[if_pos (by omega)];omega),rfl⟩
theorem iJ {W w:World} {A:aA} (p:Nat) (bs:List UInt8) (n:Int) (h1:-9223372036854775808≤n) (h2:n≤9223372036854775807) (h:Sat W w (sep (dM p bs) A)) (hb:bs.length≤1073741824):
 Calls Tryz.prog 72 #[.pointer (some ⟨p,0,none⟩),.int .i64 n] w fun e w'=>e=.returned (.tuple #[])∧Sat W w' (sep (dM p (bs++PA.encI n)) A):=by
 have hz:=Lib.zigzag_lt h1 h2;have HZ:=ah hz;have HB:=ah hb;clear hz hb
 go_enter Tryz.func72,Tryz.ntmps72
 go_wp2_with fail
 refine (MH n _ h1 h2).mono ?_;rintro e w2 ⟨rfl,rfl⟩
 go_wp2_with fail
 refine (wU p bs (Lib.zigzag n) HZ.out h HB.out).mono ?_;rintro e w3 ⟨rfl,hS⟩
 go_wp2_with fail
 go_end0
 exact⟨rfl,hS⟩
set_option maxHeartbeats 1000000 in
theorem O1 {W w:World} {A:aA} (p:Nat) (bs:List UInt8) (s:ByteArray) (h:Sat W w (sep (dM p bs) A)) (hb:bs.length≤1073741800) (hs:s.size≤1073741824):
 Calls Tryz.prog 129 #[.pointer (some ⟨p,0,none⟩),.string s] w fun e w'=>e=.returned (.tuple #[])∧Sat W w' (sep (dM p (bs++encR s.data.toList)) A):=by
 have hw1:IntKind.u64.wrap (s.size:Int)=(s.size:Nat):=wraps_u64 _ (by omega) (by omega);have HB:=ah hb;have HS:=ah hs;clear hb hs
 go_enter Tryz.func129,Tryz.ntmps129
 go_wp2_with fail
 refine (wU p bs s.size (by have:=HS.out;omega) h (by have:=HB.out;omega)).mono ?_;rintro e w3 ⟨rfl,hS⟩;obtain⟨a,n,c,hn,h3⟩:=qo hS;have yx:=Lib.uvarint_length64 (x:=s.size) (by have:=HS.out;omega);have hnb:n≤1073741900:=by rw[hn,dD];have:=HB.out;omega
 obtain⟨vs,hvs⟩:=ay ((bs++Lib.uvarint s.size).map bv);rw[←hvs] at h3;have c1:w3.cell? ⟨p,0,none⟩=some (.slice a n c):=h3.cell 0;have f1:w3.frozen? ⟨p,0,none⟩=false:=h3.aG 0;have hB:=h3.p1;have HN:=ah hnb;have uV:=ah hvs;clear hn yx hnb hvs h h3 hS hw1
 go_wp2_with (at_builtin;(refine wS rfl (.tmp 13) (.tmp 14) 51 9 rfl 5 Tryz.underlying51 Tryz.underlying9 eG rfl hB s rfl (by have:=HN.out;have:=HS.out;omega) ?_))
 intro a2 c2 w4 h4;have h5:=h4.p1;have c2':w4.cell? ⟨p,0,none⟩=some (.slice a n c):=h5.cell 0;have f2':w4.frozen? ⟨p,0,none⟩=false:=h5.aG 0;have h6:Sat W (w4.setCell ⟨p,0,none⟩ (.slice a2 (n+s.size) c2)) (sep (blk p (.cells #[.slice a2 (n+s.size) c2] 104 (0,0))) (sep (aT 5 1 a2 (n+s.size) c2 (vs++s.data.toList.map bv)) A)):=h5.setCell 0 _;clear hB h4 h5 c1 f1
 go_wp2_with fail
 go_end0
 refine⟨rfl,uK (a:=a2) (n:=n+s.size) (c:=c2) ?_⟩;rw[encR,show s.data.toList.length=s.size by simp,←List.append_assoc,lD,←uV.out];exact h6
theorem oC {W w:World} {A:aA} (p:Nat) (bs:List UInt8) (h:Sat W w (sep (dM p bs) A)) (hb:bs.length≤1073742900):
 Calls Tryz.prog 77 #[.pointer (some ⟨p,0,none⟩)] w fun e w'=>∃a c,e=.returned (.slice a bs.length c)∧Sat W w' (sep (aT 5 1 a bs.length c (bs.map bv)) (sep (dM p bs) A)):=by
 obtain⟨a,n,c,hn,h1⟩:=qo h;have c1:w.cell? ⟨p,0,none⟩=some (.slice a n c):=h1.cell 0;have hsw:=h1.p1.fJ;have hsrc:=h1.p1.P8;rw[←hn] at hb ⊢;have hcl:=clone_any a n c (bs.map bv) h1 hsrc (by rw[List.length_map,hn]) hsw (Nw bs) (by omega);have Ep:=ah hcl;clear h h1 hn hsw hsrc hcl hb
 go_enter Tryz.func77,Tryz.ntmps77
 go_wp2_with fail
 refine Ep.out.mono ?_;rintro e w2 ⟨a2,c2,rfl,hS⟩;clear c1
 go_wp2_with fail
 go_ret
 refine⟨a2,c2,rfl,?_⟩;have h2:=uK (a:=a) (n:=n) (c:=c) (p:=p) (bs:=bs) (A:=sep (aT 5 1 a2 n c2 (bs.map bv)) A) (bT hS);exact h2.p1
set_option maxHeartbeats 1000000 in
theorem nD {W w:World} {A:aA} {I:Mem} (p:Nat) (bs:List UInt8) (v:Value) (b:List UInt8) (h:Sat W w (sep (dM p bs) (sep (kn I) A))) (hv:dB.rel I [v] b) (hb:bs.length≤1073741800) (hs:b.length≤1073741824):
 Calls Tryz.prog 74 #[.pointer (some ⟨p,0,none⟩),v] w fun e w'=>e=.returned (.tuple #[])∧Sat W w' (sep (dM p (bs++encR b)) (sep (kn I) A)):=by
 obtain⟨a,c,rfl,hsw,hc⟩:=jJ.1 hv;have hsrc:=Bc hc h.p1.ext;obtain⟨s,hsd⟩:∃s:ByteArray,s=⟨b.toArray⟩:=⟨_,rfl⟩
 have hsl:s.data.toList=b:=by rw[hsd]
 have hss:s.size=b.length:=by rw[hsd];simp[ByteArray.size]
 have hconv:(convert 51 9 (.slice a b.length c)).run Tryz.prog w=.ok (.string s) w:=by
  cases a with
  | none=>
   have hc0:=hsw.2.2 rfl;have hb0:b=[]:=List.eq_nil_of_length_eq_zero (by have:=hsw.1;omega);subst hb0;rw[hsd];simp[convert,run_underlying Tryz.underlying51,run_underlying Tryz.underlying9,run_underlying Tryz.underlying5,Conv.bytesToString];rfl
  | some ad=>
   have:=run_convert_bytes_back (P:=Tryz.prog) w 51 9 5 ad c b Tryz.underlying51 Tryz.underlying5 Tryz.underlying9 (fun j hj=>hsrc ad rfl j _ (by rw[List.getElem?_map,List.getElem?_eq_getElem hj];rfl));rw[hsd];exact this
 have htx:=O1 p bs s h hb (by rw[hss];exact hs);rw[hsl] at htx;have HT:=ah htx;obtain⟨n0,hn0⟩:=ay (b.length);rw[←hn0] at hconv ⊢;clear htx hv hsw hc hsrc hsd hsl hss hn0 hb hs h
 go_enter Tryz.func74,Tryz.ntmps74
 go_wp2_with fail
 refine HT.out.mono ?_;rintro e w3 ⟨rfl,hS⟩
 go_wp2_with fail
 go_end0
 exact⟨rfl,hS⟩
end Go.Proofs.YthfmaclnccdcbaaGreatDoor
namespace Go.Proofs.YthfmaclnccdcbaaGreatDoor
open Go.RowKit PA
set_option maxHeartbeats 1000000 in
theorem wM {W w:World} {A:aA} (x:Nat) (hx:x<18446744073709551616) (h:Sat W w A):
 Calls Tryz.prog 136 #[.int .u64 (x:Nat)] w fun e w'=>∃a c,e=.returned (.slice a (Lib.uvarint x).length c)∧Sat W w' (sep (aT 5 1 a (Lib.uvarint x).length c ((Lib.uvarint x).map bv)) A):=by
 have HX:=ah hx;clear hx
 go_enter Tryz.func136,Tryz.ntmps136
 go_wp2_with fail
 go_loopw [0,3] (fun nv ov wr=>∃(y:Nat) (pre:List UInt8) (a:Option Addr) (n c:Nat) (vs:List Value),nv=.int .u64 (y:Nat)∧ov=.slice a n c∧Hid (vs=pre.map bv∧n=pre.length∧y<18446744073709551616∧pre++Lib.uvarint y=Lib.uvarint x)∧Sat W wr (sep (aT 5 1 a n c vs) A)) (fun nv _ _=>(intOf nv).toNat)
 case atStart=>exact⟨x,[],none,0,0,[],rfl,rfl,ah ⟨rfl,rfl,HX.out,rfl⟩,h.fM _ _⟩
 case round=>
  clear h;obtain⟨y,pre,a,n,c,vs,rfl,rfl,HY,hS⟩:=hrel;have hnb:n≤10:=by
   have h1:=congrArg List.length HY.out.2.2.2;have h2:=Lib.uvarint_length64 HX.out;rw[HY.out.2.1];simp at h1;omega
  have HN:=ah hnb;clear hnb
  by_cases hy:127<y
  ·have hyI:(127:Int)<(y:Int):=by omega
   obtain⟨z,hz⟩:∃z:UInt8,z=(y % 128+128).toUInt8:=⟨_,rfl⟩
   have hzv:z.toNat=y % 128+128:=by rw[hz];simp;omega
   obtain⟨q,hq⟩:∃q:Nat,q=y / 128:=⟨_,rfl⟩
   have ag1:IntKind.u64.wrap ((y:Int) / 128)=(q:Int):=by rw[wraps_u64 _ (by omega) (by have:=HY.out.2.2.1;omega)];omega
   have HQ:=ah hq;have hqy:q<y:=by omega
   have hB:=(hS.fO (.cells #[.int .u8 (128+(y:Int) % 128)] 5))
   clear hq;have HZ:=ah hz;have HZV:=ah hzv;clear hz hzv hS
   go_wp2_with (at_builtin;(refine aH rfl (.tmp 6) (.tmp 11) 51 rfl 5 1 1 (.int .u8 0) Tryz.underlying51 eG rfl rfl hB rfl [.int .u8 (128+(y:Int) % 128)] rfl (by simp) (by intro b hb;cases hb;exact gW _ [_] _) (by simp[Value.oneCell']) (by have:=HN.out;omega) (by have:=HN.out;unfold maxLen;omega) ?_))
   intro a2 c2 w2 h2;clear hB
   go_wp2_with fail
   go_roundw
   case rel=>
    refine⟨q,pre++[z],a2,n+1,c2,_,rfl,rfl,ah ⟨rfl,?_,by have:=HY.out.2.2.1;omega,?_⟩,?_⟩
    ·rw[dD,HY.out.2.1];rfl
    ·rw[List.append_assoc,←HY.out.2.2.2,Lib.uvarint_big (by omega:128≤y),←HZ.out,←HQ.out];rfl
    ·have e:(128+(y:Int) % 128)=((z.toNat:Nat):Int):=by have:=HZV.out;omega
     rw[e,HY.out.1] at h2;rw[lD,List.map_cons,List.map_nil,bv];exact h2
   case measure=>simp[intOf];omega
  ·have hyB:decide ((127:Int)<(y:Int))=false:=by simp;omega
   have SQ:=ah hy;obtain⟨z,hz⟩:∃z:UInt8,z=y.toUInt8:=⟨_,rfl⟩
   have hzy:z.toNat=y:=by
    rw[hz];simp;omega
   have hor:((y:Int) % 256)=(z.toNat:Int):=by omega
   have hB:=(hS.fO (.cells #[.int .u8 (z.toNat:Int)] 5))
   have HZ:=ah hz;clear hz hzy hy hS
   go_wp2_with (at_builtin;(refine aH rfl (.tmp 15) (.tmp 18) 51 rfl 5 1 1 (.int .u8 0) Tryz.underlying51 eG rfl rfl hB rfl [.int .u8 (z.toNat:Int)] rfl (by simp) (by intro b hb;cases hb;exact gW _ [_] _) (by simp[Value.oneCell']) (by have:=HN.out;omega) (by have:=HN.out;unfold maxLen;omega) ?_))
   intro a2 c2 w2 h2;clear hB;have e:Lib.uvarint x=pre++[z]:=by rw[←HY.out.2.2.2,Lib.uvarint_small (by have:=SQ.out;omega),←HZ.out]
   have hl:n+1=(Lib.uvarint x).length:=by rw[e,dD,HY.out.2.1];rfl
   have h3:Sat W w2 (sep (aT 5 1 a2 (Lib.uvarint x).length c2 ((Lib.uvarint x).map bv)) A):=by
    rw[←hl,e,lD,List.map_cons,List.map_nil,bv,←HY.out.1];exact h2
   have HL:=ah hl;clear e hl h2
   go_wp2_with fail
   go_ret
   exact⟨a2,c2,by rw[←HL.out];rfl,h3⟩
theorem iH {W w:World} {A:aA} (n:Int) (h1:-9223372036854775808≤n) (h2:n≤9223372036854775807) (h:Sat W w A):
 Calls Tryz.prog 80 #[.int .i64 n] w fun e w'=>∃a c,e=.returned (.slice a (PA.encI n).length c)∧Sat W w' (sep (aT 5 1 a (PA.encI n).length c ((PA.encI n).map bv)) A):=by
 have HZ:=ah (Lib.zigzag_lt h1 h2)
 go_enter Tryz.func80,Tryz.ntmps80
 go_wp2_with fail
 refine (IV n _ h1 h2).mono ?_;rintro e w2 ⟨rfl,rfl⟩
 go_wp2_with fail
 refine (wM (Lib.zigzag n) HZ.out h).mono ?_;rintro e w3 ⟨a,c,rfl,hS⟩
 go_wp2_with fail
 go_ret
 exact⟨a,c,rfl,hS⟩
theorem ng {W w:World} {A:aA} {I:Mem} (v:Value) (b:List UInt8) (h:Sat W w (sep (kn I) A)) (hv:dB.rel I [v] b) (hb:b.length≤1073741824):
 Calls Tryz.prog 82 #[v] w fun e w'=>∃a c,e=.returned (.slice a (encR b).length c)∧Sat W w' (sep (aT 5 1 a (encR b).length c ((encR b).map bv)) (sep (kn I) A)):=by
 obtain⟨a,c,rfl,hsw,hc⟩:=jJ.1 hv;obtain⟨n0,hn0⟩:=ay (b.length);rw[←hn0] at hb ⊢;have hw1:IntKind.u64.wrap (n0:Int)=(n0:Nat):=wraps_u64 _ (by omega) (by omega);have HC:=ah hc;have HN:=ah hn0;have HB:=ah hb;have HSW:=ah hsw;clear hc hn0 hb hsw hv
 go_enter Tryz.func82,Tryz.ntmps82
 go_wp2_with fail
 refine (wM n0 (by have:=HB.out;omega) h).mono ?_;rintro e w2 ⟨a1,c1,rfl,hS⟩;have hsrc:=Bc HC.out hS.p1.ext;obtain⟨m,hm⟩:=ay ((Lib.uvarint n0).length);obtain⟨vs,hvs⟩:=ay ((Lib.uvarint n0).map bv);have hmb:m≤10:=by rw[hm];exact Lib.uvarint_length64 (by have:=HB.out;omega)
 rw[←hm,←hvs] at hS;rw[←hm];have HM:=ah hm;have RY:=ah hmb;have HV:=ah hvs;have pJ:=ah hsrc;clear hm hvs hmb hsrc h hw1
 go_wp2_with (at_builtin;(refine aH rfl (.tmp 6) (.tmp 7) 51 rfl 5 1 1 (.int .u8 0) Tryz.underlying51 eG rfl rfl hS rfl (b.map bv) (by rw[List.length_map,HN.out,Nat.mul_one]) (fun e=>by have:=HSW.out.2.2 e;have:=HSW.out.1;have:=HN.out;omega) pJ.out (Nw b) (by have:=HB.out;have:=RY.out;omega) (by have:=HB.out;have:=RY.out;unfold maxLen;omega) ?_))
 intro a2 c2 w4 h4;have hl:m+n0=(encR b).length:=by rw[encR,dD,←HN.out,←HM.out]
 have h5:Sat W w4 (sep (aT 5 1 a2 (encR b).length c2 ((encR b).map bv)) (sep (kn I) A)):=by
  rw[←hl,encR,lD,←HN.out,←HV.out];exact h4
 have HL:=ah hl;clear hl h4 hS
 go_wp2_with fail
 go_ret
 exact⟨a2,c2,by rw[←HL.out];rfl,h5⟩
end Go.Proofs.YthfmaclnccdcbaaGreatDoor
namespace PA
open Go Go.RowKit
structure oL (w:World) (a:Option Addr) (n:Nat) (vs:List Value):Prop where
 len:vs.length=n*1
 nil:a=none→n=0
 src:∀b,a=some b→∀j u,vs[j]?=some u→w.cell? (b.add j)=some u
 one:∀u∈vs,u.oneCell'=true
theorem jg {W w:World} {A:aA} {E:Nat} {a:Option Addr} {n c:Nat} {bs:List UInt8} (h:Sat W w (sep (aT E 1 a n c (bs.map PA.bv)) A)):oL w a n (bs.map PA.bv):=
 ⟨h.uP.1,fun e=>by have:=h.fJ.2.2 e;have:=h.fJ.1;omega,h.P8,PA.Nw bs⟩
def fU (l:List Int):List UInt8:=Lib.uvarint l.length++(l.map PA.encI).flatten
def pV (l:List Int) (k:Nat):List UInt8:=Lib.uvarint l.length++((l.take k).map PA.encI).flatten
theorem uD {l:List Int} {k:Nat} {r:Int} (h:l[k]?=some r):pV l (k+1)=pV l k++PA.encI r:=by
 unfold pV;rw[List.take_add_one,h];simp
theorem pW (l:List Int):pV l l.length=fU l:=by unfold pV fU;rw[List.take_length]
theorem dX {r:Int} (h1:-9223372036854775808≤r) (h2:r≤9223372036854775807):(PA.encI r).length≤10:=by
 unfold PA.encI;exact Lib.uvarint_length64 (Lib.zigzag_lt h1 h2)
theorem uy {l:List Int} (hn:l.length≤1048576) (hi:∀r∈l,-9223372036854775808≤r∧r≤9223372036854775807) (k:Nat):(pV l k).length≤10+10*k:=by
 induction k with
 | zero=>unfold pV;simp;exact Lib.uvarint_length64 (by omega)
 | succ k ih=>
  cases h:l[k]? with
  | none=>
   have e:pV l (k+1)=pV l k:=by unfold pV;rw[List.take_add_one,h];simp
   rw[e];omega
  | some r=>
   rw[uD h,dD];have:=dX (hi r (List.mem_iff_getElem?.2 ⟨k,h⟩)).1 (hi r (List.mem_iff_getElem?.2 ⟨k,h⟩)).2;omega
end PA
namespace Go.Proofs.YthfmaclnccdcbaaGreatDoor
open Go.RowKit PA
set_option maxHeartbeats 2000000 in
theorem DZ {W w:World} {A:aA} (a:Option Addr) (n c:Nat) (l:List Int) (hn:n=l.length) (hn2:l.length≤1048576) (hi:∀r∈l,-9223372036854775808≤r∧r≤9223372036854775807)
 (hc:∀w' B,Sat W w' (sep B A)→∀(k:Nat) r,l[k]?=some r→∃b o,a=some ⟨b,o,none⟩∧w'.cell? ⟨b,o+k,none⟩=some (.int .i64 r)) (h:Sat W w A):
 Calls Tryz.prog 180 #[.slice a n c] w fun e w'=>∃a' c',e=.returned (.slice a' (fU l).length c')∧Sat W w' (sep (aT 5 1 a' (fU l).length c' ((fU l).map bv)) A):=by
 have HN:=ah (And.intro hn hn2);have HI:=ah hi;have HC:=ah hc;have hw1:IntKind.u64.wrap (n:Int)=(n:Nat):=wraps_u64 _ (by omega) (by omega);have H:=ah h;obtain⟨E,hE⟩:=ay (fU l);rw[←hE];have HE:=ah hE;obtain⟨Po,dR⟩:∃P:Ending→World→Prop,P=fun e w'=>∃a' c',e=.returned (.slice a' E.length c')∧Sat W w' (sep (aT 5 1 a' E.length c' (E.map bv)) A):=⟨_,rfl⟩
 rw[←dR];have bK:=ah dR;have n63:(n:Int)≤9223372036854775807:=by omega
 clear hn hn2 hi hc h hE dR
 go_enter Tryz.func180,Tryz.ntmps180
 go_wp2_with fail
 refine (wM n (by have:=HN.out;omega) H.out).mono ?_;rintro e w2 ⟨a1,c1,rfl,h2⟩;obtain⟨m,hm⟩:=ay ((Lib.uvarint n).length);obtain⟨vs,hvs⟩:=ay ((Lib.uvarint n).map bv);rw[←hm,←hvs] at h2;rw[←hm];have HM:=ah (And.intro hm hvs);have H2:=ah h2;clear hm hvs h2 H
 go_wp2_with fail
 go_loopw [3,4] (fun ov kv wr=>∃(k:Nat) (a':Option Addr) (n' c':Nat) (vs:List Value),ov=.slice a' n' c'∧kv=.int .i64 k∧k≤n∧Hid (n'=(pV l k).length∧vs=(pV l k).map bv)∧Sat W wr (sep (aT 5 1 a' n' c' vs) A)) (fun _ kv _=>n-(intOf kv).toNat)
 case atStart=>
  have e0:pV l 0=Lib.uvarint n:=by unfold pV;rw[HN.out.1];simp
  exact⟨0,a1,m,c1,vs,rfl,rfl,by omega,ah ⟨by rw[HM.out.1,e0],by rw[HM.out.2,e0]⟩,H2.out⟩
 case round=>
  obtain⟨k,a',n',c',vs',rfl,rfl,hk,HV,hS⟩:=hrel;clear H2
  by_cases hlt:k<n
  ·have hltz:(k:Int)<(n:Int):=by omega
   obtain⟨r,hr⟩:∃r,l[k]?=some r:=⟨_,List.getElem?_eq_getElem (by have:=HN.out;omega)⟩
   obtain⟨b,o,rfl,j0⟩:=HC.out _ _ hS k r hr;have HR:=ah (And.intro hr hlt);have HS:=ah hS;clear hr hlt hS hk
   go_wp2_with fail
   refine (iH r (HI.out r (List.mem_iff_getElem?.2 ⟨k,HR.out.1⟩)).1 (HI.out r (List.mem_iff_getElem?.2 ⟨k,HR.out.1⟩)).2 HS.out).mono ?_;rintro e w3 ⟨a2,c2,rfl,h3⟩;have mJ:=ah (jg h3);have h4:=h3.drop;have hb1:n'≤10+10*k:=by rw[HV.out.1];exact uy HN.out.2 HI.out k
   have hb2:(PA.encI r).length≤10:=dX (HI.out r (List.mem_iff_getElem?.2 ⟨k,HR.out.1⟩)).1 (HI.out r (List.mem_iff_getElem?.2 ⟨k,HR.out.1⟩)).2;have hkb:k≤1048576:=by have:=HN.out;have:=HR.out.2;omega
   obtain⟨m2,hm2⟩:=ay ((PA.encI r).length);obtain⟨us,hus⟩:=ay ((PA.encI r).map bv);rw[←hm2,←hus] at mJ;rw[←hm2] at hb2 ⊢;have HB:=ah (And.intro hb1 (And.intro hb2 hkb));have HU:=ah (And.intro hm2 hus);clear h3 hb1 hb2 hkb hm2 hus j0 HS
   go_wp2_with (at_builtin;(refine aH rfl (.tmp 15) (.tmp 20) 51 rfl 5 1 1 (.int .u8 0) Tryz.underlying51 eG rfl rfl h4 rfl us mJ.out.len mJ.out.nil mJ.out.src mJ.out.one (by have:=HB.out;omega) (by have:=HB.out;unfold maxLen;omega) ?_))
   intro a4 c4 w5 h5;have H5:=ah h5;clear h4 h5 mJ
   go_wp2_with fail
   go_roundw
   case rel=>
    refine⟨k+1,a4,n'+m2,c4,_,rfl,by go_num,by have:=HR.out.2;omega,ah ⟨?_,?_⟩,H5.out⟩
    ·rw[uD HR.out.1,dD,HV.out.1,HU.out.1]
    ·rw[uD HR.out.1,lD,HV.out.2,HU.out.2]
   case measure=>simp[intOf];have:=HR.out.2;omega
  ·obtain rfl:k=n:=by omega
   have hE2:E=pV l k:=by rw[HE.out,HN.out.1,pW]
   have HF:Hid (n'=E.length∧vs'=E.map bv):=ah (by rw[hE2];exact HV.out);have HS:=ah hS;clear hS hE2 HV
   go_wp2
   rw[bK.out];exact⟨a',c',by rw[←HF.out.1];try rfl,by rw[←HF.out.1,←HF.out.2];exact HS.out⟩
end Go.Proofs.YthfmaclnccdcbaaGreatDoor
namespace PA
open Go
def Ov (a b:Rt):Bool:=decide (a.n*b.d<b.n*a.d)
def eU (r:Rt):Bool:=okR r&&(decide (r.n≤1073741824)&&(decide (-1073741824≤r.n)&&decide (r.d≤32768)))
def Iv.lw (x:Iv):Rt:=⟨x.ln,x.ld⟩
def Iv.up (x:Iv):Rt:=⟨x.hn,x.hd⟩
def zR (r:Rt):Bool:=r.n==0&&r.d==0
def Yx (a b:Rt):Bool:=a.n==b.n&&a.d==b.d
def gX (x:Iv):Bool:=
 if ((x.li&&(!zR x.lw||x.lo))||(x.hi&&(!zR x.up||x.ho)))=true then false
 else if ((!x.li&&!eU x.lw)||(!x.hi&&!eU x.up))=true then false
 else if (x.li||x.hi)=true then true
 else if Yx x.lw x.up=true then !x.lo&&!x.ho else Ov x.lw x.up
def qL (a b:Iv):Bool:=
 if (a.hi||b.li)=true then false
 else if Yx a.up b.lw=true then a.ho&&b.lo else Ov a.up b.lw
def rX (l:List Iv) (j:Nat):Bool:=
 match l[j]? with
 | none=>true
 | some x=>gX x&&(match j with|0=>true|j'+1=>match l[j']? with|none=>true|some y=>qL y x)
def AA (l:List Iv) (n:Nat):Bool:=(List.range n).all (rX l)
theorem zf (l:List Iv):AA l 0=true:=rfl
theorem qy (l:List Iv) (n:Nat):AA l (n+1)=(AA l n&&rX l n):=by
 unfold AA;rw[List.range_succ,List.all_append];simp
theorem uf {l:List Iv} {n i:Nat} (hi:i<n) (h:rX l i=false):AA l n=false:=by
 unfold AA;rw[List.all_eq_false];exact⟨i,List.mem_range.2 hi,by rw[h];decide⟩
def Jj (l:List Iv):Int:=if AA l l.length=false then 1 else if 32<l.length then 4 else 0
def qH (l:List Iv):Bool:=decide (Jj l=0)
def o7 (l:List Int) (i:Nat) (k:Nat):Bool:=
 match l[k]? with
 | none=>true
 | some r=>decide (0≤r)&&(decide (r<(i:Int))&&(match k with|0=>true|k'+1=>match l[k']? with|none=>true|some q=>decide (q<r)))
def rQ (l:List Int) (i n:Nat):Bool:=(List.range n).all (o7 l i)
theorem wK (l:List Int) (i:Nat):rQ l i 0=true:=rfl
theorem oq (l:List Int) (i n:Nat):rQ l i (n+1)=(rQ l i n&&o7 l i n):=by
 unfold rQ;rw[List.range_succ,List.all_append];simp
theorem yZ {l:List Int} {i n k:Nat} (hk:k<n) (h:o7 l i k=false):rQ l i n=false:=by
 unfold rQ;rw[List.all_eq_false];exact⟨k,List.mem_range.2 hk,by rw[h];decide⟩
def jT (l:List Int) (i:Nat):Bool:=rQ l i l.length
theorem y8 {l:List Int} {i:Nat} (h:jT l i=true):∀r∈l,0≤r∧r<(i:Int):=by
 intro r hr;obtain⟨k,hk,rfl⟩:=List.mem_iff_getElem.1 hr;unfold jT rQ at h;have:=List.all_eq_true.1 h k (List.mem_range.2 hk);unfold o7 at this;rw[List.getElem?_eq_getElem hk] at this;simp only[Bool.and_eq_true,decide_eq_true_eq] at this;exact⟨this.1,this.2.1⟩
def jY (f:Fm):Int:=f.valid qH
def qN:Nat→List Cl→Int
 | _,[]=>0
 | i,c::l=>if 8<c.refs.length then 4 else if jT c.refs i=false then 1 else if jY c.body≠0 then jY c.body else qN (i+1) l
def pR (l:List Cl):Int:=if 32<l.length then 4 else qN 0 l
theorem Pz:∀(l:List Cl) (i:Nat),qN i l=0→∀(k:Nat) (hk:k<l.length),l[k].refs.length≤8∧jT l[k].refs (i+k)=true∧jY l[k].body=0
 | c::l,i,h,k,hk=>by
  unfold qN at h;split at h
  ·cases h
  ·rename_i h1
   split at h
   ·cases h
   ·rename_i h2
    split at h
    ·rename_i h3;exact absurd h h3
    ·rename_i h3
     cases k with
     | zero=>exact⟨by simpa using h1,by simpa using h2,by simpa using h3⟩
     | succ k=>
      have:=Pz l (i+1) h k (by simpa using hk);simp only[List.getElem_cons_succ];rw[show i+(k+1)=i+1+k by omega];exact this
theorem sO {l:List Cl} (h:pR l=0):l.length≤32∧∀(k:Nat) (hk:k<l.length),l[k].refs.length≤8∧jT l[k].refs k=true∧jY l[k].body=0:=by
 unfold pR at h;split at h
 ·cases h
 ·rename_i h1
  refine⟨by omega,fun k hk=>?_⟩;have:=Pz l 0 h k hk
  rwa [Nat.zero_add] at this
mutual
def Fm.dL:Fm→List Fm
 | .mk o n i k=>if o=5 then Fm.aW k else [.mk o n i k]
def Fm.aW:List Fm→List Fm
 | []=>[]
 | f::l=>Fm.dL f++Fm.aW l
end
def Fm.parts (f:Fm):List Fm:=if f.op=4 then f.kids else [f]
theorem Fm.Ef:∀(l:List Fm) (f:Fm),Fm.aW (l++[f])=Fm.aW l++Fm.dL f
 | [],f=>by simp[Fm.aW]
 | g::l,f=>by rw[List.cons_append,Fm.aW,Fm.aW,Fm.Ef l f,List.append_assoc]
theorem Fm.Eh (l:List Fm) (i:Nat) (hi:i<l.length):Fm.aW (l.take (i+1))=Fm.aW (l.take i)++Fm.dL l[i]:=by
 rw[List.take_succ_eq_append_getElem hi,Fm.Ef]
def eP (a b:Fm):Fm:=.mk 4 0 [] (a.parts++b.parts)
def dY:List Fm→List Fm→Option (List Fm)
 | [],_=>some []
 | a::x,t=>if (t.all fun b=>decide (jY (eP a b)=0))=true then (dY x t).map (t.map (eP a)++·) else none
def dW (of:Nat→Option (List Fm)) (own:List Fm):List Int→List Fm→Option (List Fm)
 | [],out=>some out
 | r::rs,out=>
  match of r.toNat with
  | none=>none
  | some x=>if 64<out.length+x.length*own.length then none else
   match dY x own with
   | none=>none
   | some y=>dW of own rs (out++y)
def rU (of:Nat→Option (List Fm)) (c:Cl):Option (List Fm):=
 if c.refs=[] then (if c.body.dL.length≤64 then some c.body.dL else none) else dW of c.body.dL c.refs []
def fK (l:List Cl) (k:Nat):Option (List Fm):=
 match l[k]? with
 | none=>none
 | some c=>rU (fun r=>if r<k then fK l r else none) c
termination_by k
theorem kL:∀{x t y:List Fm},dY x t=some y→y.length=x.length*t.length
 | [],t,y,h=>by cases h;simp
 | a::x,t,y,h=>by
  unfold dY at h;split at h
  ·cases hc:dY x t with
   | none=>rw[hc] at h;cases h
   | some z=>
    rw[hc] at h;cases h;rw[dD,List.length_map,kL hc,List.length_cons,Nat.add_mul];omega
  ·cases h
theorem zG {of:Nat→Option (List Fm)} {own:List Fm}:∀{rs:List Int} {out y:List Fm},out.length≤64→dW of own rs out=some y→y.length≤64
 | [],out,y,h0,h=>by cases h;exact h0
 | r::rs,out,y,h0,h=>by
  unfold dW at h;split at h
  ·cases h
  ·split at h
   ·cases h
   ·rename_i h1
    split at h
    ·cases h
    ·rename_i z hz
     have hl:=kL hz;exact zG (by rw[dD,hl];omega) h
theorem xk {l:List Cl} {k:Nat} {y:List Fm} (h:fK l k=some y):y.length≤64:=by
 unfold fK at h;split at h
 ·cases h
 ·unfold rU at h
  split at h
  ·split at h
   ·cases h;assumption
   ·cases h
  ·exact zG (by simp) h
def kP:List Fm→Int
 | []=>0
 | f::l=>if jY f≠0 then jY f else kP l
def jI (l:List Cl):Nat→Option Nat
 | 0=>some 0
 | n+1=>match jI l n with
  | none=>none
  | some s=>match fK l n with
   | none=>none
   | some y=>some (s+y.length)
def Es (td:List Fm) (tc:List Cl):Int:=
 if 16<td.length then 4 else if kP td≠0 then kP td else if pR tc≠0 then pR tc else
  match jI tc tc.length with
  | none=>4
  | some s=>if 128<(Fm.aW td).length+s then 4 else 0
def aN (n lo hi:Int):Bool:=decide (lo≤n)&&decide (n≤hi)
def bI (k:Int):Bool:=decide (k≠5)&&(decide (k≠19)&&(decide (k≠20)&&decide (k≠21)))
def ku (x:Pa):Pa:=
 { x with
  f:=if bI x.k=true then 0 else x.f
  o:=if x.k=0∨x.k=20∨x.k=21 then 0 else x.o
  p:=if x.k=0∨x.k=4∨x.k=5∨x.k=12∨x.k=14∨x.k=16∨x.k=17 then 0 else x.p
  q:=if x.k=0∨x.k=4∨x.k=13∨x.k=16∨x.k=17 then 0 else x.q
  u:=if x.k=4∨x.k=5∨x.k=6∨x.k=7∨x.k=8∨x.k=9∨x.k=13∨x.k=17∨x.k=18∨x.k=20∨x.k=21 then 0 else x.u
  m:=if x.k=4∨x.k=8∨x.k=21 then 0 else x.m
  sn:=if x.k=16 then 0 else x.sn
  sd:=if x.k=16 then 0 else x.sd
  td:=if x.k=0 then [] else x.td
  tc:=if x.k=0 then [] else x.tc
  cl:=if x.k=3∨x.k=15∨(x.k=13∧x.u=2) then [] else x.cl
  ea:=if x.k=0 then [] else x.ea
  fx:=if x.k=19 then Fm.zero else x.fx }
def iD (x:Pa):Bool:=
 decide (x.f=0)&&(decide (x.o=0)&&(decide (x.p=0)&&(decide (x.q=0)&&(decide (x.u=0)&&(decide (x.m=0)&&(decide (x.sn=0)&&(decide (x.sd=0) &&
 (decide (x.fx.op=0)&&(decide (x.fx.num=0)&&(decide (x.fx.ins.length=0)&&(decide (x.fx.kids.length=0) &&
 (decide (x.td.length=0)&&(decide (x.tc.length=0)&&(decide (x.cl.length=0)&&decide (x.ea.length=0)))))))))))))))
def Hl (f:Int) (l:List Ea) (j:Nat):Bool:=
 match l[j]? with
 | none=>true
 | some e=>aN e.file 0 4095&&(decide (e.file≠f)&&(aN e.day 0 131072&&!((l.take j).any fun g=>decide (g.file=e.file))))
def lM (f:Int) (l:List Ea) (n:Nat):Bool:=(List.range n).all (Hl f l)
theorem FI (f:Int) (l:List Ea) (n:Nat):lM f l (n+1)=(lM f l n&&Hl f l n):=by
 unfold lM;rw[List.range_succ,List.all_append];simp
theorem JK {f:Int} {l:List Ea} {n i:Nat} (hi:i<n) (h:Hl f l i=false):lM f l n=false:=by
 unfold lM;rw[List.all_eq_false];exact⟨i,List.mem_range.2 hi,by rw[h];decide⟩
def oQ (x:Pa):Bool:=
 if aN x.o 0 11=false∨aN x.p 1 4095=false∨aN x.q (-1) 4095=false∨x.q=x.f∨8<x.ea.length∨Es x.td x.tc≠0 then false else lM x.f x.ea x.ea.length
def gV (l:List Cl):Bool:=decide (0<l.length)&&decide (pR l=0)
def nZ (x:Pa):Bool:=aN x.p 1 4095&&(aN x.q 1 4095&&decide (x.p≠x.q))
def jf (x:Pa):Bool:=aN x.u x.d 131072
def mD (n d:Int):Bool:=okR ⟨n,d⟩&&(decide (0<n)&&decide (n≤d))
def aP (x:Pa):Bool:=
 if x.k=0 then oQ x
 else if x.k=3∨x.k=15 then gV x.cl
 else if x.k=4 then aN x.p 1 4095&&((aN x.u 0 5||aN x.u 7 66)&&(aN x.q 0 7&&aN x.m 1 1099511627776))
 else if x.k=5 then aN x.p 1 4095&&aN x.u 0 1
 else if x.k=6∨x.k=7 then aN x.u 0 255
 else if x.k=8 then aN x.u 0 255&&aN x.m 1 12
 else if x.k=9 then jf x
 else if x.k=12∨x.k=14 then aN x.p 1 4095
 else if x.k=13 then aN x.u 0 2&&(aN x.q 0 1&&(decide (x.u≠2)||gV x.cl))
 else if x.k=16 then nZ x&&mD x.sn x.sd
 else if x.k=17 then nZ x&&jf x
 else if x.k=18 then aN x.u 0 7
 else if x.k=19 then decide (jY x.fx=0)
 else if x.k=20 then aN x.o 0 11&&jf x
 else if x.k=21 then aN x.o 0 11&&(aN x.u 0 18&&aN x.m 0 1099511627776)
 else true
def bW (x:Pa):Bool:=
 aN x.k 0 21&&(aN x.d 0 131072&&(aN x.n 0 1099511627776&&(aN x.f 0 4095&&(iD (ku x)&&aP x))))
end PA
namespace PA
open Go
theorem Ip (n d:Int):okR ⟨n,d⟩=true↔1≤d∧d≤1048576∧n≤1099511627776∧-1099511627776≤n∧Nat.gcd n.natAbs d.natAbs=1:=by
 constructor
 ·intro h
  have hr:=(nX h).1;exact⟨hr.d1,hr.d2,hr.n2,hr.n1,UF n d (by have:=hr.d1;simp only at this;omega) h⟩
 ·rintro⟨h1,h2,h3,h4,h5⟩
  exact tK n d h1 h2 (by omega) h5
end PA
namespace Go.Proofs.YthfmaclnccdcbaaGreatDoor
open Go.RowKit PA
set_option maxHeartbeats 1000000 in
theorem II {W w:World} {A:aA} (a b:Int) (ha:a.natAbs≤4611686018427387904) (hb:b.natAbs≤4611686018427387904) (h:Sat W w A):
 Calls Tryz.prog 166 #[.int .i64 a,.int .i64 b] w fun e w'=>e=.returned (.int .i64 (Nat.gcd a.natAbs b.natAbs:Nat))∧Sat W w' A:=by
 obtain⟨g,hg⟩:=ay (Nat.gcd a.natAbs b.natAbs);rw[←hg];have HG:=ah hg;clear hg
 go_enter Tryz.func166,Tryz.ntmps166
 go_wp2
 go_loopw [0,1] (fun av bv wr=>∃x y:Int,av=.int .i64 x∧bv=.int .i64 y∧x.natAbs≤4611686018427387904∧y.natAbs≤4611686018427387904∧Hid (Nat.gcd x.natAbs y.natAbs=g)∧Sat W wr A) (fun _ bv _=>(intOf bv).natAbs)
 case atStart=>exact⟨a,b,rfl,rfl,ha,hb,ah HG.out.symm,h⟩
 case round=>
  obtain⟨x,y,rfl,rfl,hx,hy,HXY,hS⟩:=hrel
  by_cases h0:y=0
  ·subst h0
   have hxg:x.natAbs=g:=by rw[←HXY.out];simp
   have HGG:=ah hxg
   by_cases hneg:x<0
   ·have ew:-x=(g:Int):=by omega
    clear hxg HG ha hb h
    go_wp2
    go_ret
    exact⟨by simp,hS⟩
   ·have ew:x=(g:Int):=by omega
    clear hxg HG ha hb h
    go_wp2
    go_ret
    exact⟨rfl,hS⟩
  ·obtain⟨z,hz⟩:∃z,z=Int.tmod x y:=⟨_,rfl⟩
   have hm:Int.tmod x y=z:=hz.symm;have hzn:z.natAbs=x.natAbs % y.natAbs:=by rw[hz,Int.natAbs_tmod]
   have hzl:z.natAbs<y.natAbs:=by rw[hzn];exact Nat.mod_lt _ (by omega)
   have hyx:(y==0)=false:=by simpa using h0
   have HZ:=ah hzn;clear hz hzn ha hb h
   go_wp2
   refine aJ rfl (fun _=>True) [(0,.p),(1,.p),(2,.p),(3,.p),(4,.p),(5,.p)] (by kernel_rfl) ?_;have hS0:True:=trivial;refine dh ?_;refine fC ?_
   go_wp2
   go_roundw
   case rel=>exact⟨y,z,rfl,rfl,hy,by omega,ah (by rw[HZ.out,←HXY.out,Nat.gcd_comm y.natAbs,←Nat.gcd_rec,Nat.gcd_comm]),hS.drew⟩
   case measure=>simp[intOf];omega
theorem IL (w:World) (a b c d:Int):(binOp .eql 26 (.agg #[.int .i64 a,.int .i64 b]) (.agg #[.int .i64 c,.int .i64 d])).run Tryz.prog w=.ok (.bool (a==c&&b==d)) w:=by
 have h1:Tryz.prog.underlying 26=some (.struct (Tryz.prog.fieldsOf 26)):=by kernel_rfl
 have h2:Tryz.prog.stoodInHeld 26=false:=by kernel_rfl
 have e:=run_equalIn_struct (P:=Tryz.prog) w 9999 26 #[.int .i64 a,.int .i64 b] #[.int .i64 c,.int .i64 d] h1 h2;rw[run_eql_struct,e];clear e;have q0:∀a b:Int,(part 3 #[.int .i64 a,.int .i64 b] 0).run Tryz.prog w=.ok (.int .i64 a) w:=fun a b=>by kernel_rfl
 have q1:∀a b:Int,(part 3 #[.int .i64 a,.int .i64 b] 1).run Tryz.prog w=.ok (.int .i64 b) w:=fun a b=>by kernel_rfl
 have r0:∀a b:Int,(Op.equalIn 9999 3 (.int .i64 a) (.int .i64 b)).run Tryz.prog w=.ok (a==b) w:=fun a b=>run_equalIn_int (P:=Tryz.prog) w 9998 3 .i64 .i64 a b Tryz.underlying3
 by_cases e1:a=c
 ·by_cases e2:b=d
  ·simp[Program.fieldsOf,Tryz.underlying26,Op.eqFields,q0,q1,r0,e1,e2]
  ·simp[Program.fieldsOf,Tryz.underlying26,Op.eqFields,q0,q1,r0,e1,e2]
 ·simp[Program.fieldsOf,Tryz.underlying26,Op.eqFields,q0,r0,e1]
def Qa (b:Bool):Int:=if b=true then 0 else 1
set_option maxHeartbeats 1000000 in
theorem mg {W w:World} {A:aA} (n d:Int) (h:Sat W w A):
 Calls Tryz.prog 122 #[.agg #[.int .i64 n,.int .i64 d]] w fun e w'=>e=.returned (.int .i64 (Qa (okR ⟨n,d⟩)))∧Sat W w' A:=by
 have hiff:=Ip n d;have h1:=h.alloc (.cells #[.int .i64 n,.int .i64 d] 26);obtain⟨B,hB⟩:=ay (w.heap.size);obtain⟨w1,hw1⟩:=ay (w.alloc (.cells #[.int .i64 n,.int .i64 d] 26));rw[←hB,←hw1] at h1;obtain⟨k0,k1,-,-⟩:=kG h1;have HB:=ah (And.intro hB hw1);have H1:=ah h1;clear h h1 hB hw1
 by_cases c1:d<1
 ·have hr:okR ⟨n,d⟩=false:=by rw[Bool.eq_false_iff];intro e;have:=hiff.1 e;omega
  rw[hr];clear hiff hr
  go_enter Tryz.func122,Tryz.ntmps122
  go_upto_region 1 with (fail)
  rw[←HB.out.1,←HB.out.2]
  go_wp2
  go_ret
  exact⟨rfl,H1.out.drop⟩
 by_cases c2:1048576<d
 ·have hr:okR ⟨n,d⟩=false:=by rw[Bool.eq_false_iff];intro e;have:=hiff.1 e;omega
  rw[hr];clear hiff hr
  go_enter Tryz.func122,Tryz.ntmps122
  go_upto_region 1 with (fail)
  rw[←HB.out.1,←HB.out.2]
  go_wp2
  go_ret
  exact⟨rfl,H1.out.drop⟩
 by_cases c3:1099511627776<n
 ·have hr:okR ⟨n,d⟩=false:=by rw[Bool.eq_false_iff];intro e;have:=hiff.1 e;omega
  rw[hr];clear hiff hr
  go_enter Tryz.func122,Tryz.ntmps122
  go_upto_region 1 with (fail)
  rw[←HB.out.1,←HB.out.2]
  go_wp2
  go_ret
  exact⟨rfl,H1.out.drop⟩
 by_cases c4:n < -1099511627776
 ·have hr:okR ⟨n,d⟩=false:=by rw[Bool.eq_false_iff];intro e;have:=hiff.1 e;omega
  rw[hr];clear hiff hr
  go_enter Tryz.func122,Tryz.ntmps122
  go_upto_region 1 with (fail)
  rw[←HB.out.1,←HB.out.2]
  go_wp2
  go_ret
  exact⟨rfl,H1.out.drop⟩
 ·obtain⟨g,hg⟩:∃g:Nat,g=Nat.gcd n.natAbs d.natAbs:=⟨_,rfl⟩
  have HC:=ah (II n d (by omega) (by omega) H1.out);rw[←hg] at HC;have hr:okR ⟨n,d⟩=decide (g=1):=by
   rw[Bool.eq_iff_iff,hiff,←hg,decide_eq_true_eq];constructor
   ·exact fun e=>e.2.2.2.2
   ·exact fun e=>⟨by omega,by omega,by omega,by omega,e⟩
  rw[hr];clear hiff hr hg
  by_cases hg1:g=1
  ·subst hg1
   go_enter Tryz.func122,Tryz.ntmps122
   go_upto_region 1 with (fail)
   rw[←HB.out.1,←HB.out.2]
   go_wp2_with fail
   refine HC.out.mono ?_;rintro e w2 ⟨rfl,h2⟩;have H2:=ah h2;clear h2 HC k0 k1
   go_wp2
   go_ret
   exact⟨rfl,H2.out.drop⟩
  ·have hgz:((g:Int)==1)=false:=by simp;omega
   have hd:decide (g=1)=false:=decide_eq_false hg1;rw[hd];clear hg1 hd
   go_enter Tryz.func122,Tryz.ntmps122
   go_upto_region 1 with (fail)
   rw[←HB.out.1,←HB.out.2]
   go_wp2_with fail
   refine HC.out.mono ?_;rintro e w2 ⟨rfl,h2⟩;have H2:=ah h2;clear h2 HC k0 k1
   go_wp2
   go_ret
   exact⟨rfl,H2.out.drop⟩
end Go.Proofs.YthfmaclnccdcbaaGreatDoor
