/- Part of a proof. -/
import Derived.Test.YthfmaclnccdcbaaGreatDoorGActsValid8
import Derived.Test.YthfmaclnccdcbaaGreatDoorGActsValid31
import Derived.Test.YthfmaclnccdcbaaGreatDoorGActsValid36
import Derived.Test.YthfmaclnccdcbaaGreatDoorGActsValid37
namespace Go.Proofs.YthfmaclnccdcbaaGreatDoor
open Go.RowKit PA
theorem valC {W:World} (hW:jf W):ValC W zI (fun x=>if dB x=true then 0 else 1) where
 sp:=fun _ _ x' _ hq hb=>hq.oJ x' hb
 en:=fun _ _ hq=>hq.en
 zero:=fun k d f hk hd hf=>by
  have hz:=zI.zero
  have h0:gI 0:=⟨by omega,by omega⟩
  exact⟨(jX _).2 ⟨hk,hd,h0,hf,h0,h0,h0,h0,h0,h0,h0⟩,hz.td,hz.tn,hz.tc,hz.cl,hz.en,hz.ea,hz.fx⟩
 mv:=fun w A I z x n _ hq hA h=>pV hW z x hA hq.szM h
 rv:=fun w A I z x n _ hq hA h=>F7 z x hA hq.szA h
 lv:=fun w A h=>F8 hW h
theorem actsValid_walk (a0:Option Addr) (len0 cap0:Nat) (z0:List Int) (a1 a2 a3 a4:Int) (w:World) (hW:WholeOK w)
 (w0:U5 w a0 len0 cap0 z0) (w1:(Lit.int .i64 a1).wf=true) (w2:(Lit.int .i64 a2).wf=true) (w3:(Lit.int .i64 a3).wf=true) (w4:(Lit.int .i64 a4).wf=true):
 Calls Tryz.prog 3 #[.slice a0 len0 cap0,.int .i64 a1,.int .i64 a2,.int .i64 a3,.int .i64 a4] w fun e w'=>e=.returned (.bool true)∧Below w.heap.size w w':=by
 obtain⟨l,rfl,hr0,h64⟩:=argI w0
 have abu:=Fg (.slice a0 l.length cap0) l 12 (by omega) ⟨⟨a0,cap0,rfl⟩,hr0,h64⟩ (Sat.Td w)
 refine Bg (valC hW) (.slice a0 l.length cap0) a1 a2 a3 a4 (nV w1) (nV w2) (nV w3) (nV w4) ?_
 refine abu.mono ?_
 rintro e w1 ⟨a,n,c,zl,ps,J,rfl,hn,Ul,hn0,hle,hall,Zo,h1⟩
 have hsp:=Ug hall Zo (by omega)
 refine⟨a,n,c,zl,J,rfl,hn,Ul,fun i z hz=>?_,h1⟩
 obtain⟨p,p1,p2,p3,-⟩:=hsp i z hz
 exact⟨p,p1,p2,if_pos p3⟩
end Go.Proofs.YthfmaclnccdcbaaGreatDoor
