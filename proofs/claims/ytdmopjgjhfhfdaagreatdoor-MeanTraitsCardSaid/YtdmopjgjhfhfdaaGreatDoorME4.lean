/-
  DERIVED. Contracts, and the law, for every input. No conditions.
-/
import Derived.Test.YtdmopjgjhfhfdaaGreatDoorME8
open Go Go.AM Go.Proofs TK
set_option maxRecDepth 100000
namespace MN
def trL:Bs:=[109,111,100,117,108,101,32,109,32,49,59,32,100,97,116,97,32,76,91,97,93,32,61,32,78,32,124,32,67,40,97,44,32,76,40,97,41,41,59,32,116,114,97,105,116,32,83,32,123,32,102,117,110,32,115,40,120,58,32,115,101,108,102,44,32,107,58,32,105,110,116,41,58,32,105,110,116,59,32,125,32,105,109,112,108,32,83,32,102,111,114,32,105,110,116,32,123,32,102,117,110,32,115,40,120,58,32,105,110,116,44,32,107,58,32,105,110,116,41,58,32,105,110,116,32,61,32,40,120,32,43,32,107,41,59,32,125,32,105,109,112,108,32,83,32,102,111,114,32,116,101,120,116,32,123,32,102,117,110,32,115,40,120,58,32,116,101,120,116,44,32,107,58,32,105,110,116,41,58,32,105,110,116,32,61,32,40,49,48,48,32,42,32,107,41,59,32,125,32,105,109,112,108,32,83,32,102,111,114,32,76,32,123,32,102,117,110,32,115,91,97,93,40,120,58,32,76,40,97,41,44,32,107,58,32,105,110,116,41,58,32,105,110,116,32,61,32,109,97,116,99,104,32,120,32,123,32,78,32,61,62,32,107,59,32,67,40,104,44,32,114,41,32,61,62,32,115,40,114,44,32,40,107,32,43,32,49,41,41,32,125,59,32,125,32,97,99,116,111,114,32,65,40,110,58,32,105,110,116,44,32,98,58,32,98,111,111,108,41,58,32,105,110,116,32,61,32,108,101,116,32,108,32,61,32,67,40,49,44,32,67,40,50,44,32,78,41,41,32,105,110,32,108,101,116,32,117,32,61,32,115,97,121,40,115,40,110,44,32,50,41,41,32,105,110,32,108,101,116,32,118,32,61,32,115,97,121,40,115,40,34,120,34,44,32,51,41,41,32,105,110,32,108,101,116,32,119,32,61,32,115,97,121,40,115,40,108,44,32,110,41,41,32,105,110,32,105,102,32,98,32,116,104,101,110,32,115,97,121,40,115,40,34,34,44,32,110,41,41,32,101,108,115,101,32,115,97,121,40,115,40,55,44,32,110,41,41,59]
abbrev wr (n:Int):Int:=IntKind.i64.wrap n
theorem traits_ok0 (n:Int):outsOf (playAll (PA.parseF trL).1 [oV 2 n,oV 3 0] [])=some [(2,wr (n+2)),(2,300),(2,wr (wr (n+1)+1)),(2,wr (7+n)),(8,0)]:=by kernel_rfl
theorem traits_ok1 (n:Int):outsOf (playAll (PA.parseF trL).1 [oV 2 n,oV 3 1] [])=some [(2,wr (n+2)),(2,300),(2,wr (wr (n+1)+1)),(2,wr (100*n)),(8,0)]:=by kernel_rfl
theorem wr_eq (m:Int):wr m=if m % 18446744073709551616≥9223372036854775808 then m % 18446744073709551616-18446744073709551616 else m % 18446744073709551616:=by
 have h1:((2:Int) ^ IntKind.i64.bits)=18446744073709551616:=by decide +kernel
 have h2:((2:Int) ^ (IntKind.i64.bits-1))=9223372036854775808:=by decide +kernel
 have h3:IntKind.i64.signed=true:=by decide
 unfold wr IntKind.wrap;simp only[h1,h2,h3,Bool.true_and,decide_eq_true_eq]
theorem wr_wr (n:Int):wr (wr (n+1)+1)=wr (n+2):=by
 rw[wr_eq (wr (n+1)+1),wr_eq (n+1),wr_eq (n+2)];split<;>split<;>split<;>omega
noncomputable def tyTr:Nat→Option TI:=hint (tyOf Tryz.prog) 44 [34]
theorem tyTr_ok:TyOK Tryz.prog tyTr:=(tyOf_ok Tryz.prog).hint _ _
theorem traits_f (ev:Value) (p:TR.LPg) (n:Int) (hm:AMem Tryz.prog 11 [] (PA.hE ev) (.p (.b true)) (PA.hE ev)) (h:AMem Tryz.prog 12 [.p (.s (B trL))] (PA.hE ev) (.p (TR.elPg p)) (PA.hE ev)) (hp:outsOf (playAll p [oV 2 n,oV 3 0] [])=some [(2,wr (n+2)),(2,300),(2,wr (wr (n+1)+1)),(2,wr (7+n)),(8,0)]):
 ∃K S zr,AMem Tryz.prog 6 [.p (.i .i64 n),.p (.b false)] (PA.hE ev++stL K0 S0 (0,[])) (.p (.b true)) (PA.hE ev++stL K S zr):=by
 obtain⟨K,S,r,R,h1,h2,h3,h4⟩:=outs_inv hp;obtain⟨outs,S9,r9⟩:=R;have hn:=new_spec K0 p K h1;have hpl:=played_spec K S0 (0,[]) 0 wA [oV 2 n,oV 3 0] [] S r (outs,S9,r9) h2 h3;refine⟨K,S9,(0+1,[(0,r9)]),?_⟩;clear h1 h2 h3 hp;dsimp only at h4 hpl;rw[wr_wr]at h4;have hlen:=out_len h4;obtain⟨e,he,he1,he2⟩:=out_at (j:=4) h4 rfl;obtain⟨ek,en,e3,e4,e5,e6,e7,e8⟩:=e;dsimp only at he1 he2;subst he1;have hea:=eOl_at he;obtain⟨pn,pv,pu,pd,pt,pi',pf,pa⟩:=p
 have hall:∀(j:Nat) (w:Int),([wr (n+2),300,wr (n+2),wr (7+n)]:List Int)[j]?=some w→∃(v3 v6:ByteArray) (v4 v5:Int) (v7 v8:List Ov),(eOl outs)[j]?=some (.agg [.i .i64 2,.i .i64 w,.s v3,.i .i64 v4,.i .i64 v5,.s v6,.sl 4 (eOs v7),.sl 4 (eOs v8)]):=by
  intro j w hw
  have hq:([(2,wr (n+2)),(2,300),(2,wr (n+2)),(2,wr (7+n)),(8,0)]:List (Int×Int))[j]?=some (2,w):=by
   rcases j with _|_|_|_|j
   ·cases hw;rfl
   ·cases hw;rfl
   ·cases hw;rfl
   ·cases hw;rfl
   ·cases hw
  obtain⟨o,ho,k1,k2⟩:=out_at h4 hq;obtain⟨ok,on,o3,o4,o5,o6,o7,o8⟩:=o;dsimp only at k1 k2;subst k1;subst k2;exact⟨o3,o6,o4,o5,o7,o8,eOl_at ho⟩
 unfold PA.hE at *;unfold stL TR.elPg hK hA at *;refine AMem.intro (tyOf_ok Tryz.prog) hmix Tryz.func6 rfl (by rfl) (by kernel_rfl) (by show 2≤_;decide) rfl ?_;(conv=>whnf);refine amc [1000000000] 500 hm ?_;(conv=>whnf);refine amc [1000000000] 500 h ?_;(conv=>whnf);refine amc [1000000003,1000000004,1000000005,1000000010,1000000011,1000000012,1000000013,1000000014,1000000015] 500 hn ?_;(conv=>whnf);refine amc iD 500 hpl ?_;(conv=>whnf);refine asf (show(!(((eOl outs).length:Int)==5))=false by rw[hlen];rfl) ?_;(conv=>whnf);refine aidxn (i:=4) (x:=.agg [.i .i64 8,.i .i64 en,.s e3,.i .i64 e4,.i .i64 e5,.s e6,.sl 4 (eOs e7),.sl 4 (eOs e8)]) hea ?_;(conv=>whnf);refine loopS (tyOf_ok _) hmix (by kernel_rfl) 4 [7,54,55,56] iC (fun j (_:Unit)=>[.p (.sl 8 (eOl outs)),.p (.sl 1 [.i .i64 (wr (n+2)),.i .i64 300,.i .i64 (wr (n+2)),.i .i64 (wr (7+n))]),.p (.i .i64 4),.p (.i .i64 (ix j))]) (fun _ _=>.glob 2 [ev]::hObj K S9 (0+1,[(0,r9)])) (fun _ _=>True) () ⟨rfl,rfl,rfl,rfl⟩ trivial ?_;rintro j _ hj -;(conv=>whnf);refine asplit ?_ ?_<;>intro h1<;>conv=>whnf
 ·have hj1:j<4:=ix_tt h1 rfl hj (by omega)
  obtain⟨w,hw⟩:∃w,([wr (n+2),300,wr (n+2),wr (7+n)]:List Int)[j]?=some w:=⟨_,List.getElem?_eq_getElem hj1⟩
  obtain⟨v3,v6,v4,v5,v7,v8,hv⟩:=hall j w hw;refine aidxk (x:=.i .i64 w) (by rw[show([.i .i64 (wr (n+2)),.i .i64 300,.i .i64 (wr (n+2)),.i .i64 (wr (7+n))]:List PV)=([wr (n+2),300,wr (n+2),wr (7+n)]:List Int).map (PV.i .i64) from rfl,List.getElem?_map,hw];rfl) (by omega) ?_;(conv=>whnf);refine aidxk hv (by omega) ?_;(conv=>whnf);refine aidxk hv (by omega) ?_;(conv=>whnf);refine asf (show(!(w==w))=false by simp) ?_;(conv=>whnf);exact⟨hj1,(),⟨rfl,rfl,rfl,rfl⟩,trivial⟩
 ·exact⟨.inl rfl,⟨⟨rfl,rfl⟩,s6,s6,s6,s6,s6,s6,s6,s6,s6,s6,s6,s6,s6,s6,s6,trivial⟩⟩
theorem traits_t (ev:Value) (p:TR.LPg) (n:Int) (hm:AMem Tryz.prog 11 [] (PA.hE ev) (.p (.b true)) (PA.hE ev)) (h:AMem Tryz.prog 12 [.p (.s (B trL))] (PA.hE ev) (.p (TR.elPg p)) (PA.hE ev)) (hp:outsOf (playAll p [oV 2 n,oV 3 1] [])=some [(2,wr (n+2)),(2,300),(2,wr (wr (n+1)+1)),(2,wr (100*n)),(8,0)]):
 ∃K S zr,AMem Tryz.prog 6 [.p (.i .i64 n),.p (.b true)] (PA.hE ev++stL K0 S0 (0,[])) (.p (.b true)) (PA.hE ev++stL K S zr):=by
 obtain⟨K,S,r,R,h1,h2,h3,h4⟩:=outs_inv hp;obtain⟨outs,S9,r9⟩:=R;have hn:=new_spec K0 p K h1;have hpl:=played_spec K S0 (0,[]) 0 wA [oV 2 n,oV 3 1] [] S r (outs,S9,r9) h2 h3;refine⟨K,S9,(0+1,[(0,r9)]),?_⟩;clear h1 h2 h3 hp;dsimp only at h4 hpl;rw[wr_wr]at h4;have hlen:=out_len h4;obtain⟨e,he,he1,he2⟩:=out_at (j:=4) h4 rfl;obtain⟨ek,en,e3,e4,e5,e6,e7,e8⟩:=e;dsimp only at he1 he2;subst he1;have hea:=eOl_at he;obtain⟨pn,pv,pu,pd,pt,pi',pf,pa⟩:=p
 have hall:∀(j:Nat) (w:Int),([wr (n+2),300,wr (n+2),wr (100*n)]:List Int)[j]?=some w→∃(v3 v6:ByteArray) (v4 v5:Int) (v7 v8:List Ov),(eOl outs)[j]?=some (.agg [.i .i64 2,.i .i64 w,.s v3,.i .i64 v4,.i .i64 v5,.s v6,.sl 4 (eOs v7),.sl 4 (eOs v8)]):=by
  intro j w hw
  have hq:([(2,wr (n+2)),(2,300),(2,wr (n+2)),(2,wr (100*n)),(8,0)]:List (Int×Int))[j]?=some (2,w):=by
   rcases j with _|_|_|_|j
   ·cases hw;rfl
   ·cases hw;rfl
   ·cases hw;rfl
   ·cases hw;rfl
   ·cases hw
  obtain⟨o,ho,k1,k2⟩:=out_at h4 hq;obtain⟨ok,on,o3,o4,o5,o6,o7,o8⟩:=o;dsimp only at k1 k2;subst k1;subst k2;exact⟨o3,o6,o4,o5,o7,o8,eOl_at ho⟩
 unfold PA.hE at *;unfold stL TR.elPg hK hA at *;refine AMem.intro tyTr_ok hmix Tryz.func6 rfl (by rfl) (by kernel_rfl) (by show 2≤_;decide) rfl ?_;(conv=>whnf);refine amc [1000000000] 500 hm ?_;(conv=>whnf);refine amc [1000000000] 500 h ?_;(conv=>whnf);refine amc [1000000003,1000000004,1000000005,1000000010,1000000011,1000000012,1000000013,1000000014,1000000015] 500 hn ?_;(conv=>whnf);refine amc iD 500 hpl ?_;(conv=>whnf);refine aneed ⟨by decide,by decide⟩ ?_;(conv=>whnf);refine aneed (by decide:3<4) ?_;(conv=>whnf);refine asf (show(!(((eOl outs).length:Int)==5))=false by rw[hlen];rfl) ?_;(conv=>whnf);refine aidxn (i:=4) (x:=.agg [.i .i64 8,.i .i64 en,.s e3,.i .i64 e4,.i .i64 e5,.s e6,.sl 4 (eOs e7),.sl 4 (eOs e8)]) hea ?_;(conv=>whnf);refine loopS (tyOf_ok _) hmix (by kernel_rfl) 4 [7,54,55,56] (34::iC) (fun j (_:Unit)=>[.p (.sl 8 (eOl outs)),.al true 34 1 4,.p (.i .i64 4),.p (.i .i64 (ix j))]) (fun _ _=>.gr true 1 [.i .i64 (wr (n+2)),.i .i64 300,.i .i64 (wr (n+2)),.i .i64 (wr (100*n))]::.glob 2 [ev]::hObj K S9 (0+1,[(0,r9)])) (fun _ _=>True) () ⟨rfl,rfl,rfl,rfl⟩ trivial ?_;rintro j _ hj -;(conv=>whnf);refine asplit ?_ ?_<;>intro h1<;>conv=>whnf
 ·have hj1:j<4:=ix_tt h1 rfl hj (by omega)
  obtain⟨w,hw⟩:∃w,([wr (n+2),300,wr (n+2),wr (100*n)]:List Int)[j]?=some w:=⟨_,List.getElem?_eq_getElem hj1⟩
  obtain⟨v3,v6,v4,v5,v7,v8,hv⟩:=hall j w hw;have hji:(ix j).toNat=j:=by rw[ix_eq (by omega)];simp
  refine aneed ⟨by rw[ix_eq (by omega)];omega,by rw[hji];exact hj1⟩ ?_;rw[hji];(conv=>whnf);refine aidxn (i:=j) (x:=.i .i64 w) (by rw[show([.i .i64 (wr (n+2)),.i .i64 300,.i .i64 (wr (n+2)),.i .i64 (wr (100*n))]:List PV)=([wr (n+2),300,wr (n+2),wr (100*n)]:List Int).map (PV.i .i64) from rfl,List.getElem?_map,hw];rfl) ?_;(conv=>whnf);refine aidxk hv (by omega) ?_;(conv=>whnf);refine aidxk hv (by omega) ?_;(conv=>whnf);refine asf (show(!(w==w))=false by simp) ?_;(conv=>whnf);exact⟨hj1,(),⟨rfl,rfl,rfl,rfl⟩,trivial⟩
 ·exact⟨.inl rfl,⟨⟨rfl,rfl⟩,s6,s6,s6,s6,s6,s6,s6,s6,s6,s6,s6,s6,s6,s6,s6,trivial⟩⟩
theorem traits_spec (ev:Value) (hev:ev=.nilIface∨∃te pe,ev=.iface te pe) (n:Int) (text:Bool):AMem Tryz.prog 6 [.p (.i .i64 n),.p (.b text)] (PA.hE ev) (.p (.b true)) (PA.hE ev):=by
 have hm:=means_spec ev hev;have h:=program_spec ev hev trL (by kernel_rfl)
 cases text with
 |false=>
  have hp:=traits_ok0 n;generalize (PA.parseF trL).1=p at h hp;obtain⟨K,S,zr,h2⟩:=traits_f ev p n hm h hp;exact AMem.hide h2 rfl rfl rfl rfl
 |true=>
  have hp:=traits_ok1 n;generalize (PA.parseF trL).1=p at h hp;obtain⟨K,S,zr,h2⟩:=traits_t ev p n hm h hp;exact AMem.hide h2 rfl rfl rfl rfl
end MN
