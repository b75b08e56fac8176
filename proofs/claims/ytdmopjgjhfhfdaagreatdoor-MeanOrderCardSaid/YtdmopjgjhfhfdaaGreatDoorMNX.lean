/- Contracts, and the law, for every input. No conditions. -/
import Derived.Test.YtdmopjgjhfhfdaaGreatDoorMNU
import Derived.Test.YtdmopjgjhfhfdaaGreatDoorAMMv
open Go Go.AM Go.Proofs TK
set_option maxRecDepth 100000
namespace MN
def eFo (R:Option Fn):AV:=.tup [.p (match R with|some f=>eFn f|none=>.agg [.sl 1 [],.nilp]),.p (.b R.isSome)]
def hF5 (K:Ks) (zr:Sto Rn):Heap:=[(1000000000,hRn zr),(1000000001,hMk K.mm),(1000000002,hMc K.mc),(1000000003,hMf K.mf),(1000000004,hMt K.mt),(1000000005,hIm K.im)]
theorem find_fun (K:Ks) (zr:Sto Rn) (k:Nat) (r:Rn) (m:Mk) (name:ByteArray) (xs:List Vl) (fn:Fn) (es:TM Fn) (hr:tlk k zr.2=some r) (hm:tlk r.maker K.mm.2=some m) (he:tlk m.funcs K.mf.2=some es) (hf:tfind name es=some fn):
 AMem Tryz.prog 256 [.p (.adr rS k),.p (.s name),.p (.sl 5 (eVs xs))] (hF5 K zr) (eFo (some fn)) (hF5 K zr):=by
 obtain⟨m1,m2,m3,m4,m5,m6⟩:=m;obtain⟨fnn,fb⟩:=fn;have hlk:=fun d=>tfind_look eFn name d es;rw[hf]at hlk;unfold hF5 eFo hRn hMk hMf;refine AMem.intro (tyOf_ok Tryz.prog) hmix Tryz.func256 rfl (by rfl) (by kernel_rfl) (by show 3≤_;decide) rfl ?_;(conv=>whnf);refine lpe eRn hr rfl ?_;(conv=>whnf);refine lpe eMk hm rfl ?_;(conv=>whnf);refine aneed ⟨rfl,rfl⟩ ?_;refine⟨eTM eFn es,slk_in (enc:=eTM2 eFn) he,?_⟩;refine⟨_,_,hlk _,?_⟩;(conv=>whnf);refine⟨.inl rfl,⟨s6,s6,s6,s6,s6,s6,trivial⟩⟩
theorem eIm_get {l:List Im} {j:Nat} {x:Im} (h:l[j]?=some x):(eIms l)[j]?=some (.agg [.s x.trait,.s x.typ,.amp fM x.funcs]):=by
 unfold eIms;rw[List.getElem?_map,h];rfl
theorem find_none1 (K:Ks) (zr:Sto Rn) (k:Nat) (r:Rn) (m:Mk) (name:ByteArray) (xs:List Vl) (es:TM Fn) (ts:TM ByteArray) (hr:tlk k zr.2=some r) (hm:tlk r.maker K.mm.2=some m) (he:tlk m.funcs K.mf.2=some es) (hf:tfind name es=none) (ht:tlk m.traits K.mt.2=some ts) (hft:tfind name ts=none):
 AMem Tryz.prog 256 [.p (.adr rS k),.p (.s name),.p (.sl 5 (eVs xs))] (hF5 K zr) (eFo none) (hF5 K zr):=by
 obtain⟨m1,m2,m3,m4,m5,m6⟩:=m;have hlk:=fun d=>tfind_look eFn name d es;have hlt:=fun d=>tfind_look .s name d ts;rw[hf]at hlk;rw[hft]at hlt;unfold hF5 eFo hRn hMk hMf hMt;refine AMem.intro (tyOf_ok Tryz.prog) hmix Tryz.func256 rfl (by rfl) (by kernel_rfl) (by show 3≤_;decide) rfl ?_;(conv=>whnf);refine lpe eRn hr rfl ?_;(conv=>whnf);refine lpe eMk hm rfl ?_;(conv=>whnf);refine aneed ⟨rfl,rfl⟩ ?_;refine⟨eTM eFn es,slk_in (enc:=eTM2 eFn) he,?_⟩;refine⟨_,_,hlk _,?_⟩;(conv=>whnf);refine lpe eRn hr rfl ?_;(conv=>whnf);refine lpe eMk hm rfl ?_;(conv=>whnf);refine aneed ⟨rfl,rfl⟩ ?_;refine⟨eTM .s ts,slk_in (enc:=eTM2 .s) ht,?_⟩;refine⟨_,_,hlt _,?_⟩;(conv=>whnf);refine⟨.inl rfl,⟨s6,s6,s6,s6,s6,s6,trivial⟩⟩
theorem find_none2 (K:Ks) (zr:Sto Rn) (k:Nat) (r:Rn) (m:Mk) (name trait:ByteArray) (es:TM Fn) (ts:TM ByteArray) (hr:tlk k zr.2=some r) (hm:tlk r.maker K.mm.2=some m) (he:tlk m.funcs K.mf.2=some es) (hf:tfind name es=none) (ht:tlk m.traits K.mt.2=some ts) (hft:tfind name ts=some trait):
 AMem Tryz.prog 256 [.p (.adr rS k),.p (.s name),.p (.sl 5 (eVs []))] (hF5 K zr) (eFo none) (hF5 K zr):=by
 obtain⟨m1,m2,m3,m4,m5,m6⟩:=m;have hlk:=fun d=>tfind_look eFn name d es;have hlt:=fun d=>tfind_look .s name d ts;rw[hf]at hlk;rw[hft]at hlt;unfold hF5 eFo hRn hMk hMf hMt;refine AMem.intro (tyOf_ok Tryz.prog) hmix Tryz.func256 rfl (by rfl) (by kernel_rfl) (by show 3≤_;decide) rfl ?_;(conv=>whnf);refine lpe eRn hr rfl ?_;(conv=>whnf);refine lpe eMk hm rfl ?_;(conv=>whnf);refine aneed ⟨rfl,rfl⟩ ?_;refine⟨eTM eFn es,slk_in (enc:=eTM2 eFn) he,?_⟩;refine⟨_,_,hlk _,?_⟩;(conv=>whnf);refine lpe eRn hr rfl ?_;(conv=>whnf);refine lpe eMk hm rfl ?_;(conv=>whnf);refine aneed ⟨rfl,rfl⟩ ?_;refine⟨eTM .s ts,slk_in (enc:=eTM2 .s) ht,?_⟩;refine⟨_,_,hlt _,?_⟩;(conv=>whnf);refine⟨.inl rfl,⟨s6,s6,s6,s6,s6,s6,trivial⟩⟩
theorem find_impl (K:Ks) (zr:Sto Rn) (k:Nat) (r:Rn) (m:Mk) (name trait:ByteArray) (v:Vl) (xs:List Vl) (es:TM Fn) (ts:TM ByteArray) (R:Option Fn) (hr:tlk k zr.2=some r) (hm:tlk r.maker K.mm.2=some m) (he:tlk m.funcs K.mf.2=some es) (hf:tfind name es=none) (ht:tlk m.traits K.mt.2=some ts) (hft:tfind name ts=some trait)
 (hF:(match typF K m v with|none=>none|some none=>some none|some (some t)=>match implsF K m with|none=>none|some l=>implL K trait t name l)=some R):
 AMem Tryz.prog 256 [.p (.adr rS k),.p (.s name),.p (.sl 5 (eVs (v::xs)))] (hF5 K zr) (eFo R) (hF5 K zr):=by
 obtain⟨m1,m2,m3,m4,m5,m6⟩:=m;have hlk:=fun d=>tfind_look eFn name d es;have hlt:=fun d=>tfind_look .s name d ts;rw[hf]at hlk;rw[hft]at hlt;obtain⟨vk,vn,vt,va,vc⟩:=v;unfold hF5 eFo hRn hMk hMf hMt hMc hIm;unfold typF at hF;dsimp only[Vl.kind,Vl.text]at hF;have hbs:=basic_spec vk;refine AMem.introS (tyOf_ok Tryz.prog) Tryz.func256 rfl (by rfl) (by show 3≤_;decide) rfl ?_;refine AWp.cut (tyOf_ok Tryz.prog) hmix (by kernel_rfl) 6 [0,1,6,10,12] [6,1000000000,1000000001,1000000002,1000000003,1000000004,1000000005] (fun typ:ByteArray=>[.p (.adr rS k),.p (.s name),.ptr 6 0,.p (.s trait),.p (.s typ)]) (fun _=>[.cells [.nilS,.p .nilp],.store 142 true rS zr.1 31 (enM eRn zr.2),.store 84 true mS K.mm.1 6 (enM eMk K.mm.2),.store 77 true cM K.mc.1 0 (enM (eTM2 eCn) K.mc.2),.store 78 true fM K.mf.1 0 (enM (eTM2 eFn) K.mf.2),.store 79 true tM K.mt.1 0 (enM (eTM2 .s) K.mt.2),.store 108 false iS K.im.1 3 (enM eIms K.im.2)]) (fun typ=>(match implsF K ⟨m1,m2,m3,m4,m5,m6⟩ with|none=>none|some l=>implL K trait typ name l)=some R) ?_ ?_
 rotate_left
 ·intro typ hF
  refine AWp.fin (tyOf_ok Tryz.prog) hmix (by kernel_rfl) ?_;(conv=>whnf)
  cases m5 with
  |none=>
   cases hF;refine lpe eRn hr rfl ?_;(conv=>whnf);refine lpe eMk hm rfl ?_;(conv=>whnf);refine loopS (tyOf_ok _) hmix (by kernel_rfl) 0 [6,92,93,94] [6,1000000000,1000000001,1000000002,1000000003,1000000004,1000000005] (fun j (_:Unit)=>[.ptr 6 0,.p .nsl,.p (.i .i64 0),.p (.i .i64 (ix j))]) (fun _ _=>[.cells [.nilS,.p .nilp],.store 142 true rS zr.1 31 (enM eRn zr.2),.store 84 true mS K.mm.1 6 (enM eMk K.mm.2),.store 77 true cM K.mc.1 0 (enM (eTM2 eCn) K.mc.2),.store 78 true fM K.mf.1 0 (enM (eTM2 eFn) K.mf.2),.store 79 true tM K.mt.1 0 (enM (eTM2 .s) K.mt.2),.store 108 false iS K.im.1 3 (enM eIms K.im.2)]) (fun _ _=>True) () ⟨rfl,rfl,rfl,rfl⟩ trivial ?_;rintro j _ hj -;(conv=>whnf);refine asplit ?_ ?_<;>intro h1<;>conv=>whnf
   ·have:j=0:=by omega
    subst this;cases h1
   ·refine⟨.inl rfl,⟨s6,s6,s6,s6,s6,s6,trivial⟩⟩
  |some q=>
   obtain⟨q1,q2⟩:=q;unfold implsF at hF;dsimp only at hF
   cases hi:tlk q1 K.im.2 with
   |none=>rw[hi]at hF;cases hF
   |some il=>
    rw[hi]at hF;dsimp only at hF
    cases hg:Nat.ble q2 il.length&&Nat.ble q2 1000000 with
    |false=>rw[hg]at hF;cases hF
    |true=>
     rw[hg]at hF;dsimp only at hF;rw[Bool.and_eq_true]at hg;have hg1:=Nat.le_of_ble_eq_true hg.1;have hg2:=Nat.le_of_ble_eq_true hg.2;refine lpe eRn hr rfl ?_;(conv=>whnf);refine lpe eMk hm rfl ?_;(conv=>whnf);refine loopS (tyOf_ok _) hmix (by kernel_rfl) q2 [1,6,10,12,92,93,94] [6,1000000000,1000000001,1000000002,1000000003,1000000004,1000000005] (fun j (_:Unit)=>[.p (.s name),.ptr 6 0,.p (.s trait),.p (.s typ),.p (.ads iS q1 q2),.p (.i .i64 q2),.p (.i .i64 (ix j))]) (fun _ _=>[.cells [.nilS,.p .nilp],.store 142 true rS zr.1 31 (enM eRn zr.2),.store 84 true mS K.mm.1 6 (enM eMk K.mm.2),.store 77 true cM K.mc.1 0 (enM (eTM2 eCn) K.mc.2),.store 78 true fM K.mf.1 0 (enM (eTM2 eFn) K.mf.2),.store 79 true tM K.mt.1 0 (enM (eTM2 .s) K.mt.2),.store 108 false iS K.im.1 3 (enM eIms K.im.2)]) (fun j _=>implL K trait typ name ((il.take q2).drop j)=some R) () ⟨rfl,rfl,rfl,rfl⟩ hF ?_;rintro j _ hj hQ;(conv=>whnf);refine asplit ?_ ?_<;>intro h1<;>conv=>whnf
     ·have hj1:=ix_tt h1 rfl hj (by omega)
      have hjl:(il.take q2)[j]?=il[j]?:=List.getElem?_take_of_lt hj1;obtain⟨a,ha⟩:∃a,il[j]?=some a:=⟨_,List.getElem?_eq_getElem (by omega)⟩
      rw[drop_cons (hjl.trans ha),implL]at hQ;have hji:(ix j).toNat=j:=by rw[ix_eq (by omega)];simp
      refine aneed ⟨by rw[ix_eq (by omega)];omega,by rw[hji];exact hj1⟩ ?_;rw[hji];have hag:=eIm_get ha;obtain⟨at_,ay,af⟩:=a;dsimp only at hQ hag;(conv=>whnf);refine aneed ⟨rfl,by decide,.inr rfl⟩ ?_;refine⟨_,slk_in hi,?_⟩;refine aidxn (i:=j) (x:=.agg [.s at_,.s ay,.amp fM af]) (hag) ?_;(conv=>whnf);refine asplit ?_ ?_<;>intro g1<;>conv=>whnf
      ·rw[show eqB at_ trait=true from g1,Bool.true_and]at hQ
       refine asplit ?_ ?_<;>intro g2<;>conv=>whnf
       ·rw[show eqB ay typ=true from g2]at hQ
        dsimp only at hQ
        cases hfm:tlk af K.mf.2 with
        |none=>rw[hfm]at hQ;cases hQ
        |some fs=>
         rw[hfm]at hQ;cases hQ;have hlf:=fun d=>tfind_look eFn name d fs;refine aneed ⟨rfl,rfl⟩ ?_;refine⟨eTM eFn fs,slk_in (enc:=eTM2 eFn) hfm,?_⟩
         cases hff:tfind name fs with
         |none=>
          rw[hff]at hlf;refine⟨_,_,hlf _,?_⟩;(conv=>whnf);refine⟨.inl rfl,⟨s6,s6,s6,s6,s6,s6,trivial⟩⟩
         |some fn=>
          rw[hff]at hlf;obtain⟨fn1,fn2⟩:=fn;refine⟨_,_,hlf _,?_⟩;(conv=>whnf);refine⟨.inl rfl,⟨s6,s6,s6,s6,s6,s6,trivial⟩⟩
       ·rw[show eqB ay typ=false from g2]at hQ
        exact⟨hj1,(),⟨rfl,rfl,rfl,rfl⟩,hQ⟩
      ·rw[show eqB at_ trait=false from g1,Bool.false_and]at hQ
       exact⟨hj1,(),⟨rfl,rfl,rfl,rfl⟩,hQ⟩
     ·have h1:=ix_ff h1 rfl hj (by omega)
      subst h1;rw[List.drop_eq_nil_of_le (by rw[List.length_take];omega)]at hQ;cases hQ;refine⟨.inl rfl,⟨s6,s6,s6,s6,s6,s6,trivial⟩⟩
 (conv=>whnf);refine lpe eRn hr rfl ?_;(conv=>whnf);refine lpe eMk hm rfl ?_;(conv=>whnf);refine aneed ⟨rfl,rfl⟩ ?_;refine⟨eTM eFn es,slk_in (enc:=eTM2 eFn) he,?_⟩;refine⟨_,_,hlk _,?_⟩;(conv=>whnf);refine lpe eRn hr rfl ?_;(conv=>whnf);refine lpe eMk hm rfl ?_;(conv=>whnf);refine aneed ⟨rfl,rfl⟩ ?_;refine⟨eTM .s ts,slk_in (enc:=eTM2 .s) ht,?_⟩;refine⟨_,_,hlt _,?_⟩;(conv=>whnf);refine aidxn (i:=0) (x:=.agg [.i .i64 vk,.i .i64 vn,.s vt,.sl 5 (eVs va),eP cS vc]) rfl ?_;(conv=>whnf);refine apc hbs ?_;(conv=>whnf);refine aidxn (i:=0) (x:=.agg [.i .i64 vk,.i .i64 vn,.s vt,.sl 5 (eVs va),eP cS vc]) rfl ?_;(conv=>whnf);refine asplit ?_ ?_<;>intro h5<;>conv=>whnf
 ·rw[show(vk==5)=true from h5]at hF
  dsimp only at hF
  cases hmc:tlk m2 K.mc.2 with
  |none=>rw[hmc]at hF;cases hF
  |some cs=>
   rw[hmc]at hF;dsimp only at hF;have hlc:=fun d=>tfind_look eCn vt d cs;refine lpe eRn hr rfl ?_;(conv=>whnf);refine lpe eMk hm rfl ?_;(conv=>whnf);refine aidxn (i:=0) (x:=.agg [.i .i64 vk,.i .i64 vn,.s vt,.sl 5 (eVs va),eP cS vc]) rfl ?_;(conv=>whnf);refine aneed ⟨rfl,rfl⟩ ?_;refine⟨eTM eCn cs,slk_in (enc:=eTM2 eCn) hmc,?_⟩
   cases hc:tfind vt cs with
   |none=>
    rw[hc]at hF hlc;cases hF;refine⟨_,_,hlc _,?_⟩;(conv=>whnf);refine aneed (.inl (by kernel_rfl)) ?_;(conv=>whnf);refine⟨.inl rfl,⟨s6,s6,s6,s6,s6,s6,trivial⟩⟩
   |some c=>
    rw[hc]at hF hlc;obtain⟨cd,ca⟩:=c;dsimp only at hF;refine⟨_,_,hlc _,?_⟩;(conv=>whnf);refine aneed (.inl (by kernel_rfl)) ?_;(conv=>whnf);exact⟨cd,⟨rfl,rfl,rfl,rfl⟩,hF⟩
 ·rw[show(vk==5)=false from h5]at hF
  dsimp only at hF;refine asplit ?_ ?_<;>intro h6<;>conv=>whnf
  ·rw[show eqB (basicF vk) ⟨#[]⟩=true from h6]at hF
   cases hF;refine⟨.inl rfl,⟨s6,s6,s6,s6,s6,s6,trivial⟩⟩
  ·rw[show eqB (basicF vk) ⟨#[]⟩=false from h6]at hF
   dsimp only at hF;exact⟨basicF vk,⟨rfl,rfl,rfl,rfl⟩,hF⟩
end MN
open Go Go.AM Go.Proofs TK
set_option maxRecDepth 100000
namespace MN
theorem findG_spec (K:Ks) (zr:Sto Rn) (k:Nat) (r:Rn) (m:Mk) (name:ByteArray) (xs:List Vl) (R:Option Fn) (hr:tlk k zr.2=some r) (hm:tlk r.maker K.mm.2=some m) (hF:findG K m name xs=some R):
 AMem Tryz.prog 256 [.p (.adr rS k),.p (.s name),.p (.sl 5 (eVs xs))] (hF5 K zr) (eFo R) (hF5 K zr):=by
 unfold findG at hF
 cases he:tlk m.funcs K.mf.2 with
 |none=>rw[he]at hF;cases hF
 |some es=>
  rw[he]at hF;dsimp only at hF
  cases hf:tfind name es with
  |some fn=>
   rw[hf]at hF;cases hF;exact find_fun K zr k r m name xs fn es hr hm he hf
  |none=>
   rw[hf]at hF;dsimp only at hF
   cases ht:tlk m.traits K.mt.2 with
   |none=>rw[ht]at hF;cases hF
   |some ts=>
    rw[ht]at hF;dsimp only at hF
    cases hft:tfind name ts with
    |none=>
     rw[hft]at hF;cases hF;exact find_none1 K zr k r m name xs es ts hr hm he hf ht hft
    |some trait=>
     rw[hft]at hF
     cases xs with
     |nil=>
      cases hF;exact find_none2 K zr k r m name trait es ts hr hm he hf ht hft
     |cons v xs=>exact find_impl K zr k r m name trait v xs es ts R hr hm he hf ht hft hF
noncomputable def tyCl:Nat→Option TI:=hintZ (tyOf Tryz.prog) 136 [1,1,0,1,1]
theorem tyCl_ok:TyOK Tryz.prog tyCl:=(tyOf_ok Tryz.prog).hintZ _ _
theorem call_spec (K:Ks) (S:Ss) (zr:Sto Rn) (k:Nat) (r:Rn) (f:Fr) (xs:List Vl) (R:Ss×Rn) (hr:tlk k zr.2=some r) (hf:f.vals=.lst xs) (hF:callF K S r f xs=some R):
 AMem Tryz.prog 248 [.p (.adr rS k),.p (.agg (cFr f))] (hA K S zr) (.tup []) (hA K R.1 (zr.1,tset k R.2 zr.2)):=by
 have hfl:=fun w=>fail_spec zr S.o k w r hr;obtain⟨f1,f2,f3,f4,f5⟩:=f;dsimp only at hf;subst hf;unfold callF nodeF at hF;dsimp only at hF
 cases f1 with
 |none=>cases hF
 |some kn=>
  dsimp only at hF
  cases hn:tlk kn K.n.2 with
  |none=>rw[hn]at hF;cases hF
  |some n=>
   rw[hn]at hF;obtain⟨n1,n2,n3,n4,n5,n6,n7,n8,n9⟩:=n;dsimp only at hF
   cases hk:n1==9 with
   |false=>rw[hk]at hF;cases hF
   |true=>
    rw[hk]at hF;have hk:n1=9:=by simpa using hk
    subst hk;dsimp only at hF
    cases hm:tlk r.maker K.mm.2 with
    |none=>rw[hm]at hF;cases hF
    |some m=>
     rw[hm]at hF;dsimp only at hF
     cases hfi:findG K m n3 xs with
     |none=>rw[hfi]at hF;cases hF
     |some Q=>
      rw[hfi]at hF;have hfd:=findG_spec K zr k r m n3 xs Q hr hm hfi
      cases Q with
      |none=>
       cases hF;unfold hA hF5 hNd cFr eFo at *;dsimp only[eFV]at *;refine AMem.intro (tyOf_ok Tryz.prog) hmix Tryz.func248 rfl (by rfl) (by kernel_rfl) (by show 2≤_;decide) rfl ?_;(conv=>whnf);refine lpe eNd hn rfl ?_;(conv=>whnf);refine lpe eNd hn rfl ?_;(conv=>whnf);refine amc [1000000000,1000000009,1000000010,1000000011,1000000012,1000000013] 400 hfd ?_;(conv=>whnf);refine amc [1000000000,1000000001] 300 (hfl wName) ?_;(conv=>whnf);refine⟨.inl rfl,⟨s6,s6,s6,s6,s6,s6,s6,s6,s6,s6,s6,s6,s6,s6,s6,s6,trivial⟩⟩
      |some fn=>
       obtain⟨fnn,fb⟩:=fn;dsimp only at hF;have hxl:(eVs xs).length=xs.length:=by rw[eVs_map];simp
       unfold eFo eFn at hfd;dsimp only[Option.isSome]at hfd;unfold hA hF5 hNd cFr at *;dsimp only[eFV]at *
       cases hll:Nat.ble fnn.length 1000000 with
       |false=>rw[hll]at hF;cases hF
       |true=>
        rw[hll]at hF;dsimp only at hF;have hll:=Nat.le_of_ble_eq_true hll
        cases hg:Nat.beq xs.length fnn.length with
        |false=>
         rw[hg]at hF;cases hF;refine AMem.intro tyCl_ok hmix Tryz.func248 rfl (by rfl) (by kernel_rfl) (by show 2≤_;decide) rfl ?_;(conv=>whnf);refine lpe eNd hn rfl ?_;(conv=>whnf);refine lpe eNd hn rfl ?_;(conv=>whnf);refine amc [1000000000,1000000009,1000000010,1000000011,1000000012,1000000013] 400 hfd ?_;(conv=>whnf)
         refine ast (by
          have:xs.length≠fnn.length:=fun e=>by rw[e,Nat.beq_refl]at hg;cases hg
          simp[hxl];omega) ?_
         (conv=>whnf);refine amc [1000000000,1000000001] 300 (hfl wType) ?_;(conv=>whnf);refine⟨.inl rfl,⟨s6,s6,s6,s6,s6,s6,s6,s6,s6,s6,s6,s6,s6,s6,s6,s6,trivial⟩⟩
        |true=>
         rw[hg]at hF;dsimp only at hF;have hg:=Nat.eq_of_beq_eq_true hg
         cases hd:decide (f4≥60) with
         |true=>
          rw[hd]at hF;cases hF;refine AMem.intro tyCl_ok hmix Tryz.func248 rfl (by rfl) (by kernel_rfl) (by show 2≤_;decide) rfl ?_;(conv=>whnf);refine lpe eNd hn rfl ?_;(conv=>whnf);refine lpe eNd hn rfl ?_;(conv=>whnf);refine amc [1000000000,1000000009,1000000010,1000000011,1000000012,1000000013] 400 hfd ?_;(conv=>whnf);refine asf (by simp[hxl];omega) ?_;(conv=>whnf);refine ast hd ?_;(conv=>whnf);refine amc [1000000000,1000000001] 300 (hfl wDeep) ?_;(conv=>whnf);refine⟨.inl rfl,⟨s6,s6,s6,s6,s6,s6,s6,s6,s6,s6,s6,s6,s6,s6,s6,s6,trivial⟩⟩
         |false=>
          rw[hd]at hF;dsimp only at hF
          cases hw:withF fnn xs (S.s,none) with
          |none=>rw[hw]at hF;cases hF
          |some Q=>
           rw[hw]at hF;cases hF;have hwi:=with_spec sS fnn xs (S.s,none) Q (by omega) hw;obtain⟨r1,r2,r3,r4,r5,r6,r7,⟨c1,c2,c3,c4,c5⟩,⟨wk,wn,wt,wa,wc⟩,⟨o1,o2,o3,o4,o5,o6,o7,o8⟩,⟨p1,p2,p3,p4,p5⟩,r12⟩:=r;obtain⟨Q1,Q2⟩:=Q;unfold hRn at *;dsimp only at hwi
           cases Q2 with
           |none=>
            refine AMem.intro tyCl_ok hmix Tryz.func248 rfl (by rfl) (by kernel_rfl) (by show 2≤_;decide) rfl ?_;(conv=>whnf);refine lpe eNd hn rfl ?_;(conv=>whnf);refine lpe eNd hn rfl ?_;(conv=>whnf);refine amc [1000000000,1000000009,1000000010,1000000011,1000000012,1000000013] 400 hfd ?_;(conv=>whnf);refine asf (by simp[hxl];omega) ?_;(conv=>whnf);refine asf hd ?_;(conv=>whnf);refine amc [1000000005] 400 hwi ?_;(conv=>whnf);refine lpe eRn hr rfl ?_;(conv=>whnf);refine aneed (.inl (by kernel_rfl)) ?_;(conv=>whnf);refine⟨.inl rfl,⟨⟨rfl,rfl,rfl,rfl,rfl,?_⟩,s6,s6,s6,s6,s6,s6,s6,s6,s6,s6,s6,s6,s6,s6,s6,trivial⟩⟩;exact sset_en eRn k ⟨r1,r2,r3,r4,r5,r6,r7,⟨some fb,none,.nil,IntKind.i64.wrap (f4+1),true⟩,.mk wk wn wt wa wc,⟨o1,o2,o3,o4,o5,o6,o7,o8⟩,⟨p1,p2,p3,p4,p5⟩,r12⟩ zr.2
           |some s=>
            refine AMem.intro tyCl_ok hmix Tryz.func248 rfl (by rfl) (by kernel_rfl) (by show 2≤_;decide) rfl ?_;(conv=>whnf);refine lpe eNd hn rfl ?_;(conv=>whnf);refine lpe eNd hn rfl ?_;(conv=>whnf);refine amc [1000000000,1000000009,1000000010,1000000011,1000000012,1000000013] 400 hfd ?_;(conv=>whnf);refine asf (by simp[hxl];omega) ?_;(conv=>whnf);refine asf hd ?_;(conv=>whnf);refine amc [1000000005] 400 hwi ?_;(conv=>whnf);refine lpe eRn hr rfl ?_;(conv=>whnf);refine aneed (.inl (by kernel_rfl)) ?_;(conv=>whnf);refine⟨.inl rfl,⟨⟨rfl,rfl,rfl,rfl,rfl,?_⟩,s6,s6,s6,s6,s6,s6,s6,s6,s6,s6,s6,s6,s6,s6,s6,trivial⟩⟩;exact sset_en eRn k ⟨r1,r2,r3,r4,r5,r6,r7,⟨some fb,(some s),.nil,IntKind.i64.wrap (f4+1),true⟩,.mk wk wn wt wa wc,⟨o1,o2,o3,o4,o5,o6,o7,o8⟩,⟨p1,p2,p3,p4,p5⟩,r12⟩ zr.2
end MN
