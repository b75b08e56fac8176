/- Contracts, and the law, for every input. No conditions. -/
import Derived.Test.YtdmopjgjhfhfdaaGreatDoorMNX
import Derived.Test.YtdmopjgjhfhfdaaGreatDoorMNM
open Go Go.AM Go.Proofs TK
set_option maxRecDepth 100000
namespace MN
noncomputable def tySi:Nat→Option TI:=hint (tyOf Tryz.prog) 212 [1000110]
theorem tySi_ok:TyOK Tryz.prog tySi:=(tyOf_ok Tryz.prog).hint _ _
theorem simple_spec (K:Ks) (S:Ss) (zr:Sto Rn) (k:Nat) (r:Rn) (f:Fr) (xs:List Vl) (R:(Vl×ByteArray)×Ss) (hr:tlk k zr.2=some r) (hf:f.vals=.lst xs) (hF:simpleF K S r f xs=some R):
 AMem Tryz.prog 251 [.p (.adr rS k),.p (.agg (cFr f))] (hA K S zr) (.tup [.p (eV R.1.1),.p (.s R.1.2)]) (hA K R.2 zr):=by
 obtain⟨f1,f2,f3,f4,f5⟩:=f;dsimp only at hf;subst hf;unfold simpleF nodeF at hF;dsimp only at hF
 cases f1 with
 |none=>cases hF
 |some kn=>
  dsimp only at hF
  cases hn:tlk kn K.n.2 with
  |none=>rw[hn]at hF;cases hF
  |some n=>
   rw[hn]at hF;obtain⟨n1,n2,n3,n4,n5,n6,n7,n8,n9⟩:=n;dsimp only at hF;have hxl:(eVs xs).length=xs.length:=by rw[eVs_map];simp
   unfold hA hRn hNd cFr at *;dsimp only[eFV]at *;refine AMem.intro tySi_ok hmix Tryz.func251 rfl (by rfl) (by kernel_rfl) (by show 2≤_;decide) rfl ?_;(conv=>whnf);refine lpe eNd hn rfl ?_;(conv=>whnf);refine asplit ?_ ?_<;>intro h1<;>conv=>whnf
   ·rw[show(n1==1)=true from h1]at hF
    cases hF;refine apc unit_spec ?_;(conv=>whnf);refine⟨.inl rfl,⟨s6,s6,s6,s6,s6,s6,s6,s6,s6,s6,s6,s6,s6,s6,s6,s6,trivial⟩⟩
   rw[show(n1==1)=false from h1]at hF;dsimp only at hF;refine asplit ?_ ?_<;>intro h2<;>conv=>whnf
   ·rw[show(n1==2)=true from h2]at hF
    cases hF;refine lpe eNd hn rfl ?_;(conv=>whnf);refine apc (int_spec _) ?_;(conv=>whnf);refine⟨.inl rfl,⟨s6,s6,s6,s6,s6,s6,s6,s6,s6,s6,s6,s6,s6,s6,s6,s6,trivial⟩⟩
   rw[show(n1==2)=false from h2]at hF;dsimp only at hF;refine asplit ?_ ?_<;>intro h3<;>conv=>whnf
   ·rw[show(n1==3)=true from h3]at hF
    cases hF;refine lpe eNd hn rfl ?_;(conv=>whnf);refine apc (bool_spec _) ?_;(conv=>whnf);refine⟨.inl rfl,⟨s6,s6,s6,s6,s6,s6,s6,s6,s6,s6,s6,s6,s6,s6,s6,s6,trivial⟩⟩
   rw[show(n1==3)=false from h3]at hF;dsimp only at hF;refine asplit ?_ ?_<;>intro h4<;>conv=>whnf
   ·rw[show(n1==4)=true from h4]at hF
    cases hF;refine lpe eNd hn rfl ?_;(conv=>whnf);refine⟨.inl rfl,⟨s6,s6,s6,s6,s6,s6,s6,s6,s6,s6,s6,s6,s6,s6,s6,s6,trivial⟩⟩
   rw[show(n1==4)=false from h4]at hF;dsimp only at hF;refine asplit ?_ ?_<;>intro h16<;>conv=>whnf
   ·rw[show(n1==16)=true from h16]at hF
    cases hF;refine lpe eRn hr rfl ?_;(conv=>whnf);refine apc (ref_spec _) ?_;(conv=>whnf);refine⟨.inl rfl,⟨s6,s6,s6,s6,s6,s6,s6,s6,s6,s6,s6,s6,s6,s6,s6,s6,trivial⟩⟩
   rw[show(n1==16)=false from h16]at hF;dsimp only at hF;refine asplit ?_ ?_<;>intro h5<;>conv=>whnf
   ·rw[show(n1==5)=true from h5]at hF
    dsimp only at hF
    cases hfd:findF S.s.2 n3 1000000 f2 with
    |none=>rw[hfd]at hF;cases hF
    |some Q=>
     rw[hfd]at hF;have hfs:=find_spec sS S.s n3 f2 1000000 Q hfd
     cases Q with
     |none=>
      cases hF;unfold eVo at hfs;rw[show eV (Option.getD none zV)=eV zV from rfl]at hfs;unfold zV at hfs;rw[eV]at hfs;cases f2
      all_goals
       refine lpe eNd hn rfl ?_;(conv=>whnf);refine amc [1000000005] 400 hfs ?_;(conv=>whnf);refine aneed (.inl (by kernel_rfl)) ?_;(conv=>whnf);refine⟨.inl rfl,⟨s6,s6,s6,s6,s6,s6,s6,s6,s6,s6,s6,s6,s6,s6,s6,s6,trivial⟩⟩
     |some v=>
      cases hF;obtain⟨vk,vn,vt,va,vc⟩:=v;unfold eVo at hfs;rw[show eV (Option.getD (some (.mk vk vn vt va vc)) zV)=eV (.mk vk vn vt va vc) from rfl,eV]at hfs;cases f2
      all_goals
       refine lpe eNd hn rfl ?_;(conv=>whnf);refine amc [1000000005] 400 hfs ?_;(conv=>whnf);refine aneed (.inl (by kernel_rfl)) ?_;(conv=>whnf);refine⟨.inl rfl,⟨s6,s6,s6,s6,s6,s6,s6,s6,s6,s6,s6,s6,s6,s6,s6,s6,trivial⟩⟩
   rw[show(n1==5)=false from h5]at hF;dsimp only at hF;refine asplit ?_ ?_<;>intro h12<;>conv=>whnf
   ·rw[show(n1==12)=true from h12]at hF
    dsimp only at hF
    cases hm:tlk r.maker K.mm.2 with
    |none=>rw[hm]at hF;cases hF
    |some m=>
     rw[hm]at hF;dsimp only at hF
     cases hmc:tlk m.makes K.mc.2 with
     |none=>rw[hmc]at hF;cases hF
     |some cs=>
      rw[hmc]at hF;dsimp only at hF;have hlc:=fun d=>tfind_look eCn n3 d cs;unfold hMk hMc at *;refine lpe eRn hr rfl ?_;(conv=>whnf);refine lpe eMk hm rfl ?_;(conv=>whnf);refine lpe eNd hn rfl ?_;(conv=>whnf);refine aneed ⟨rfl,rfl⟩ ?_;refine⟨eTM eCn cs,slk_in (enc:=eTM2 eCn) hmc,?_⟩
      cases hc:tfind n3 cs with
      |none=>
       rw[hc]at hF hlc;cases hF;refine⟨_,_,hlc _,?_⟩;(conv=>whnf);refine aneed (.inl (by kernel_rfl)) ?_;(conv=>whnf);refine⟨.inl rfl,⟨s6,s6,s6,s6,s6,s6,s6,s6,s6,s6,s6,s6,s6,s6,s6,s6,trivial⟩⟩
      |some c=>
       rw[hc]at hF hlc;obtain⟨cd,ca⟩:=c;dsimp only at hF;refine⟨_,_,hlc _,?_⟩;(conv=>whnf);refine aneed (.inl (by kernel_rfl)) ?_;(conv=>whnf)
       cases hq:ca==(xs.length:Int) with
       |false=>
        rw[hq]at hF;cases hF;refine ast (show(!(ca==((eVs xs).length:Int)))=true by rw[hxl,hq];rfl) ?_;(conv=>whnf);refine⟨.inl rfl,⟨s6,s6,s6,s6,s6,s6,s6,s6,s6,s6,s6,s6,s6,s6,s6,s6,trivial⟩⟩
       |true=>
        rw[hq]at hF;dsimp only at hF
        cases hft:fitF S.c.2 (.mk 5 0 n3 xs none) with
        |none=>rw[hft]at hF;cases hF
        |some Q=>
         rw[hft]at hF;cases hF;have hfi:=fit_spec S.c (.mk 5 0 n3 xs none) Q hft;rw[eV]at hfi;obtain⟨⟨u1,u2,u3,u4,u5⟩,w⟩:=Q;rw[eV]at hfi;refine asf (show(!(ca==((eVs xs).length:Int)))=false by rw[hxl,hq];rfl) ?_;(conv=>whnf);refine lpe eNd hn rfl ?_;(conv=>whnf);refine amc [1000000008] 400 hfi ?_;(conv=>whnf);refine aneed (.inl (by kernel_rfl)) ?_;(conv=>whnf);refine⟨.inl rfl,⟨s6,s6,s6,s6,s6,s6,s6,s6,s6,s6,s6,s6,s6,s6,s6,s6,trivial⟩⟩
   rw[show(n1==12)=false from h12]at hF;dsimp only at hF;refine asplit ?_ ?_<;>intro h21<;>conv=>whnf
   ·rw[show(n1==21)=true from h21]at hF
    cases xs with
    |nil=>cases hF
    |cons v xs=>
     dsimp only at hF
     cases hft:fitF ((S.c.1,⟨false,v⟩)::S.c.2) (.mk 8 0 ⟨#[]⟩ [] (some S.c.1)) with
     |none=>rw[hft]at hF;cases hF
     |some Q=>
      rw[hft]at hF;cases hF;have hfi:=fit_spec (S.c.1+1,(S.c.1,⟨false,v⟩)::S.c.2) (.mk 8 0 ⟨#[]⟩ [] (some S.c.1)) Q hft;rw[eV]at hfi;obtain⟨⟨u1,u2,u3,u4,u5⟩,w⟩:=Q;rw[eV]at hfi;obtain⟨vk,vn,vt,va,vc⟩:=v;unfold hCl at *;refine aidxn (i:=0) (x:=.agg [.i .i64 vk,.i .i64 vn,.s vt,.sl 5 (eVs va),eP cS vc]) rfl ?_;(conv=>whnf);refine amc [1000000008] 400 hfi ?_;(conv=>whnf);refine⟨.inl rfl,⟨s6,s6,s6,s6,s6,s6,s6,s6,s6,s6,s6,s6,s6,s6,s6,s6,trivial⟩⟩
   rw[show(n1==21)=false from h21]at hF;dsimp only at hF;refine asplit ?_ ?_<;>intro h22<;>conv=>whnf
   ·rw[show(n1==22)=true from h22]at hF
    cases xs with
    |nil=>cases hF
    |cons v xs=>
     dsimp only at hF
     cases hft:getF S.c.2 v with
     |none=>rw[hft]at hF;cases hF
     |some Q=>
      rw[hft]at hF;cases hF;have hfi:=get_spec S.c v Q hft;obtain⟨⟨u1,u2,u3,u4,u5⟩,w⟩:=Q;obtain⟨vk,vn,vt,va,vc⟩:=v;rw[eV,eV]at hfi;refine aidxn (i:=0) (x:=.agg [.i .i64 vk,.i .i64 vn,.s vt,.sl 5 (eVs va),eP cS vc]) rfl ?_;(conv=>whnf);refine amc [1000000008] 400 hfi ?_;(conv=>whnf);refine⟨.inl rfl,⟨s6,s6,s6,s6,s6,s6,s6,s6,s6,s6,s6,s6,s6,s6,s6,s6,trivial⟩⟩
   rw[show(n1==22)=false from h22]at hF;dsimp only at hF;refine asplit ?_ ?_<;>intro h23<;>conv=>whnf
   ·rw[show(n1==23)=true from h23]at hF
    rcases xs with _|⟨v,_|⟨x,xs⟩⟩
    ·cases hF
    ·cases hF
    ·dsimp only at hF
     cases hft:putF S.c v x with
     |none=>rw[hft]at hF;cases hF
     |some Q=>
      rw[hft]at hF;cases hF;have hfi:=put_spec S.c v x Q hft;obtain⟨vk,vn,vt,va,vc⟩:=v;obtain⟨xk,xn,xt,xa,xc⟩:=x;rw[eV,eV]at hfi;refine apc unit_spec ?_;(conv=>whnf);refine aidxn (i:=0) (x:=.agg [.i .i64 vk,.i .i64 vn,.s vt,.sl 5 (eVs va),eP cS vc]) rfl ?_;(conv=>whnf);refine aidxn (i:=1) (x:=.agg [.i .i64 xk,.i .i64 xn,.s xt,.sl 5 (eVs xa),eP cS xc]) rfl ?_;(conv=>whnf);refine amc [1000000008] 400 hfi ?_;(conv=>whnf);refine aneed (.inl (by kernel_rfl)) ?_;(conv=>whnf);refine⟨.inl rfl,⟨s6,s6,s6,s6,s6,s6,s6,s6,s6,s6,s6,s6,s6,s6,s6,s6,trivial⟩⟩
   rw[show(n1==23)=false from h23]at hF;cases hF;refine⟨.inl rfl,⟨s6,s6,s6,s6,s6,s6,s6,s6,s6,s6,s6,s6,s6,s6,s6,s6,trivial⟩⟩
end MN
open Go Go.AM Go.Proofs TK
set_option maxRecDepth 100000
namespace MN
theorem frzAny {fn:Nat} {K:Ks} {S:Ss} {zr:Sto Rn} {H':Heap} {r:AV} {k:Nat} {f:Fr} {xs:List Vl} (hgl:globB (hA K S zr) H'=true) (hl:isL f.vals=false) (hx:valsOf S f.vals=some xs)
 (h:AMem Tryz.prog fn [.p (.adr rS k),.p (.agg (cFr { f with vals:=.lst xs }))] (hA K (frzS S f.vals) zr) r H'):
 AMem Tryz.prog fn [.p (.adr rS k),.p (.agg (cFr f))] (hA K S zr) r H':=by
 obtain⟨f1,f2,f3,f4,f5⟩:=f;dsimp only at *
 cases f3 with
 |lst l=>cases hl
 |nil=>cases hx;exact frzN (f:=⟨f1,f2,.nil,f4,f5⟩) h
 |blk kk m=>
  unfold valsOf at hx;dsimp only at hx
  cases hL:tlk kk S.v.2 with
  |none=>rw[hL]at hx;cases hx
  |some L=>
   rw[hL]at hx;dsimp only at hx
   cases hg:Nat.ble m L.length&&Nat.ble m 1000000 with
   |false=>rw[hg]at hx;cases hx
   |true=>
    rw[hg]at hx;cases hx;rw[Bool.and_eq_true]at hg;exact frzA (f:=⟨f1,f2,.blk kk m,f4,f5⟩) hgl hL (Nat.le_of_ble_eq_true hg.1) h
theorem takeL_vals (f1 f2:Option Nat) (w w':FV) (f4:Int) (f5:Bool) (v:Vl):∀(l:List Ar) (S:Ss) (r:Rn),takeL ⟨f1,f2,w,f4,f5⟩ v l S r=takeL ⟨f1,f2,w',f4,f5⟩ v l S r
 | [],_,_=>rfl
 |a::l,S,r=>by
  rw[takeL,takeL];dsimp only;split
  ·rfl
  ·rfl
  ·exact takeL_vals f1 f2 w w' f4 f5 v l _ r
theorem go_let {K:Ks} {S:Ss} {r:Rn} {f:Fr} {n:Nd} {R:Ss×Rn} (h:n.kind=6) (hF:goOnF K S r f n=some R):∃xs,valsOf S f.vals=some xs∧letF K S r f n xs=some R:=by
 unfold goOnF at hF;rw[h]at hF
 cases hx:valsOf S f.vals with
 |none=>rw[hx]at hF;cases hF
 |some xs=>rw[hx]at hF;exact⟨xs,rfl,hF⟩
theorem go_if {K:Ks} {S:Ss} {r:Rn} {f:Fr} {n:Nd} {R:Ss×Rn} (h:n.kind=7) (hF:goOnF K S r f n=some R):∃xs,valsOf S f.vals=some xs∧chooseF K (frzS S f.vals) r f xs=some R:=by
 unfold goOnF at hF;rw[h]at hF
 cases hx:valsOf S f.vals with
 |none=>rw[hx]at hF;cases hF
 |some xs=>rw[hx]at hF;exact⟨xs,rfl,hF⟩
theorem go_match {K:Ks} {S:Ss} {r:Rn} {f:Fr} {n:Nd} {R:Ss×Rn} (h:n.kind=13) (hF:goOnF K S r f n=some R):∃xs,valsOf S f.vals=some xs∧matchSF K (frzS S f.vals) r f xs=some R:=by
 unfold goOnF at hF;rw[h]at hF
 cases hx:valsOf S f.vals with
 |none=>rw[hx]at hF;cases hF
 |some xs=>rw[hx]at hF;exact⟨xs,rfl,hF⟩
theorem go_call {K:Ks} {S:Ss} {r:Rn} {f:Fr} {n:Nd} {R:Ss×Rn} (h:n.kind=9) (hF:goOnF K S r f n=some R):∃xs,valsOf S f.vals=some xs∧callF K (frzS S f.vals) r f xs=some R:=by
 unfold goOnF at hF;rw[h]at hF
 cases hx:valsOf S f.vals with
 |none=>rw[hx]at hF;cases hF
 |some xs=>rw[hx]at hF;exact⟨xs,rfl,hF⟩
theorem go_apply {K:Ks} {S:Ss} {r:Rn} {f:Fr} {n:Nd} {R:Ss×Rn} (h:n.kind=11) (hF:goOnF K S r f n=some R):∃xs,valsOf S f.vals=some xs∧callF K (frzS S f.vals) r f xs=some R:=by
 unfold goOnF at hF;rw[h]at hF
 cases hx:valsOf S f.vals with
 |none=>rw[hx]at hF;cases hF
 |some xs=>rw[hx]at hF;exact⟨xs,rfl,hF⟩
theorem go_become {K:Ks} {S:Ss} {r:Rn} {f:Fr} {n:Nd} {R:Ss×Rn} (h:n.kind=17) (hF:goOnF K S r f n=some R):∃xs,valsOf S f.vals=some xs∧becomeF (frzS S f.vals) r f xs=some R:=by
 unfold goOnF at hF;rw[h]at hF
 cases hx:valsOf S f.vals with
 |none=>rw[hx]at hF;cases hF
 |some xs=>rw[hx]at hF;exact⟨xs,rfl,hF⟩
theorem go_op {K:Ks} {S:Ss} {r:Rn} {f:Fr} {n:Nd} {R:Ss×Rn} (h:n.kind=8) (hF:goOnF K S r f n=some R):operatorF K S r f=some R:=by
 unfold goOnF at hF;rw[h]at hF;exact hF
theorem go_leave {K:Ks} {S:Ss} {r:Rn} {f:Fr} {n:Nd} {R:Ss×Rn} (h:n.kind=15∨n.kind=14∨n.kind=20∨n.kind=24∨n.kind=25∨n.kind=19) (hF:goOnF K S r f n=some R):∃xs,valsOf S f.vals=some xs∧leaveF K (frzS S f.vals) r f xs=some R:=by
 unfold goOnF at hF;rcases h with h|h|h|h|h|h <;>
 ·rw[h]at hF
  cases hx:valsOf S f.vals with
  |none=>rw[hx]at hF;cases hF
  |some xs=>rw[hx]at hF;exact⟨xs,rfl,hF⟩
theorem go_simple {K:Ks} {S:Ss} {r:Rn} {f:Fr} {n:Nd} {R:Ss×Rn} (h6:(n.kind==6)=false) (h7:(n.kind==7)=false) (h13:(n.kind==13)=false) (h8:(n.kind==8)=false) (h9:(n.kind==9)=false) (h11:(n.kind==11)=false) (h17:(n.kind==17)=false)
 (h15:(n.kind==15)=false) (h14:(n.kind==14)=false) (h20:(n.kind==20)=false) (h24:(n.kind==24)=false) (h25:(n.kind==25)=false) (h19:(n.kind==19)=false) (hF:goOnF K S r f n=some R):∃xs,valsOf S f.vals=some xs∧simpleS K (frzS S f.vals) r f xs=some R:=by
 unfold goOnF at hF;rw[h6,h7,h8,h13,h9,h11,h17,h15,h14,h20,h24,h25,h19]at hF
 cases hx:valsOf S f.vals with
 |none=>rw[hx]at hF;cases hF
 |some xs=>rw[hx]at hF;exact⟨xs,rfl,hF⟩
theorem choose_blk (K:Ks) (S:Ss) (zr:Sto Rn) (k:Nat) (r:Rn) (f:Fr) (xs:List Vl) (R:Ss×Rn) (hr:tlk k zr.2=some r) (hl:isL f.vals=false) (hx:valsOf S f.vals=some xs) (hF:chooseF K (frzS S f.vals) r f xs=some R):
 AMem Tryz.prog 245 [.p (.adr rS k),.p (.agg (cFr f))] (hA K S zr) (.tup []) (hA K R.1 (zr.1,tset k R.2 zr.2)):=by
 obtain⟨f1,f2,f3,f4,f5⟩:=f;exact frzAny rfl hl hx (choose_spec K (frzS S f3) zr k r ⟨f1,f2,.lst xs,f4,f5⟩ xs R hr rfl hF)
theorem call_blk (K:Ks) (S:Ss) (zr:Sto Rn) (k:Nat) (r:Rn) (f:Fr) (xs:List Vl) (R:Ss×Rn) (hr:tlk k zr.2=some r) (hl:isL f.vals=false) (hx:valsOf S f.vals=some xs) (hF:callF K (frzS S f.vals) r f xs=some R):
 AMem Tryz.prog 248 [.p (.adr rS k),.p (.agg (cFr f))] (hA K S zr) (.tup []) (hA K R.1 (zr.1,tset k R.2 zr.2)):=by
 obtain⟨f1,f2,f3,f4,f5⟩:=f;exact frzAny rfl hl hx (call_spec K (frzS S f3) zr k r ⟨f1,f2,.lst xs,f4,f5⟩ xs R hr rfl hF)
theorem become_blk (K:Ks) (S:Ss) (zr:Sto Rn) (k:Nat) (r:Rn) (f:Fr) (xs:List Vl) (R:Ss×Rn) (hr:tlk k zr.2=some r) (hl:isL f.vals=false) (hx:valsOf S f.vals=some xs) (hF:becomeF (frzS S f.vals) r f xs=some R):
 AMem Tryz.prog 249 [.p (.adr rS k),.p (.agg (cFr f))] (hA K S zr) (.tup []) (hA K R.1 (zr.1,tset k R.2 zr.2)):=by
 obtain⟨f1,f2,f3,f4,f5⟩:=f;exact frzAny rfl hl hx (become_spec K (frzS S f3) zr k r ⟨f1,f2,.lst xs,f4,f5⟩ xs R hr rfl hF)
theorem leave_blk (K:Ks) (S:Ss) (zr:Sto Rn) (k:Nat) (r:Rn) (f:Fr) (xs:List Vl) (R:Ss×Rn) (hr:tlk k zr.2=some r) (hl:isL f.vals=false) (hx:valsOf S f.vals=some xs) (hF:leaveF K (frzS S f.vals) r f xs=some R):
 AMem Tryz.prog 250 [.p (.adr rS k),.p (.agg (cFr f))] (hA K S zr) (.tup []) (hA K R.1 (zr.1,tset k R.2 zr.2)):=by
 obtain⟨f1,f2,f3,f4,f5⟩:=f;exact frzAny rfl hl hx (leave_spec K (frzS S f3) zr k r ⟨f1,f2,.lst xs,f4,f5⟩ xs R hr rfl hF)
theorem match_blk (K:Ks) (S:Ss) (zr:Sto Rn) (k:Nat) (r:Rn) (f:Fr) (xs:List Vl) (R:Ss×Rn) (hr:tlk k zr.2=some r) (hl:isL f.vals=false) (hx:valsOf S f.vals=some xs) (hF:matchSF K (frzS S f.vals) r f xs=some R):
 AMem Tryz.prog 246 [.p (.adr rS k),.p (.agg (cFr f))] (hA K S zr) (.tup []) (hA K R.1 (zr.1,tset k R.2 zr.2)):=by
 obtain⟨f1,f2,f3,f4,f5⟩:=f;exact frzAny rfl hl hx (match_spec K (frzS S f3) zr k r ⟨f1,f2,.lst xs,f4,f5⟩ xs R hr rfl (by unfold matchSF takeF at hF ⊢;simp only[takeL_vals f1 f2 (.lst xs) f3];exact hF))
theorem choose_leaf_if (K:Ks) (S:Ss) (zr:Sto Rn) (k:Nat) (r:Rn) (f:Fr) (n:Nd) (R:Ss×Rn) (hr:tlk k zr.2=some r) (hl:isL f.vals=false) (h:n.kind=7) (hF:goOnF K S r f n=some R):
 AMem Tryz.prog 245 [.p (.adr rS k),.p (.agg (cFr f))] (hA K S zr) (.tup []) (hA K R.1 (zr.1,tset k R.2 zr.2)):=by
 obtain⟨xs,h1,h2⟩:=go_if h hF;exact choose_blk K S zr k r f xs R hr hl h1 h2
theorem match_leaf_match (K:Ks) (S:Ss) (zr:Sto Rn) (k:Nat) (r:Rn) (f:Fr) (n:Nd) (R:Ss×Rn) (hr:tlk k zr.2=some r) (hl:isL f.vals=false) (h:n.kind=13) (hF:goOnF K S r f n=some R):
 AMem Tryz.prog 246 [.p (.adr rS k),.p (.agg (cFr f))] (hA K S zr) (.tup []) (hA K R.1 (zr.1,tset k R.2 zr.2)):=by
 obtain⟨xs,h1,h2⟩:=go_match h hF;exact match_blk K S zr k r f xs R hr hl h1 h2
theorem call_leaf_call (K:Ks) (S:Ss) (zr:Sto Rn) (k:Nat) (r:Rn) (f:Fr) (n:Nd) (R:Ss×Rn) (hr:tlk k zr.2=some r) (hl:isL f.vals=false) (h:n.kind=9) (hF:goOnF K S r f n=some R):
 AMem Tryz.prog 248 [.p (.adr rS k),.p (.agg (cFr f))] (hA K S zr) (.tup []) (hA K R.1 (zr.1,tset k R.2 zr.2)):=by
 obtain⟨xs,h1,h2⟩:=go_call h hF;exact call_blk K S zr k r f xs R hr hl h1 h2
theorem call_leaf_apply (K:Ks) (S:Ss) (zr:Sto Rn) (k:Nat) (r:Rn) (f:Fr) (n:Nd) (R:Ss×Rn) (hr:tlk k zr.2=some r) (hl:isL f.vals=false) (h:n.kind=11) (hF:goOnF K S r f n=some R):
 AMem Tryz.prog 248 [.p (.adr rS k),.p (.agg (cFr f))] (hA K S zr) (.tup []) (hA K R.1 (zr.1,tset k R.2 zr.2)):=by
 obtain⟨xs,h1,h2⟩:=go_apply h hF;exact call_blk K S zr k r f xs R hr hl h1 h2
theorem become_leaf_become (K:Ks) (S:Ss) (zr:Sto Rn) (k:Nat) (r:Rn) (f:Fr) (n:Nd) (R:Ss×Rn) (hr:tlk k zr.2=some r) (hl:isL f.vals=false) (h:n.kind=17) (hF:goOnF K S r f n=some R):
 AMem Tryz.prog 249 [.p (.adr rS k),.p (.agg (cFr f))] (hA K S zr) (.tup []) (hA K R.1 (zr.1,tset k R.2 zr.2)):=by
 obtain⟨xs,h1,h2⟩:=go_become h hF;exact become_blk K S zr k r f xs R hr hl h1 h2
theorem leave_leaf_leave (K:Ks) (S:Ss) (zr:Sto Rn) (k:Nat) (r:Rn) (f:Fr) (n:Nd) (R:Ss×Rn) (hr:tlk k zr.2=some r) (hl:isL f.vals=false) (h:n.kind=15∨n.kind=14∨n.kind=20∨n.kind=24∨n.kind=25∨n.kind=19) (hF:goOnF K S r f n=some R):
 AMem Tryz.prog 250 [.p (.adr rS k),.p (.agg (cFr f))] (hA K S zr) (.tup []) (hA K R.1 (zr.1,tset k R.2 zr.2)):=by
 obtain⟨xs,h1,h2⟩:=go_leave h hF;exact leave_blk K S zr k r f xs R hr hl h1 h2
theorem simple_blk (K:Ks) (S:Ss) (zr:Sto Rn) (k:Nat) (r:Rn) (f:Fr) (xs:List Vl) (R:(Vl×ByteArray)×Ss) (hr:tlk k zr.2=some r) (hl:isL f.vals=false) (hx:valsOf S f.vals=some xs) (hF:simpleF K (frzS S f.vals) r f xs=some R):
 AMem Tryz.prog 251 [.p (.adr rS k),.p (.agg (cFr f))] (hA K S zr) (.tup [.p (eV R.1.1),.p (.s R.1.2)]) (hA K R.2 zr):=by
 obtain⟨f1,f2,f3,f4,f5⟩:=f;exact frzAny rfl hl hx (simple_spec K (frzS S f3) zr k r ⟨f1,f2,.lst xs,f4,f5⟩ xs R hr rfl hF)
end MN
