/- Contracts, and the law, for every input. No conditions. -/
import Derived.Test.YtdmopjgjhfhfdaaGreatDoorMQ3
import Derived.Test.YtdmopjgjhfhfdaaGreatDoorTR1
set_option linter.all false
section
open Go Go.AM Go.Proofs TK
set_option maxRecDepth 100000
namespace MN
noncomputable def P3:Nat→Option TI:=hint (gN (jQ Tryz.prog) 142 [1,1,1,1,5,1,0,1,1,0,1,1,1,1,1,5,1,1,1,1,1,1,1,4,4,1,1,0,1,1,1]) 142 [1000051]
theorem tg:bz Tryz.prog P3:=((ah Tryz.prog).gN _ _).hint _ _
def F6 (zr:bf Rn):Except Int Rn→AV
 |.ok _=>.cA [.p (.uq 132 (.bH rS zr.1)),.p (.i .i64 0)]
 |.error e=>.cA [.c .nilIface,.p (.i .i64 e)]
def GO (zr:bf Rn):Except Int Rn→bf Rn
 |.ok r=>(zr.1+1,(zr.1,r)::zr.2)
 |.error _=>zr
theorem sy (K:Ks) (S:Ss) (zr:bf Rn) (m:Nat) (name:ByteArray) (st:List Ov) (self:Int) (R:Ss×Except Int Rn) (hF:lI K S m name st self=some R):
 av Tryz.prog 20 [.p (.bH mS m),.p (.s name),.p (.sl 4 (gK st)),.p (.i .i64 self)] (hA K S zr) (F6 zr R.2) (hA K R.1 (GO zr R.2)):=by
 have hlen:=kE st;have hall:=fun h z R hR=>Am K m (gQ K m (rA st)) (Cg K m (rA st)) st h z R hR;unfold lI at hF;generalize rA st=N at hF hall
 cases hm:aK m K.mm.2 with
 |none=>rw[hm]at hF;cases hF
 |some mk=>
  rw[hm]at hF;dsimp only at hF
  cases hes:aK mk.actors K.ma.2 with
  |none=>rw[hes]at hF;cases hF
  |some es=>
   rw[hes]at hF;dsimp only at hF;obtain⟨m1,m2,m3,m4,m5,m6⟩:=mk;have hlk:=fun d=>bQ eFn name d es
   cases hfn:bq name es with
   |none=>
    rw[hfn]at hF hlk;cases hF;unfold hA sG Gy iE at *;refine av.intro tg aC Tryz.func20 rfl (by rfl) (by kernel_rfl) (by show 4≤_;decide) rfl ?_;(conv=>whnf);refine bC iU hm rfl ?_;(conv=>whnf);refine ag ⟨rfl,rfl⟩ ?_;refine⟨jB eFn es,aq (enc:=bX eFn) hes,?_⟩;refine⟨_,_,hlk _,?_⟩;(conv=>whnf);refine⟨.inl rfl,⟨s6,s6,s6,s6,s6,s6,s6,s6,s6,s6,s6,s6,s6,s6,s6,s6,trivial⟩⟩
   |some fn=>
    rw[hfn]at hF hlk;obtain⟨fnn,fb⟩:=fn;have hfl:(fnn.map PV.s).length=fnn.length:=List.length_map _;dsimp only at hF
    cases hg:Nat.beq st.length fnn.length with
    |false=>
     rw[hg]at hF;cases hF;have hne:st.length≠fnn.length:=fun e=>by rw[e,Nat.beq_refl]at hg;cases hg
     unfold hA sG Gy iE at *;refine av.intro tg aC Tryz.func20 rfl (by rfl) (by kernel_rfl) (by show 4≤_;decide) rfl ?_;(conv=>whnf);refine bC iU hm rfl ?_;(conv=>whnf);refine ag ⟨rfl,rfl⟩ ?_;refine⟨jB eFn es,aq (enc:=bX eFn) hes,?_⟩;refine⟨_,_,hlk _,?_⟩;(conv=>whnf);refine dw (by rw[hlen,hfl];simp;omega) ?_;(conv=>whnf);refine⟨.inl rfl,⟨s6,s6,s6,s6,s6,s6,s6,s6,s6,s6,s6,s6,s6,s6,s6,s6,trivial⟩⟩
    |true=>
     rw[hg]at hF;have g1:=Nat.eq_of_beq_eq_true hg;dsimp only at hF
     cases hg2:Nat.ble st.length 2000000 with
     |false=>rw[hg2]at hF;cases hF
     |true=>
      rw[hg2]at hF;have g2:=Nat.le_of_ble_eq_true hg2;dsimp only at hF
      cases hfa:lR (gQ K m N) st S.c with
      |none=>rw[hfa]at hF;cases hF
      |some q=>
       rw[hfa]at hF;have c1:=hall g2 S.c q hfa;unfold Mf KF MM at c1;obtain⟨xs,c2⟩:=q
       cases xs with
       |none=>
        cases hF;unfold hA sG Gy iE at *;refine av.intro tg aC Tryz.func20 rfl (by rfl) (by kernel_rfl) (by show 4≤_;decide) rfl ?_;(conv=>whnf);refine bC iU hm rfl ?_;(conv=>whnf);refine ag ⟨rfl,rfl⟩ ?_;refine⟨jB eFn es,aq (enc:=bX eFn) hes,?_⟩;refine⟨_,_,hlk _,?_⟩;(conv=>whnf);refine bD (by rw[hlen,hfl,g1];simp) ?_;(conv=>whnf);refine bh [1000000008,1000000009,1000000002,1000000003] 300 c1 ?_;(conv=>whnf);refine⟨.inl rfl,⟨s6,s6,s6,s6,s6,s6,s6,s6,s6,s6,s6,s6,s6,s6,s6,s6,trivial⟩⟩
       |some l=>
        rw[show((some l,c2).1.getD [])=l from rfl]at c1;dsimp only at hF c1
        cases hll:Nat.ble l.length 2000000 with
        |false=>rw[hll]at hF;cases hF
        |true=>
         rw[hll]at hF;dsimp only at hF;have hll:=Nat.le_of_ble_eq_true hll
         cases hal:lP c2.2 l with
         |none=>rw[hal]at hF;cases hF
         |some b=>
          rw[hal]at hF;have cl:=mE c2 l b hll hal
          cases b with
          |true=>
           cases hF;unfold hA sG Gy iE at *;refine av.intro tg aC Tryz.func20 rfl (by rfl) (by kernel_rfl) (by show 4≤_;decide) rfl ?_;(conv=>whnf);refine bC iU hm rfl ?_;(conv=>whnf);refine ag ⟨rfl,rfl⟩ ?_;refine⟨jB eFn es,aq (enc:=bX eFn) hes,?_⟩;refine⟨_,_,hlk _,?_⟩;(conv=>whnf);refine bD (by rw[hlen,hfl,g1];simp) ?_;(conv=>whnf);refine bh [1000000008,1000000009,1000000002,1000000003] 300 c1 ?_;(conv=>whnf);refine bh [1000000008] 300 cl ?_;(conv=>whnf);refine⟨.inl rfl,⟨s6,s6,s6,s6,s6,s6,s6,s6,s6,s6,s6,s6,s6,s6,s6,s6,trivial⟩⟩
          |false=>
           dsimp only at hF
           cases hw:lD fnn l (S.s,none) with
           |none=>rw[hw]at hF;cases hF
           |some Q=>
            rw[hw]at hF;cases hF;have c3:=xx (zr.1+1,(zr.1,⟨m,fnn,some fb,self,[],0,none,⟨none,none,.nil,0,false⟩,zV,⟨0,0,⟨#[]⟩,0,0,⟨#[]⟩,[],[]⟩,⟨none,none,.nil,0,false⟩,none⟩)::zr.2) S.s zr.1 l ⟨m,fnn,some fb,self,[],0,none,⟨none,none,.nil,0,false⟩,zV,⟨0,0,⟨#[]⟩,0,0,⟨#[]⟩,[],[]⟩,⟨none,none,.nil,0,false⟩,none⟩ Q (aQ _ _ _) (by show fnn.length≤_;omega) hw;rw[dL]at c3;unfold hA sG Gy iE at *;refine av.intro tg aC Tryz.func20 rfl (by rfl) (by kernel_rfl) (by show 4≤_;decide) rfl ?_;(conv=>whnf);refine bC iU hm rfl ?_;(conv=>whnf);refine ag ⟨rfl,rfl⟩ ?_;refine⟨jB eFn es,aq (enc:=bX eFn) hes,?_⟩;refine⟨_,_,hlk _,?_⟩;(conv=>whnf);refine bD (by rw[hlen,hfl,g1];simp) ?_;(conv=>whnf);refine bh [1000000008,1000000009,1000000002,1000000003] 300 c1 ?_;(conv=>whnf);refine bh [1000000008] 300 cl ?_;(conv=>whnf);refine bh [1000000000,1000000005] 300 c3 ?_;(conv=>whnf);refine⟨.inl rfl,⟨s6,s6,s6,s6,s6,s6,s6,s6,s6,s6,s6,s6,s6,s6,s6,s6,trivial⟩⟩
end MN
end
section
open Go Go.AM Go.Proofs TK
set_option maxRecDepth 100000
namespace MN
theorem He (K:Ks) (S:Ss) (zr:bf Rn) (k:Nat) (r:Rn) (v:Ov) (R:Bool×Ss×Rn) (hr:aK k zr.2=some r) (hF:pU K S r v=some R):
 av Tryz.prog 227 [.p (.bH rS k),.p (eO v)] (hA K S zr) (.p (.b R.1)) (hA K R.2.1 (zr.1,aW k R.2.2 zr.2)):=by
 unfold pU at hF
 cases hmd:r.mode==1 with
 |false=>
  rw[hmd]at hF;cases hF;dsimp only;rw[iu hr];obtain⟨vk,vn,vt,va⟩:=v;obtain⟨r1,r2,r3,r4,r5,r6,r7,⟨c1,c2,c3,c4,c5⟩,⟨wk,wn,wt,wa,wc⟩,⟨o1,o2,o3,o4,o5,o6,o7,o8⟩,⟨p1,p2,p3,p4,p5⟩,r12⟩:=r;unfold hA iE;rw[eO];refine av.intro (ah Tryz.prog) aC Tryz.func227 rfl (by rfl) (by kernel_rfl) (by show 2≤_;decide) rfl ?_;(conv=>whnf);refine bC cP hr rfl ?_;(conv=>whnf);refine dw (show(!(r6==1))=true by rw[hmd];rfl) ?_;(conv=>whnf);refine⟨.inl rfl,⟨s6,s6,s6,s6,s6,s6,s6,s6,s6,s6,s6,s6,s6,s6,s6,s6,trivial⟩⟩
 |true=>
  rw[hmd]at hF;dsimp only at hF
  cases hf:gQ K r.maker (yw v) v S.c with
  |none=>rw[hf]at hF;cases hF
  |some x=>
   rw[hf]at hF;have cf:=Cg K r.maker _ v S.c x hf;obtain⟨x,c2⟩:=x;obtain⟨vk,vn,vt,va⟩:=v;rw[eO]at cf;unfold Nv KF MM at cf
   cases x with
   |none=>
    cases hF;rw[show eV (Option.getD (none,c2).1 zV)=eV zV from rfl]at cf;unfold zV at cf;rw[eV]at cf;dsimp only;rw[iu hr];obtain⟨r1,r2,r3,r4,r5,r6,r7,⟨c1,c2',c3,c4,c5⟩,⟨wk,wn,wt,wa,wc⟩,⟨o1,o2,o3,o4,o5,o6,o7,o8⟩,⟨p1,p2,p3,p4,p5⟩,r12⟩:=r;dsimp only at cf;unfold hA iE;rw[eO];refine av.intro (ah Tryz.prog) aC Tryz.func227 rfl (by rfl) (by kernel_rfl) (by show 2≤_;decide) rfl ?_;(conv=>whnf);refine bC cP hr rfl ?_;(conv=>whnf);refine bD (show(!(r6==1))=false by rw[show(r6==1)=true from hmd];rfl) ?_;(conv=>whnf);refine bC cP hr rfl ?_;(conv=>whnf);refine bh [1000000008,1000000009,1000000002,1000000003] 300 cf ?_;(conv=>whnf);refine ag (.inl (by kernel_rfl)) ?_;(conv=>whnf);refine ag (.inl (by kernel_rfl)) ?_;(conv=>whnf);refine⟨.inl rfl,⟨s6,s6,s6,s6,s6,s6,s6,s6,s6,s6,s6,s6,s6,s6,s6,s6,trivial⟩⟩
   |some x=>
    dsimp only at hF
    cases ht:oB K { S with c:=c2 } r r.pause x with
    |none=>rw[ht]at hF;cases hF
    |some Q=>
     rw[ht]at hF;have tk:=z7 K zr k r r.pause x hr { S with c:=c2 } Q ht;obtain⟨xk,xn,xt,xa,xc⟩:=x;rw[show eV (Option.getD (some (Vl.mk xk xn xt xa xc),c2).1 zV)=eV (.mk xk xn xt xa xc) from rfl,eV]at cf;rw[eV]at tk;obtain⟨b,S2,r2⟩:=Q
     cases b with
     |false=>
      have hrr:=GG ht;cases hF;dsimp only at tk ⊢;rw[hrr,iu hr];obtain⟨r1,r2,r3,r4,r5,r6,r7,⟨c1,c2',c3,c4,c5⟩,⟨wk,wn,wt,wa,wc⟩,⟨o1,o2,o3,o4,o5,o6,o7,o8⟩,⟨p1,p2,p3,p4,p5⟩,r12⟩:=r;dsimp only at cf tk;unfold hA iE dX at *;rw[eO];dsimp only at *;refine av.intro (ah Tryz.prog) aC Tryz.func227 rfl (by rfl) (by kernel_rfl) (by show 2≤_;decide) rfl ?_;(conv=>whnf);refine bC cP hr rfl ?_;(conv=>whnf);refine bD (show(!(r6==1))=false by rw[show(r6==1)=true from hmd];rfl) ?_;(conv=>whnf);refine bC cP hr rfl ?_;(conv=>whnf);refine bh [1000000008,1000000009,1000000002,1000000003] 300 cf ?_;(conv=>whnf);refine ag (.inl (by kernel_rfl)) ?_;(conv=>whnf);refine bC cP hr rfl ?_;(conv=>whnf);refine bh iA 300 tk ?_;(conv=>whnf);refine ag (.inl (by kernel_rfl)) ?_;(conv=>whnf);refine⟨.inl rfl,⟨s6,s6,s6,s6,s6,s6,s6,s6,s6,s6,s6,s6,s6,s6,s6,s6,trivial⟩⟩
     |true=>
      cases hF;dsimp only at tk ⊢;have hr2:aK k (aW k r2 zr.2)=some r2:=cx hr;obtain⟨r1,r2',r3,r4,r5,r6,r7,⟨c1,c2',c3,c4,c5⟩,⟨wk,wn,wt,wa,wc⟩,⟨o1,o2,o3,o4,o5,o6,o7,o8⟩,⟨p1,p2,p3,p4,p5⟩,r12⟩:=r;obtain⟨b1,b2,b3,b4,b5,b6,b7,⟨d1,d2,d3,d4,d5⟩,⟨yk,yn,yt,ya,yc⟩,⟨l1,l2,l3,l4,l5,l6,l7,l8⟩,⟨e1,e2,e3,e4,e5⟩,b12⟩:=r2;dsimp only at cf tk;unfold hA iE dX at *;rw[eO];dsimp only at *;refine av.intro (ah Tryz.prog) aC Tryz.func227 rfl (by rfl) (by kernel_rfl) (by show 2≤_;decide) rfl ?_;(conv=>whnf);refine bC cP hr rfl ?_;(conv=>whnf);refine bD (show(!(r6==1))=false by rw[show(r6==1)=true from hmd];rfl) ?_;(conv=>whnf);refine bC cP hr rfl ?_;(conv=>whnf);refine bh [1000000008,1000000009,1000000002,1000000003] 300 cf ?_;(conv=>whnf);refine ag (.inl (by kernel_rfl)) ?_;(conv=>whnf);refine bC cP hr rfl ?_;(conv=>whnf);refine bh iA 300 tk ?_;(conv=>whnf);refine ag (.inl (by kernel_rfl)) ?_;(conv=>whnf);refine bC cP hr2 rfl ?_;(conv=>whnf);refine⟨.inl rfl,⟨⟨rfl,rfl,rfl,rfl,rfl,?_⟩,s6,s6,s6,s6,s6,s6,s6,s6,s6,s6,s6,s6,s6,s6,s6,trivial⟩⟩;exact(bM cP k ⟨b1,b2,b3,b4,b5,0,b7,⟨d1,d2,d3,d4,d5⟩,.mk yk yn yt ya yc,⟨l1,l2,l3,l4,l5,l6,l7,l8⟩,⟨e1,e2,e3,e4,e5⟩,b12⟩ _).trans (by rw[cT])
theorem I9 (K:Ks) (S:Ss) (zr:bf Rn) (k:Nat) (r:Rn) (v:Ov) (R:Ss×Rn) (hr:aK k zr.2=some r) (hF:tG K S r v=some R):
 av Tryz.prog 225 [.p (.bH rS k),.p (eO v)] (hA K S zr) (.cA []) (hA K R.1 (zr.1,aW k R.2 zr.2)):=by
 unfold tG at hF
 cases hmd:r.mode==2 with
 |false=>
  rw[hmd]at hF;cases hF;dsimp only;rw[iu hr];obtain⟨vk,vn,vt,va⟩:=v;obtain⟨r1,r2,r3,r4,r5,r6,r7,⟨c1,c2,c3,c4,c5⟩,⟨wk,wn,wt,wa,wc⟩,⟨o1,o2,o3,o4,o5,o6,o7,o8⟩,⟨p1,p2,p3,p4,p5⟩,r12⟩:=r;unfold hA iE;rw[eO];refine av.intro (ah Tryz.prog) aC Tryz.func225 rfl (by rfl) (by kernel_rfl) (by show 2≤_;decide) rfl ?_;(conv=>whnf);refine bC cP hr rfl ?_;(conv=>whnf);refine dw (show(!(r6==2))=true by rw[hmd];rfl) ?_;(conv=>whnf);refine⟨.inl rfl,⟨s6,s6,s6,s6,s6,s6,s6,s6,s6,s6,s6,s6,s6,s6,s6,s6,trivial⟩⟩
 |true=>
  rw[hmd]at hF;dsimp only at hF
  cases hf:gQ K r.maker (yw v) v S.c with
  |none=>rw[hf]at hF;cases hF
  |some x=>
   rw[hf]at hF;have cf:=Cg K r.maker _ v S.c x hf;obtain⟨x,c2⟩:=x;obtain⟨vk,vn,vt,va⟩:=v;rw[eO]at cf;unfold Nv KF MM at cf
   cases x with
   |none=>
    cases hF;rw[show eV (Option.getD (none,c2).1 zV)=eV zV from rfl]at cf;unfold zV at cf;rw[eV]at cf;dsimp only;rw[iu hr];obtain⟨r1,r2,r3,r4,r5,r6,r7,⟨c1,c2',c3,c4,c5⟩,⟨wk,wn,wt,wa,wc⟩,⟨o1,o2,o3,o4,o5,o6,o7,o8⟩,⟨p1,p2,p3,p4,p5⟩,r12⟩:=r;dsimp only at cf;unfold hA iE;rw[eO];refine av.intro (ah Tryz.prog) aC Tryz.func225 rfl (by rfl) (by kernel_rfl) (by show 2≤_;decide) rfl ?_;(conv=>whnf);refine bC cP hr rfl ?_;(conv=>whnf);refine bD (show(!(r6==2))=false by rw[show(r6==2)=true from hmd];rfl) ?_;(conv=>whnf);refine bC cP hr rfl ?_;(conv=>whnf);refine bh [1000000008,1000000009,1000000002,1000000003] 300 cf ?_;(conv=>whnf);refine ag (.inl (by kernel_rfl)) ?_;(conv=>whnf);refine⟨.inl rfl,⟨s6,s6,s6,s6,s6,s6,s6,s6,s6,s6,s6,s6,s6,s6,s6,s6,trivial⟩⟩
   |some x=>
    cases hF;have gv:=jq (zr.1,aW k { r with mode:=0 } zr.2) k x { r with mode:=0 } (cx hr);obtain⟨xk,xn,xt,xa,xc⟩:=x;rw[show eV (Option.getD (some (Vl.mk xk xn xt xa xc),c2).1 zV)=eV (.mk xk xn xt xa xc) from rfl,eV]at cf;rw[eV,cT]at gv;unfold jS;obtain⟨r1,r2,r3,r4,r5,r6,r7,⟨c1,c2',c3,c4,c5⟩,⟨wk,wn,wt,wa,wc⟩,⟨o1,o2,o3,o4,o5,o6,o7,o8⟩,⟨p1,p2,p3,p4,p5⟩,r12⟩:=r;dsimp only at cf gv ⊢;unfold hA iE at *;rw[←bM cP k]at gv;rw[eO];refine av.intro (ah Tryz.prog) aC Tryz.func225 rfl (by rfl) (by kernel_rfl) (by show 2≤_;decide) rfl ?_;(conv=>whnf);refine bC cP hr rfl ?_;(conv=>whnf);refine bD (show(!(r6==2))=false by rw[show(r6==2)=true from hmd];rfl) ?_;(conv=>whnf);refine bC cP hr rfl ?_;(conv=>whnf);refine bh [1000000008,1000000009,1000000002,1000000003] 300 cf ?_;(conv=>whnf);refine ag (.inl (by kernel_rfl)) ?_;(conv=>whnf);refine bC cP hr rfl ?_;(conv=>whnf);refine bh [1000000000] 300 gv ?_;(conv=>whnf);refine⟨.inl rfl,⟨s6,s6,s6,s6,s6,s6,s6,s6,s6,s6,s6,s6,s6,s6,s6,s6,trivial⟩⟩
theorem I2 (K:Ks) (S:Ss) (zr:bf Rn) (k:Nat) (r R:Rn) (hr:aK k zr.2=some r) (hF:vF K r=some R):
 av Tryz.prog 226 [.p (.bH rS k)] (hA K S zr) (.cA []) (hA K S (zr.1,aW k R zr.2)):=by
 unfold vF at hF
 cases hmd:r.mode==1 with
 |false=>
  rw[hmd]at hF;cases hF;rw[iu hr];obtain⟨r1,r2,r3,r4,r5,r6,r7,⟨c1,c2,c3,c4,c5⟩,⟨wk,wn,wt,wa,wc⟩,⟨o1,o2,o3,o4,o5,o6,o7,o8⟩,⟨p1,p2,p3,p4,p5⟩,r12⟩:=r;unfold hA iE;refine av.intro (ah Tryz.prog) aC Tryz.func226 rfl (by rfl) (by kernel_rfl) (by show 1≤_;decide) rfl ?_;(conv=>whnf);refine bC cP hr rfl ?_;(conv=>whnf);refine dw (show(!(r6==1))=true by rw[hmd];rfl) ?_;(conv=>whnf);refine⟨.inl rfl,⟨s6,s6,s6,s6,s6,s6,s6,s6,s6,s6,s6,s6,s6,s6,s6,s6,trivial⟩⟩
 |true=>
  rw[hmd]at hF;dsimp only at hF;have hm:=hmd;have hev:=fun j r'=>jr (zr.1,aW k r' zr.2) k j r'.pause r'.pause.sc r' (cx hr);unfold hA iE dX at *
  cases hn:decide (r.last.num<0) with
  |true=>
   rw[hn]at hF;cases hF;rw[iu hr];obtain⟨r1,r2,r3,r4,r5,r6,r7,⟨c1,c2,c3,c4,c5⟩,⟨wk,wn,wt,wa,wc⟩,⟨o1,o2,o3,o4,o5,o6,o7,o8⟩,⟨p1,p2,p3,p4,p5⟩,r12⟩:=r;refine av.intro (ah Tryz.prog) aC Tryz.func226 rfl (by rfl) (by kernel_rfl) (by show 1≤_;decide) rfl ?_;(conv=>whnf);refine bC cP hr rfl ?_;(conv=>whnf);refine bD (show(!(r6==1))=false by rw[show(r6==1)=true from hmd];rfl) ?_;(conv=>whnf);refine bC cP hr rfl ?_;(conv=>whnf);refine dw hn ?_;(conv=>whnf);refine⟨.inl rfl,⟨s6,s6,s6,s6,s6,s6,s6,s6,s6,s6,s6,s6,s6,s6,s6,s6,trivial⟩⟩
  |false=>
   rw[hn]at hF;dsimp only at hF;obtain⟨r1,r2,r3,r4,r5,r6,r7,⟨c1,c2,c3,c4,c5⟩,⟨wk,wn,wt,wa,wc⟩,⟨o1,o2,o3,o4,o5,o6,o7,o8⟩,⟨p1,p2,p3,p4,p5⟩,r12⟩:=r;unfold dA at hF
   cases p1 with
   |none=>cases hF
   |some p1=>
    dsimp only at hF
    cases hnd:aK p1 K.n.2 with
    |none=>rw[hnd]at hF;cases hF
    |some n=>
     rw[hnd]at hF;obtain⟨n1,n2,n3,n4,n5,n6,n7,n8,n9⟩:=n;dsimp only at hF;unfold ja at hF
     cases n5 with
     |none=>cases hF
     |some q=>
      obtain⟨q1,q2⟩:=q;dsimp only at hF
      cases hlt:Nat.blt 0 q2 with
      |false=>rw[hlt]at hF;cases hF
      |true=>
       rw[hlt]at hF;dsimp only at hF
       cases ha:aK q1 K.a.2 with
       |none=>rw[ha]at hF;cases hF
       |some al=>
        rw[ha]at hF;dsimp only at hF
        cases hj:al[0]? with
        |none=>rw[hj]at hF;cases hF
        |some j=>
         rw[hj]at hF;cases hF;have hev:=hev j ⟨r1,r2,r3,r4,r5,0,r7,⟨c1,c2,c3,c4,c5⟩,.mk wk wn wt wa wc,⟨o1,o2,o3,o4,o5,o6,o7,o8⟩,⟨some p1,p2,p3,p4,p5⟩,r12⟩;rw[cT,←bM cP k]at hev;rw[Nat.blt_eq]at hlt;unfold jU;dsimp only at hev ⊢;refine av.intro (ah Tryz.prog) aC Tryz.func226 rfl (by rfl) (by kernel_rfl) (by show 1≤_;decide) rfl ?_;(conv=>whnf);refine bC cP hr rfl ?_;(conv=>whnf);refine bD (show(!(r6==1))=false by rw[show(r6==1)=true from hmd];rfl) ?_;(conv=>whnf);refine bC cP hr rfl ?_;(conv=>whnf);refine bD hn ?_;(conv=>whnf);refine bC cP hr rfl ?_;(conv=>whnf);refine ag ⟨rfl,by decide,.inl rfl⟩ ?_;refine⟨_,aJ (aq hr),?_⟩;refine au (i:=0) rfl ?_;(conv=>whnf);refine ag ⟨rfl,by decide,.inl rfl⟩ ?_;refine⟨_,aq hnd,?_⟩;refine au (i:=0) rfl ?_;(conv=>whnf);refine ag ⟨by omega,hlt⟩ ?_;(conv=>whnf);refine ag ⟨rfl,by decide,.inr rfl⟩ ?_;refine⟨_,aq ha,?_⟩;refine au (i:=0) (x:=.bH nS j) (by unfold ry;rw[List.getElem?_map,hj];rfl) ?_;(conv=>whnf);refine ag ⟨rfl,by decide,.inl rfl⟩ ?_;refine⟨_,aJ (aq hr),?_⟩;refine au (i:=0) rfl ?_;(conv=>whnf);refine ag ⟨rfl,by decide,.inl rfl⟩ ?_;refine⟨_,aJ (aq hr),?_⟩;refine au (i:=0) rfl ?_;(conv=>whnf);refine bh [1000000000] 300 hev ?_;(conv=>whnf);refine ag (.inl (by kernel_rfl)) ?_;(conv=>whnf);refine⟨.inl rfl,⟨s6,s6,s6,s6,s6,s6,s6,s6,s6,s6,s6,s6,s6,s6,s6,s6,trivial⟩⟩
end MN
end
section
open Go Go.AM Go.Proofs TK
set_option maxRecDepth 100000
namespace MN
def Fe (k n:Int):Int:=k % n
theorem Iw (k n:Int) (hn:0<n):(bif decide (k.tmod n<0) then k.tmod n+n else k.tmod n)=k % n:=by
 have h1:=Int.emod_nonneg k (show n≠0 by omega);have h2:=Int.emod_lt_of_pos k hn;rw[Int.tmod_eq_emod]
 by_cases h:0≤k∨n ∣ k
 ·have e:k % n-((0:Nat):Int)=k % n:=by omega
  rw[if_pos h,e,decide_eq_false (by omega)];rfl
 ·rw[if_neg h,decide_eq_true (by omega),cond_true];omega
theorem Lw (k n:Int) (hn:0<n):-n<k.tmod n∧k.tmod n<n:=by
 have h1:=Int.emod_nonneg k (show n≠0 by omega);have h2:=Int.emod_lt_of_pos k hn;rw[Int.tmod_eq_emod]
 by_cases h:0≤k∨n ∣ k
 ·rw[if_pos h];omega
 ·rw[if_neg h]
  have h3:k % n≠0:=fun e=>h (.inr (Int.dvd_of_emod_eq_zero e));omega
theorem FY (k n:Int) (hn:0<n) (h2:n≤1000000):aV Tryz.prog 31 [.p (.i .i64 k),.p (.i .i64 n)] (.p (.i .i64 (Fe k n))):=by
 have h3:=Iw k n hn;have h4:=Lw k n hn;unfold Fe;refine aV.intro (ah Tryz.prog) aC Tryz.func31 rfl (by rfl) (by kernel_rfl) (by show 2≤_;decide) rfl ?_;(conv=>whnf);refine ag (show IntKind.i64=IntKind.i64∧n≠0 from⟨rfl,by omega⟩) ?_;(conv=>whnf);refine aj ?_ ?_<;>intro h1<;>conv=>whnf
 ·replace h1:decide (k.tmod n<0)=true:=h1
  rw[h1,cond_true]at h3;refine .inl (pi ?_);rw[←h3];exact wrap64 (by omega) (by omega)
 ·replace h1:decide (k.tmod n<0)=false:=h1
  rw[h1,cond_false]at h3;exact .inl (pi h3)
theorem DR (k n:Int) (hn:0<n) (h2:n≤1000000):aV Tryz.prog 16 [.p (.i .i64 k),.p (.i .i64 n)] (.p (.i .i64 (Fe k n))):=by
 have h:=FY k n hn h2;generalize Fe k n=r at h;refine aV.intro (ah Tryz.prog) aC Tryz.func16 rfl (by rfl) (by kernel_rfl) (by show 2≤_;decide) rfl ?_;(conv=>whnf);refine jA h ?_;(conv=>whnf);exact .inl rfl
end MN
end
section
open Go Go.AM Go.Proofs TK
set_option maxRecDepth 100000
namespace MN
def HE:mK→PV
 |⟨s,.mk k n t l⟩=>.agg [.i .i64 s,.i .i64 k,.i .i64 n,.s t,.sl 4 (gK l)]
def eX (l:List mK):List PV:=l.map HE
def sC (l:List Ou):List PV:=l.map fun o=>.agg (AW o)
theorem Dv (l:List Ou) (o:Ou):sC (l++[o])=sC l++[.agg (AW o)]:=by unfold sC;simp
def xd (R:Option (List Ou)):AV:=.cA [.p (.sl 8 (sC (R.getD []))),.p (.b R.isSome)]
def Pk (zr:bf Rn):Option Rn→bf Rn
 |none=>zr
 |some r=>(zr.1+1,(zr.1,r)::zr.2)
def mz (n:Int):PV:=.i .i64 n
theorem DC:∀(fuels:List Int) (j:Nat),1≤cR fuels j∧cR fuels j≤400
 | [],_=>⟨by show(1:Int)≤400;decide,by show(400:Int)≤400;decide⟩
 |a::b,j=>by
  unfold cR;dsimp only;have h1:=Int.emod_nonneg (((a::b)[j % (b.length+1)]?).getD 0) (show(400:Int)≠0 by decide);have h2:=Int.emod_lt_of_pos (((a::b)[j % (b.length+1)]?).getD 0) (show(0:Int)<400 by decide);rw[wrap64 (by omega) (by omega)];omega
theorem HX (K:Ks) (S:Ss) (zr:bf Rn) (m:Nat) (name:ByteArray) (st:List Ov) (fuels:List Int) (l:List mK) (S1:Ss) (e:Int) (he:(e==0)=false) (hmk:lI K S m name st 7=some (S1,.error e)):
 av Tryz.prog 13 [.p (.uq 35 (.bH mS m)),.p (.s name),.p (.sl 4 (gK st)),.p (.sl 1 (fuels.map mz)),.p (.sl 5 (eX l))] (hA K S zr) (xd none) (hA K S1 zr):=by
 have hm:=sy K S zr m name st 7 _ hmk;dsimp only[F6,GO]at hm;unfold hA at *;refine av.intro (ah Tryz.prog) aC Tryz.func13 rfl (by rfl) (by kernel_rfl) (by show 5≤_;decide) rfl ?_;(conv=>whnf);refine bh iA 300 hm ?_;(conv=>whnf);refine dw (show(!(e==0))=true by rw[he];rfl) ?_;(conv=>whnf);refine⟨.inl rfl,⟨s6,s6,s6,s6,s6,s6,s6,s6,s6,s6,s6,s6,s6,s6,s6,s6,trivial⟩⟩
theorem xC (K:Ks) (S:Ss) (zr:bf Rn) (m:Nat) (name:ByteArray) (st:List Ov) (l:List mK) (S1:Ss) (r1:Rn) (R:Option (List Ou)×Ss×Rn) (hmk:lI K S m name st 7=some (S1,.ok r1)) (hP:eW K [] 60001 0 S1 r1 1000 0 l []=some R):
 av Tryz.prog 13 [.p (.uq 35 (.bH mS m)),.p (.s name),.p (.sl 4 (gK st)),.p (.sl 1 []),.p (.sl 5 (eX l))] (hA K S zr) (xd R.1) (hA K R.2.1 (zr.1+1,(zr.1,R.2.2)::zr.2)):=by
 have hm:=sy K S zr m name st 7 _ hmk;dsimp only[F6,GO]at hm;have hr0:aK zr.1 ((zr.1,r1)::zr.2)=some r1:=aQ _ _ _;unfold hA at hm ⊢;refine av.intro (ah Tryz.prog) aC Tryz.func13 rfl (by rfl) (by kernel_rfl) (by show 5≤_;decide) rfl ?_;(conv=>whnf);refine bh iA 300 hm ?_;(conv=>whnf);refine nW 14 7 rfl ?_;refine bL (ah _) aC (by kernel_rfl) 60001 [3,4,12,14,15,16,17] iA (fun j (z:Ss×Rn×List mK×List Ou×Int×Int)=>[.p (.sl 1 (([]:List Int).map mz)),.p (.sl 5 (eX z.2.2.1)),.p (.uq 132 (.bH rS zr.1)),.so 8 (sC z.2.2.2.1),.p (.i .i64 z.2.2.2.2.1),.p (.i .i64 z.2.2.2.2.2),.p (.i .i64 (ix j))]) (fun j z=>B5 K z.1 (zr.1+1,(zr.1,z.2.1)::zr.2)) (fun j z=>(z.2.2.2.1.length≤j∧(j:Int)≤z.2.2.2.2.2)∧eW K ([]:List Int) (60001-j) j z.1 z.2.1 z.2.2.2.2.1 z.2.2.2.2.2 z.2.2.1 z.2.2.2.1=some R) (S1,r1,l,[],1000,0) ⟨rfl,rfl,rfl,rfl⟩ ⟨⟨by simp,by simp⟩,hP⟩ ?_;intro j z hj hz;obtain⟨S2,r2,l2,o2,rf,u⟩:=z;have hol:=(And.left hz).1;have hu:=(And.left hz).2;have hQ:=And.right hz;clear hz;dsimp only at hol hu hQ;have hfl:=DC ([]:List Int) j;(conv=>whnf);refine aj ?_ ?_<;>intro h1<;>conv=>whnf
 rotate_left
 ·cases hn:60001-j with
  |zero=>rw[hn]at hQ;cases hQ
  |succ n=>
  rw[hn,eW,h1]at hQ;cases hQ;rw[show xd none=.cA [.p (.sl 8 []),.p (.b false)] from rfl];refine⟨.inl rfl,⟨s6,s6,s6,s6,s6,s6,s6,s6,s6,s6,s6,s6,s6,s6,s6,s6,trivial⟩⟩
 have h1':u<60000:=of_decide_eq_true h1;obtain⟨n,hn⟩:∃n,60001-j=n+1:=⟨60000-j,by omega⟩
 have hj1:j<60001:=by omega
 rw[hn,eW,h1]at hQ;dsimp only at hQ;have hw:((j+1:Nat):Int)≤IntKind.i64.wrap (u+cR ([]:List Int) j):=by rw[wrap64 (by omega) (by omega)];omega
 cases hrun:u9 K (cR ([]:List Int) j).toNat S2 r2 with
 |none=>rw[hrun]at hQ;cases hQ
 |some Q=>
  rw[hrun]at hQ;have hrs:=DB K S2 (zr.1+1,(zr.1,r2)::zr.2) zr.1 r2 (cR ([]:List Int) j).toNat Q (aQ _ _ _) (by omega) hrun;dsimp only at hrs;rw[dL]at hrs;obtain⟨⟨q1,q2,q3,q4,q5,q6,q7,q8⟩,S3,r3⟩:=Q;unfold hA AW at hrs;dsimp only at hrs hQ;rw[show((cR [] j).toNat:Int)=400 from rfl]at hrs;rw[show cR [] j=400 from rfl]at hQ hw;refine bh iA 300 hrs ?_;(conv=>whnf);generalize hu2:IntKind.i64.wrap (u+400)=u2 at hQ hw ⊢;have hn1:60001-(j+1)=n:=by omega
  refine aj ?_ ?_<;>intro k1<;>conv=>whnf
  ·rw[show(q1==1)=true from k1]at hQ
   exact⟨hj1,(S3,r3,l2,o2,rf,u2),⟨rfl,rfl,rfl,rfl⟩,⟨⟨(by dsimp only;omega),hw⟩,by dsimp only;rw[hn1];exact hQ⟩⟩
  rw[show(q1==1)=false from k1]at hQ;dsimp only at hQ;have hel:(sC o2).length=o2.length:=by unfold sC;simp
  refine ag (Nat.le_trans (Nat.mul_le_mul_right _ (show(sC o2).length+1≤2000001 by rw[hel];omega)) (Nat.le_of_ble_eq_true (by kernel_rfl))) ?_;(conv=>whnf);have hsn:=Dv o2 ⟨q1,q2,q3,q4,q5,q6,q7,q8⟩;have hsl:(o2++[(⟨q1,q2,q3,q4,q5,q6,q7,q8⟩:Ou)]).length≤j+1:=by simp;omega
  unfold AW at hsn;dsimp only at hsn;have hpr:xd (some (o2++[(⟨q1,q2,q3,q4,q5,q6,q7,q8⟩:Ou)]))=.cA [.p (.sl 8 (sC o2++[.agg [.i .i64 q1,.i .i64 q2,.s q3,.i .i64 q4,.i .i64 q5,.s q6,.sl 4 (gK q7),.sl 4 (gK q8)]])),.p (.b true)]:=by rw[←hsn];rfl
  refine aj ?_ ?_<;>intro k8<;>conv=>whnf
  ·rw[show(q1==8)=true from k8]at hQ
   cases hQ;refine dw k8 ?_;(conv=>whnf);rw[hpr];refine⟨.inl rfl,⟨s6,s6,s6,s6,s6,s6,s6,s6,s6,s6,s6,s6,s6,s6,s6,s6,trivial⟩⟩
  rw[show(q1==8)=false from k8,Bool.false_or]at hQ;refine aj ?_ ?_<;>intro k9<;>conv=>whnf
  ·rw[show(q1==9)=true from k9]at hQ
   cases hQ;rw[hpr];refine⟨.inl rfl,⟨s6,s6,s6,s6,s6,s6,s6,s6,s6,s6,s6,s6,s6,s6,s6,s6,trivial⟩⟩
  rw[show(q1==9)=false from k9]at hQ;dsimp only at hQ;generalize hO2:(o2++[(⟨q1,q2,q3,q4,q5,q6,q7,q8⟩:Ou)])=O2 at hQ hsn hsl;refine aj ?_ ?_<;>intro k4<;>conv=>whnf
  ·rw[show(q1==4)=true from k4]at hQ
   dsimp only at hQ
   cases hgv:tG K S3 r3 (.mk 6 (IntKind.i64.wrap (rf+1)) ⟨#[]⟩ []) with
   |none=>rw[hgv]at hQ;cases hQ
   |some G=>
    rw[hgv]at hQ;have hgs:=I9 K S3 (zr.1+1,(zr.1,r3)::zr.2) zr.1 r3 _ G (aQ _ _ _) hgv;rw[eO]at hgs;dsimp only at hgs;rw[dL]at hgs;obtain⟨S4,r4⟩:=G;unfold hA at hgs;refine bh iA 300 hgs ?_;(conv=>whnf);refine⟨hj1,(S4,r4,l2,O2,IntKind.i64.wrap (rf+1),u2),⟨rfl,?_,rfl,rfl⟩,⟨⟨hsl,hw⟩,by dsimp only;rw[hn1];exact hQ⟩⟩;dsimp only;rw[hsn];rfl
  rw[show(q1==4)=false from k4]at hQ;dsimp only at hQ;refine aj ?_ ?_<;>intro k7<;>conv=>whnf
  rotate_left
  ·rw[show(q1==7)=false from k7]at hQ
   refine⟨hj1,(S3,r3,l2,O2,rf,u2),⟨rfl,?_,rfl,rfl⟩,⟨⟨hsl,hw⟩,by dsimp only;rw[hn1];exact hQ⟩⟩;dsimp only;rw[hsn];rfl
  rw[show(q1==7)=true from k7]at hQ;dsimp only at hQ
  cases hof:eK K q2 S3 r3 l2 with
  |none=>rw[hof]at hQ;cases hQ
  |some P=>
   rw[hof]at hQ;refine bL (ah _) aC (by kernel_rfl) l2.length [3,4,12,14,15,16,17,19,20] (19::iA) (fun i (z:Ss×Rn×List mK×Bool)=>[.p (.sl 1 (([]:List Int).map mz)),.p (.sl 5 (eX z.2.2.1)),.p (.uq 132 (.bH rS zr.1)),.so 8 (sC O2),.p (.i .i64 rf),.p (.i .i64 u2),.p (.i .i64 (ix j)),.ptr 19 0,.p (.b z.2.2.2)]) (fun i z=>.cells [.p (.i .i64 q1),.p (.i .i64 q2),.p (.s q3),.p (.i .i64 q4),.p (.i .i64 q5),.p (.s q6),.p (.sl 4 (gK q7)),.p (.sl 4 (gK q8))]::B5 K z.1 (zr.1+1,(zr.1,z.2.1)::zr.2)) (fun i z=>z.2.2.1.length+i=l2.length∧(match z.2.2.2 with|true=>P=(true,z.1,z.2.1,z.2.2.1)|false=>eK K q2 z.1 z.2.1 z.2.2.1=some P)) (S3,r3,l2,false) ⟨rfl,by dsimp only;rw[hsn];rfl,rfl,rfl⟩ ⟨by simp,hof⟩ ?_;intro i z hi hz;obtain⟨S4,r4,l4,b4⟩:=z;have hz1:=And.left hz;have hz2:=And.right hz;clear hz;dsimp only at hz1 hz2
   cases l4 with
   |nil=>
    conv=>whnf
    cases b4 with
    |true=>
     dsimp only at hz2;subst hz2;(conv=>whnf);refine⟨hj1,(S4,r4,[],O2,rf,u2),⟨rfl,rfl,rfl,rfl⟩,⟨⟨hsl,hw⟩,by dsimp only;rw[hn1];exact hQ⟩⟩
    |false=>
     rw[eK]at hz2;cases hz2;cases hQ;(conv=>whnf);rw[show xd (some O2)=.cA [.p (.sl 8 (sC O2)),.p (.b true)] from rfl];refine⟨.inl rfl,⟨s6,s6,s6,s6,s6,s6,s6,s6,s6,s6,s6,s6,s6,s6,s6,s6,trivial⟩⟩
   |cons v l4=>
    obtain⟨sk,vk,vn,vt,va⟩:=v;have hgt:decide (((eX (⟨sk,.mk vk vn vt va⟩::l4)).length:Int)>0)=true:=decide_eq_true (by simp[eX])
    cases b4 with
    |true=>
     dsimp only at hz2;subst hz2;(conv=>whnf);refine dw hgt ?_;(conv=>whnf);refine⟨hj1,(S4,r4,(⟨sk,.mk vk vn vt va⟩::l4),O2,rf,u2),⟨rfl,rfl,rfl,rfl⟩,⟨⟨hsl,hw⟩,by dsimp only;rw[hn1];exact hQ⟩⟩
    |false=>
     dsimp only at hz2;rw[eK]at hz2;dsimp only at hz2;have hds:List.drop (Int.toNat 1) (List.take ((eX (⟨sk,.mk vk vn vt va⟩::l4)).length:Int).toNat (eX (⟨sk,.mk vk vn vt va⟩::l4)))=eX l4:=by rw[Int.toNat_natCast,List.take_length];rfl
     (conv=>whnf);refine dw hgt ?_;(conv=>whnf);refine au (i:=0) (x:=.agg [.i .i64 sk,.i .i64 vk,.i .i64 vn,.s vt,.sl 4 (gK va)]) rfl ?_;(conv=>whnf);refine ag ⟨by decide,by simp[eX];omega,by simp⟩ ?_;rw[hds];(conv=>whnf);refine aj ?_ ?_<;>intro s1<;>conv=>whnf
     ·rw[show(sk==1)=true from s1]at hz2
      dsimp only at hz2;refine aj ?_ ?_<;>intro s2<;>conv=>whnf
      ·rw[show decide (q2≥0)=true from s2]at hz2
       dsimp only at hz2
       cases hlt:vF K r4 with
       |none=>rw[hlt]at hz2;cases hz2
       |some r5=>
        rw[hlt]at hz2;have hls:=I2 K S4 (zr.1+1,(zr.1,r4)::zr.2) zr.1 r4 r5 (aQ _ _ _) hlt;dsimp only at hls;rw[dL]at hls;unfold hA at hls;refine bh iA 300 hls ?_;(conv=>whnf);cases hz2;refine⟨by rw[←hz1];simp,(S4,r5,l4,true),⟨rfl,rfl,rfl,rfl⟩,⟨by dsimp only;rw[←hz1];simp;omega,rfl⟩⟩
      ·rw[show decide (q2≥0)=false from s2]at hz2
       refine bD (show(!(sk==1))=false by rw[show(sk==1)=true from s1];rfl) ?_;(conv=>whnf);refine⟨by rw[←hz1];simp,(S4,r4,l4,false),⟨rfl,rfl,rfl,rfl⟩,⟨by dsimp only;rw[←hz1];simp;omega,hz2⟩⟩
     ·rw[show(sk==1)=false from s1]at hz2
      dsimp only at hz2
      cases hv:pU K S4 r4 (.mk vk vn vt va) with
      |none=>rw[hv]at hz2;cases hz2
      |some V=>
       rw[hv]at hz2;have hvs:=He K S4 (zr.1+1,(zr.1,r4)::zr.2) zr.1 r4 _ V (aQ _ _ _) hv;dsimp only at hvs;rw[dL]at hvs;obtain⟨b,S5,r5⟩:=V;rw[eO]at hvs;unfold hA at hvs;dsimp only at hvs;refine dw (show(!(sk==1))=true by rw[show(sk==1)=false from s1];rfl) ?_;(conv=>whnf);refine bh iA 300 hvs ?_;(conv=>whnf);refine⟨by rw[←hz1];simp,(S5,r5,l4,b),⟨rfl,rfl,rfl,rfl⟩,⟨by dsimp only;rw[←hz1];simp;omega,(by dsimp only;cases b with|true=>cases hz2;rfl|false=>exact hz2)⟩⟩
theorem DI (K:Ks) (S:Ss) (zr:bf Rn) (m:Nat) (name:ByteArray) (st:List Ov) (a:Int) (b:List Int) (hab:(a::b).length≤2000000) (l:List mK) (S1:Ss) (r1:Rn) (R:Option (List Ou)×Ss×Rn) (hmk:lI K S m name st 7=some (S1,.ok r1)) (hP:eW K (a::b) 60001 0 S1 r1 1000 0 l []=some R):
 av Tryz.prog 13 [.p (.uq 35 (.bH mS m)),.p (.s name),.p (.sl 4 (gK st)),.p (.sl 1 ((a::b).map mz)),.p (.sl 5 (eX l))] (hA K S zr) (xd R.1) (hA K R.2.1 (zr.1+1,(zr.1,R.2.2)::zr.2)):=by
 have hm:=sy K S zr m name st 7 _ hmk;dsimp only[F6,GO]at hm;have hr0:aK zr.1 ((zr.1,r1)::zr.2)=some r1:=aQ _ _ _;unfold hA at hm ⊢;refine av.intro (ah Tryz.prog) aC Tryz.func13 rfl (by rfl) (by kernel_rfl) (by show 5≤_;decide) rfl ?_;(conv=>whnf);refine bh iA 300 hm ?_;(conv=>whnf);refine nW 14 7 rfl ?_;refine bL (ah _) aC (by kernel_rfl) 60001 [3,4,12,14,15,16,17] iA (fun j (z:Ss×Rn×List mK×List Ou×Int×Int)=>[.p (.sl 1 ((a::b).map mz)),.p (.sl 5 (eX z.2.2.1)),.p (.uq 132 (.bH rS zr.1)),.so 8 (sC z.2.2.2.1),.p (.i .i64 z.2.2.2.2.1),.p (.i .i64 z.2.2.2.2.2),.p (.i .i64 (ix j))]) (fun j z=>B5 K z.1 (zr.1+1,(zr.1,z.2.1)::zr.2)) (fun j z=>(z.2.2.2.1.length≤j∧(j:Int)≤z.2.2.2.2.2)∧eW K (a::b) (60001-j) j z.1 z.2.1 z.2.2.2.2.1 z.2.2.2.2.2 z.2.2.1 z.2.2.2.1=some R) (S1,r1,l,[],1000,0) ⟨rfl,rfl,rfl,rfl⟩ ⟨⟨by simp,by simp⟩,hP⟩ ?_;intro j z hj hz;obtain⟨S2,r2,l2,o2,rf,u⟩:=z;have hol:=(And.left hz).1;have hu:=(And.left hz).2;have hQ:=And.right hz;clear hz;dsimp only at hol hu hQ;have hfl:=DC (a::b) j;(conv=>whnf);refine aj ?_ ?_<;>intro h1<;>conv=>whnf
 rotate_left
 ·cases hn:60001-j with
  |zero=>rw[hn]at hQ;cases hQ
  |succ n=>
  rw[hn,eW,h1]at hQ;cases hQ;rw[show xd none=.cA [.p (.sl 8 []),.p (.b false)] from rfl];refine⟨.inl rfl,⟨s6,s6,s6,s6,s6,s6,s6,s6,s6,s6,s6,s6,s6,s6,s6,s6,trivial⟩⟩
 have h1':u<60000:=of_decide_eq_true h1;obtain⟨n,hn⟩:∃n,60001-j=n+1:=⟨60000-j,by omega⟩
 have hj1:j<60001:=by omega
 rw[hn,eW,h1]at hQ;dsimp only at hQ;have hw:((j+1:Nat):Int)≤IntKind.i64.wrap (u+cR (a::b) j):=by rw[wrap64 (by omega) (by omega)];omega
 cases hrun:u9 K (cR (a::b) j).toNat S2 r2 with
 |none=>rw[hrun]at hQ;cases hQ
 |some Q=>
  rw[hrun]at hQ;have hrs:=DB K S2 (zr.1+1,(zr.1,r2)::zr.2) zr.1 r2 (cR (a::b) j).toNat Q (aQ _ _ _) (by omega) hrun;dsimp only at hrs;rw[dL]at hrs;obtain⟨⟨q1,q2,q3,q4,q5,q6,q7,q8⟩,S3,r3⟩:=Q;unfold hA AW at hrs;dsimp only at hrs hQ;have hml:((a::b).map mz).length=b.length+1:=by simp
  simp only[List.length_cons]at hab;obtain⟨x,hx⟩:∃x,(a::b)[j % (b.length+1)]?=some x:=⟨_,List.getElem?_eq_getElem (by simp only[List.length_cons];exact Nat.mod_lt _ (by omega))⟩
  have hfe:cR (a::b) j=IntKind.i64.wrap (1+Fe x 400):=by unfold cR Fe;dsimp only;rw[hx];rfl
  have hwi:=DR x 400 (by decide) (by decide);have htm:(ix j).tmod ((b.length+1:Nat):Int)=((j % (b.length+1):Nat):Int):=by rw[nq (by omega)];rfl
  rw[show(((cR (a::b) j).toNat:Nat):Int)=cR (a::b) j by omega,hfe]at hrs;rw[hfe]at hQ hw;refine dw (decide_eq_true (by rw[hml];omega)) ?_;(conv=>whnf);refine ag ⟨rfl,by rw[hml];omega⟩ ?_;rw[hml,htm];(conv=>whnf);refine au (x:=.i .i64 x) (by rw[List.getElem?_map,hx];rfl) ?_;(conv=>whnf);refine jA hwi ?_;(conv=>whnf);refine bh iA 300 hrs ?_;(conv=>whnf);generalize hu2:IntKind.i64.wrap (u+(IntKind.i64.wrap (1+Fe x 400)))=u2 at hQ hw ⊢;have hn1:60001-(j+1)=n:=by omega
  refine aj ?_ ?_<;>intro k1<;>conv=>whnf
  ·rw[show(q1==1)=true from k1]at hQ
   exact⟨hj1,(S3,r3,l2,o2,rf,u2),⟨rfl,rfl,rfl,rfl⟩,⟨⟨(by dsimp only;omega),hw⟩,by dsimp only;rw[hn1];exact hQ⟩⟩
  rw[show(q1==1)=false from k1]at hQ;dsimp only at hQ;have hel:(sC o2).length=o2.length:=by unfold sC;simp
  refine ag (Nat.le_trans (Nat.mul_le_mul_right _ (show(sC o2).length+1≤2000001 by rw[hel];omega)) (Nat.le_of_ble_eq_true (by kernel_rfl))) ?_;(conv=>whnf);have hsn:=Dv o2 ⟨q1,q2,q3,q4,q5,q6,q7,q8⟩;have hsl:(o2++[(⟨q1,q2,q3,q4,q5,q6,q7,q8⟩:Ou)]).length≤j+1:=by simp;omega
  unfold AW at hsn;dsimp only at hsn;have hpr:xd (some (o2++[(⟨q1,q2,q3,q4,q5,q6,q7,q8⟩:Ou)]))=.cA [.p (.sl 8 (sC o2++[.agg [.i .i64 q1,.i .i64 q2,.s q3,.i .i64 q4,.i .i64 q5,.s q6,.sl 4 (gK q7),.sl 4 (gK q8)]])),.p (.b true)]:=by rw[←hsn];rfl
  refine aj ?_ ?_<;>intro k8<;>conv=>whnf
  ·rw[show(q1==8)=true from k8]at hQ
   cases hQ;refine dw k8 ?_;(conv=>whnf);rw[hpr];refine⟨.inl rfl,⟨s6,s6,s6,s6,s6,s6,s6,s6,s6,s6,s6,s6,s6,s6,s6,s6,trivial⟩⟩
  rw[show(q1==8)=false from k8,Bool.false_or]at hQ;refine aj ?_ ?_<;>intro k9<;>conv=>whnf
  ·rw[show(q1==9)=true from k9]at hQ
   cases hQ;rw[hpr];refine⟨.inl rfl,⟨s6,s6,s6,s6,s6,s6,s6,s6,s6,s6,s6,s6,s6,s6,s6,s6,trivial⟩⟩
  rw[show(q1==9)=false from k9]at hQ;dsimp only at hQ;generalize hO2:(o2++[(⟨q1,q2,q3,q4,q5,q6,q7,q8⟩:Ou)])=O2 at hQ hsn hsl;refine aj ?_ ?_<;>intro k4<;>conv=>whnf
  ·rw[show(q1==4)=true from k4]at hQ
   dsimp only at hQ
   cases hgv:tG K S3 r3 (.mk 6 (IntKind.i64.wrap (rf+1)) ⟨#[]⟩ []) with
   |none=>rw[hgv]at hQ;cases hQ
   |some G=>
    rw[hgv]at hQ;have hgs:=I9 K S3 (zr.1+1,(zr.1,r3)::zr.2) zr.1 r3 _ G (aQ _ _ _) hgv;rw[eO]at hgs;dsimp only at hgs;rw[dL]at hgs;obtain⟨S4,r4⟩:=G;unfold hA at hgs;refine bh iA 300 hgs ?_;(conv=>whnf);refine⟨hj1,(S4,r4,l2,O2,IntKind.i64.wrap (rf+1),u2),⟨rfl,?_,rfl,rfl⟩,⟨⟨hsl,hw⟩,by dsimp only;rw[hn1];exact hQ⟩⟩;dsimp only;rw[hsn];rfl
  rw[show(q1==4)=false from k4]at hQ;dsimp only at hQ;refine aj ?_ ?_<;>intro k7<;>conv=>whnf
  rotate_left
  ·rw[show(q1==7)=false from k7]at hQ
   refine⟨hj1,(S3,r3,l2,O2,rf,u2),⟨rfl,?_,rfl,rfl⟩,⟨⟨hsl,hw⟩,by dsimp only;rw[hn1];exact hQ⟩⟩;dsimp only;rw[hsn];rfl
  rw[show(q1==7)=true from k7]at hQ;dsimp only at hQ
  cases hof:eK K q2 S3 r3 l2 with
  |none=>rw[hof]at hQ;cases hQ
  |some P=>
   rw[hof]at hQ;refine bL (ah _) aC (by kernel_rfl) l2.length [3,4,12,14,15,16,17,19,20] (19::iA) (fun i (z:Ss×Rn×List mK×Bool)=>[.p (.sl 1 ((a::b).map mz)),.p (.sl 5 (eX z.2.2.1)),.p (.uq 132 (.bH rS zr.1)),.so 8 (sC O2),.p (.i .i64 rf),.p (.i .i64 u2),.p (.i .i64 (ix j)),.ptr 19 0,.p (.b z.2.2.2)]) (fun i z=>.cells [.p (.i .i64 q1),.p (.i .i64 q2),.p (.s q3),.p (.i .i64 q4),.p (.i .i64 q5),.p (.s q6),.p (.sl 4 (gK q7)),.p (.sl 4 (gK q8))]::B5 K z.1 (zr.1+1,(zr.1,z.2.1)::zr.2)) (fun i z=>z.2.2.1.length+i=l2.length∧(match z.2.2.2 with|true=>P=(true,z.1,z.2.1,z.2.2.1)|false=>eK K q2 z.1 z.2.1 z.2.2.1=some P)) (S3,r3,l2,false) ⟨rfl,by dsimp only;rw[hsn];rfl,rfl,rfl⟩ ⟨by simp,hof⟩ ?_;intro i z hi hz;obtain⟨S4,r4,l4,b4⟩:=z;have hz1:=And.left hz;have hz2:=And.right hz;clear hz;dsimp only at hz1 hz2
   cases l4 with
   |nil=>
    conv=>whnf
    cases b4 with
    |true=>
     dsimp only at hz2;subst hz2;(conv=>whnf);refine⟨hj1,(S4,r4,[],O2,rf,u2),⟨rfl,rfl,rfl,rfl⟩,⟨⟨hsl,hw⟩,by dsimp only;rw[hn1];exact hQ⟩⟩
    |false=>
     rw[eK]at hz2;cases hz2;cases hQ;(conv=>whnf);rw[show xd (some O2)=.cA [.p (.sl 8 (sC O2)),.p (.b true)] from rfl];refine⟨.inl rfl,⟨s6,s6,s6,s6,s6,s6,s6,s6,s6,s6,s6,s6,s6,s6,s6,s6,trivial⟩⟩
   |cons v l4=>
    obtain⟨sk,vk,vn,vt,va⟩:=v;have hgt:decide (((eX (⟨sk,.mk vk vn vt va⟩::l4)).length:Int)>0)=true:=decide_eq_true (by simp[eX])
    cases b4 with
    |true=>
     dsimp only at hz2;subst hz2;(conv=>whnf);refine dw hgt ?_;(conv=>whnf);refine⟨hj1,(S4,r4,(⟨sk,.mk vk vn vt va⟩::l4),O2,rf,u2),⟨rfl,rfl,rfl,rfl⟩,⟨⟨hsl,hw⟩,by dsimp only;rw[hn1];exact hQ⟩⟩
    |false=>
     dsimp only at hz2;rw[eK]at hz2;dsimp only at hz2;have hds:List.drop (Int.toNat 1) (List.take ((eX (⟨sk,.mk vk vn vt va⟩::l4)).length:Int).toNat (eX (⟨sk,.mk vk vn vt va⟩::l4)))=eX l4:=by rw[Int.toNat_natCast,List.take_length];rfl
     (conv=>whnf);refine dw hgt ?_;(conv=>whnf);refine au (i:=0) (x:=.agg [.i .i64 sk,.i .i64 vk,.i .i64 vn,.s vt,.sl 4 (gK va)]) rfl ?_;(conv=>whnf);refine ag ⟨by decide,by simp[eX];omega,by simp⟩ ?_;rw[hds];(conv=>whnf);refine aj ?_ ?_<;>intro s1<;>conv=>whnf
     ·rw[show(sk==1)=true from s1]at hz2
      dsimp only at hz2;refine aj ?_ ?_<;>intro s2<;>conv=>whnf
      ·rw[show decide (q2≥0)=true from s2]at hz2
       dsimp only at hz2
       cases hlt:vF K r4 with
       |none=>rw[hlt]at hz2;cases hz2
       |some r5=>
        rw[hlt]at hz2;have hls:=I2 K S4 (zr.1+1,(zr.1,r4)::zr.2) zr.1 r4 r5 (aQ _ _ _) hlt;dsimp only at hls;rw[dL]at hls;unfold hA at hls;refine bh iA 300 hls ?_;(conv=>whnf);cases hz2;refine⟨by rw[←hz1];simp,(S4,r5,l4,true),⟨rfl,rfl,rfl,rfl⟩,⟨by dsimp only;rw[←hz1];simp;omega,rfl⟩⟩
      ·rw[show decide (q2≥0)=false from s2]at hz2
       refine bD (show(!(sk==1))=false by rw[show(sk==1)=true from s1];rfl) ?_;(conv=>whnf);refine⟨by rw[←hz1];simp,(S4,r4,l4,false),⟨rfl,rfl,rfl,rfl⟩,⟨by dsimp only;rw[←hz1];simp;omega,hz2⟩⟩
     ·rw[show(sk==1)=false from s1]at hz2
      dsimp only at hz2
      cases hv:pU K S4 r4 (.mk vk vn vt va) with
      |none=>rw[hv]at hz2;cases hz2
      |some V=>
       rw[hv]at hz2;have hvs:=He K S4 (zr.1+1,(zr.1,r4)::zr.2) zr.1 r4 _ V (aQ _ _ _) hv;dsimp only at hvs;rw[dL]at hvs;obtain⟨b,S5,r5⟩:=V;rw[eO]at hvs;unfold hA at hvs;dsimp only at hvs;refine dw (show(!(sk==1))=true by rw[show(sk==1)=false from s1];rfl) ?_;(conv=>whnf);refine bh iA 300 hvs ?_;(conv=>whnf);refine⟨by rw[←hz1];simp,(S5,r5,l4,b),⟨rfl,rfl,rfl,rfl⟩,⟨by dsimp only;rw[←hz1];simp;omega,(by dsimp only;cases b with|true=>cases hz2;rfl|false=>exact hz2)⟩⟩
end MN
end
section
open Go Go.AM Go.Proofs TK
set_option maxRecDepth 100000
namespace MN
mutual
theorem GH:∀a:Ov,sO a a=true
 |.mk k n t l=>by rw[sO,xT l,Nat.beq_refl];simp[jV]
theorem xT:∀l:List Ov,K7 l l=true
 | []=>rfl
 |a::r=>by rw[K7,GH a,xT r];rfl
end
def vT (o:Ou):Prop:=okO (.mk o.vk o.vn o.vt o.va)=true∧BZ o.args=true∧o.args.length≤2000000
theorem Kd (o:Ou) (h:vT o):aV Tryz.prog 35 [.p (.agg (AW o)),.p (.agg (AW o))] (.p (.b true)):=by
 obtain⟨h1,h2,h3⟩:=h;have c1:=rK _ (.mk o.vk o.vn o.vt o.va) h1;have c2:=DK o.args o.args h3 (fun x hx y=>rK x y (zd h2 x hx));rw[GH,eO]at c1;rw[xT,Nat.beq_refl,Bool.true_and]at c2;obtain⟨q1,q2,q3,q4,q5,q6,q7,q8⟩:=o;unfold AW;dsimp only at c1 c2 ⊢;refine aV.intro (ah Tryz.prog) aC Tryz.func35 rfl (by rfl) (by kernel_rfl) (by show 2≤_;decide) rfl ?_;(conv=>whnf);refine dw (beq_self_eq_true q1) ?_;(conv=>whnf);refine dw (beq_self_eq_true q2) ?_;(conv=>whnf);refine dw (beq_self_eq_true q3.toList) ?_;(conv=>whnf);refine jA c1 ?_;(conv=>whnf);refine jA c2 ?_;(conv=>whnf);exact .inl rfl
theorem Iq (l:List Ou) (hl:l.length≤2000000) (h:∀o∈l,vT o):aV Tryz.prog 18 [.p (.sl 8 (sC l)),.p (.sl 8 (sC l))] (.p (.b true)):=by
 have hlen:(sC l).length=l.length:=by unfold sC;simp
 have c1:aV Tryz.prog 34 [.p (.sl 8 (sC l)),.p (.sl 8 (sC l)),.fn 35 [] []] (.p (.b true)):=by
  refine aV.intro (ah Tryz.prog) aC Tryz.func34 rfl (by rfl) (by kernel_rfl) (by show 3≤_;decide) rfl ?_;(conv=>whnf);refine bD (by simp) ?_;(conv=>whnf);refine bL (ah _) aC (by kernel_rfl) l.length [1,2,15,16,17] [] (fun j (_:Unit)=>[.p (.sl 8 (sC l)),.fn 35 [] [],.p (.sl 8 (sC l)),.p (.i .i64 (sC l).length),.p (.i .i64 (ix j))]) (fun _ _=>[]) (fun _ _=>True) () ⟨rfl,rfl,rfl,rfl⟩ trivial ?_;rintro j _ hj _;(conv=>whnf);refine aj ?_ ?_<;>intro g1<;>conv=>whnf
  ·have hj1:=cm g1 (by rw[hlen]) hj (by omega)
   obtain⟨u,hu⟩:∃u,l[j]?=some u:=⟨_,List.getElem?_eq_getElem hj1⟩
   have hi:=Kd u (h u (List.mem_of_getElem? hu));have hg:(sC l)[j]?=some (.agg (AW u)):=by unfold sC;rw[List.getElem?_map,hu];rfl
   obtain⟨q1,q2,q3,q4,q5,q6,q7,q8⟩:=u;unfold AW at hi hg;dsimp only at hi hg;refine bO hg (by omega) ?_;(conv=>whnf);refine bO hg (by omega) ?_;(conv=>whnf);refine jA hi ?_;(conv=>whnf);exact⟨hj1,(),⟨rfl,rfl,rfl,rfl⟩,trivial⟩
  ·exact .inl rfl
 refine aV.intro (ah Tryz.prog) aC Tryz.func18 rfl (by rfl) (by kernel_rfl) (by show 2≤_;decide) rfl ?_;(conv=>whnf);refine jA c1 ?_;(conv=>whnf);exact .inl rfl
end MN
end
section
open Go Go.AM Go.Proofs
set_option maxRecDepth 100000
namespace TR
theorem EV (l:List Pt) (k:Nat):bU (l.take k)≤bU l:=by
 have:=lQ (l.take k) (l.drop k);rw[List.take_append_drop]at this;omega
end TR
end
section
open Go Go.AM Go.Proofs
set_option maxRecDepth 100000
end
section
open Go Go.AM Go.Proofs
set_option maxRecDepth 100000
end
