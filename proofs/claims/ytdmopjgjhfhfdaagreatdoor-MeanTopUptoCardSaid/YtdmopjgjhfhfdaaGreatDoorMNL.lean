/- Contracts, and the law, for every input. No conditions. -/
import Derived.Test.YtdmopjgjhfhfdaaGreatDoorMP2
set_option linter.all false
set_option maxRecDepth 100000
section
open Go Go.AM Go.Proofs TK
namespace MN
def eR (s:List Nat):List (Nat×Cl)->List (Nat×Cl)
 | []=>[]
 |(k,c)::r=>(k,match aW s k with|true=>⟨true,zV⟩|false=>c)::eR s r
theorem E7:∀M:List (Nat×Cl),eR [] M=M
 | []=>rfl
 |(k,c)::r=>by rw[eR,E7 r];rfl
theorem y8 {s t:List Nat} (h:∀k,aW s k=aW t k):∀M:List (Nat×Cl),eR s M=eR t M
 | []=>rfl
 |(k,c)::r=>by rw[eR,eR,y8 h r,h k]
theorem pZ:∀(l:List Nat) (i:Nat),aW l i=true↔i∈l
 | [],i=>by simp[aW]
 |x::r,i=>by
  rw[aW,List.mem_cons]
  cases hb:Nat.beq x i with
  |true=>simp[Nat.eq_of_beq_eq_true hb]
  |false=>
   have:i≠x:=fun e=>by rw[e,Nat.beq_refl]at hb;cases hb
   simp[this,pZ r i]
theorem pS (s:List Nat) (a k:Nat):aW (s++[a]) k=(aW s k||Nat.beq a k):=by
 induction s with
 |nil=>simp only[List.nil_append,aW,Bool.false_or];cases Nat.beq a k<;>rfl
 |cons x r ih=>
  rw[List.cons_append,aW,aW]
  cases Nat.beq x k with
  |true=>rfl
  |false=>exact ih
theorem D0 {s:List Nat} {a:Nat}:∀{M:List (Nat×Cl)},(M.map (·.1)).Nodup->bf a ⟨true,zV⟩ (eR s M)=eR (s++[a]) M
 | [],_=>rfl
 |(k,c)::r,h=>by
  rw[List.map_cons,List.nodup_cons]at h;rw[eR,eR,bf,pS]
  cases hb:Nat.beq k a with
  |true=>
   have hk:=Nat.eq_of_beq_eq_true hb;subst hk;rw[Nat.beq_refl,Bool.or_true]
   have:∀{r:List (Nat×Cl)},k∉r.map (·.1)->eR (s++[k]) r=eR s r:=by
    intro r
    induction r with
    |nil=>intro _;rfl
    |cons p q ih=>
     obtain⟨k2,c2⟩:=p;intro hn;simp only[List.map_cons,List.mem_cons,not_or]at hn;rw[eR,eR,ih hn.2,pS,beq_false hn.1,Bool.or_false]
   rw[this h.1]
  |false=>
   have:Nat.beq a k=false:=beq_false fun e=>by rw[e,Nat.beq_refl]at hb;cases hb
   rw[this,Bool.or_false];dsimp only;rw[D0 h.2]
theorem DN {s:List Nat} {a:Nat}:∀{M:List (Nat×Cl)},(aK a M).isSome=true->∃x,aK a (eR s M)=some x
 | [],h=>by cases h
 |(k,c)::r,h=>by
  rw[aK]at h;rw[eR,aK]
  cases hb:Nat.beq k a with
  |true=>exact⟨_,rfl⟩
  |false=>rw[hb]at h;exact DN h
def Ma (s:List Nat) (i:Nat):Nat:=(s[i]?).getD 0
def gG:List (Nat×Cl)->Bool
 | []=>true
 |(k,_)::r=>!(r.any fun p=>Nat.beq p.1 k)&&gG r
theorem v8:∀{M:List (Nat×Cl)},gG M=true->(M.map (·.1)).Nodup
 | [],_=>List.nodup_nil
 |(k,c)::r,h=>by
  rw[gG,Bool.and_eq_true]at h;rw[List.map_cons,List.nodup_cons];refine⟨fun hm=>?_,v8 h.2⟩;obtain⟨p,hp,e⟩:=List.mem_map.1 hm;have:(r.any fun p=>Nat.beq p.1 k)=true:=List.any_eq_true.2 ⟨p,hp,by rw[e];exact Nat.beq_refl _⟩;rw[this]at h;exact absurd h.1 (by decide)
def ox (z:aZ Cl) (y:aZ (List Nat)) (l:List Vl):Option ((List Ov×ByteArray)×aZ Cl×aZ (List Nat)):=match Nat.ble l.length 2000000&&gG z.2 with
 |false=>none
 |true=>match eD (dw z.2 (Ad z.2 l)) l [] with
  |none=>none
  |some (false,s)=>some (([],LQ),z,(y.1+1,(y.1,s)::y.2))
  |some (true,s)=>match mN z.2 l with
   |none=>none
   |some true=>some (([],lQ),z,(y.1+1,(y.1,s)::y.2))
   |some false=>match ia (jd z.2 (Ad z.2 l)) l with
    |none=>none
    |some os=>some ((os,⟨#[]⟩),(z.1,eR s z.2),(y.1+1,(y.1,s)::y.2))
theorem iR (z:aZ Cl) (y:aZ (List Nat)) (l:List Vl) (R:(List Ov×ByteArray)×aZ Cl×aZ (List Nat)) (hF:ox z y l=some R):
 au Tryz.prog 260 [.p (.sl 5 (bz l))] [(1000000000,kQ z),(1000000001,GA y)] (.cI [.p (.sl 4 (gT R.1.1)),.p (.s R.1.2)]) [(1000000000,kQ R.2.1),(1000000001,GA R.2.2)]:=by
 unfold ox at hF
 cases hbl:Nat.ble l.length 2000000&&gG z.2 with
 |false=>rw[hbl]at hF;cases hF
 |true=>
  rw[hbl]at hF;rw[Bool.and_eq_true]at hbl;have hl:=Nat.le_of_ble_eq_true hbl.1;have hnd:=v8 hbl.2;dsimp only at hF
  cases hg:eD (dw z.2 (Ad z.2 l)) l [] with
  |none=>rw[hg]at hF;cases hF
  |some q=>
   obtain⟨b,s⟩:=q;rw[hg]at hF;have c1:=qK z y l b s _ hl hg;have hal:=pV (mP _) l [] b s (fun _ h=>by cases h) hg;have c2:=fun b=>ni z l b hl;have c3:=fun os=>wv z (Ad z.2 l) l os hl;unfold kQ GA at *
   cases b with
   |false=>
    cases hF;dsimp only[Lv]at c1;refine au.iN av Tryz.func260 rfl (by rfl) (by kernel_rfl) rfl rfl ?_;(conv=>whnf);refine bh [1000000000,1000000001] 300 c1 ?_;(conv=>whnf);exact⟨.inl rfl,⟨s6,s6,trivial⟩⟩
   |true=>
    dsimp only[Lv]at c1 hF
    cases hA:mN z.2 l with
    |none=>rw[hA]at hF;cases hF
    |some bl=>
     rw[hA]at hF;have c2:=c2 bl hA
     cases bl with
     |true=>
      cases hF;refine au.iN av Tryz.func260 rfl (by rfl) (by kernel_rfl) rfl rfl ?_;(conv=>whnf);refine bh [1000000000,1000000001] 300 c1 ?_;(conv=>whnf);refine bh [1000000000] 300 c2 ?_;(conv=>whnf);exact⟨.inl rfl,⟨s6,s6,trivial⟩⟩
     |false=>
      dsimp only at hF
      cases hV:ia (jd z.2 (Ad z.2 l)) l with
      |none=>rw[hV]at hF;cases hF
      |some os=>
       rw[hV]at hF;cases hF;have c3:=c3 os hV;have hty:aK y.1 ((y.1,s)::y.2)=some s:=by rw[aK,Nat.beq_refl]
       refine au.qG (aG Tryz.prog) Tryz.func260 rfl (by rfl) (by show 1<=_;decide) rfl ?_;refine jh.cut (aG Tryz.prog) av (by kernel_rfl) 4 [2,4] [1000000000,1000000001] (fun _:Unit=>[.p (.sl 4 (gT os)),.p (.amp gS y.1)]) (fun _=>[.store 212 true cS z.1 6 (cD Au z.2),.store 344 true gS (y.1+1) 0 (cD eG ((y.1,s)::y.2))]) (fun _=>True) ?_ ?_
       ·conv=>whnf
        refine bh [1000000000,1000000001] 300 c1 ?_;(conv=>whnf);refine bh [1000000000] 300 c2 ?_;(conv=>whnf);refine bh [1000000000] 300 c3 ?_;(conv=>whnf);exact⟨(),⟨rfl,rfl,rfl,rfl⟩,trivial⟩
       ·rintro _ -
        refine jh.seq ?_
        refine jh.RU (aG Tryz.prog) av (kt:=137) (et:=4) (σ:=List (Nat×Cl)) (N:=s.length) (TT:=344) (sp:=gS) (q:=y.1) 1 1000000001 [2] [1000000000,1000000001] (fun _ _=>[.p (.sl 4 (gT os))])
         (fun _ M=>[.store 212 true cS z.1 6 (cD Au M),.store 344 true gS (y.1+1) 0 (cD eG ((y.1,s)::y.2))]) (fun seen M=>M=eR (seen.map (Ma s)) z.2/\seen.Nodup/\∀i∈seen,i<s.length) (fun _ _=>s.map qw)
         ⟨rfl,rfl,rfl,rfl,rfl⟩ (by kernel_rfl) (by kernel_rfl) (fun _ _ _ _ h=>h) ⟨rfl,rfl,rfl⟩ ⟨rfl,rfl,rfl⟩ ⟨rfl,rfl,rfl⟩ (by decide) (by decide) ⟨rfl,rfl,rfl,rfl⟩ (by kernel_rfl) (by kernel_rfl) (by decide) ?_ ?_ ?_ ?_
        ·conv=>whnf
         exact⟨rfl,z.2,Tl.of ⟨rfl,rfl,rfl,rfl⟩,(E7 _).symm,List.nodup_nil,by simp⟩
        ·rintro seen M ⟨rfl,_,_⟩
         exact⟨⟨_,_,rfl,aj (enc:=eG) hty⟩,by simp⟩
        ·rintro seen M ⟨rfl,h1,h2⟩ h3
         have hall:∀k,aW (seen.map (Ma s)) k=aW s k:=by
          intro k;rw[Bool.eq_iff_iff,pZ,pZ,List.mem_map]
          constructor
          ·rintro⟨i,hi,rfl⟩
           have:=h2 i hi;rw[Ma,List.getElem?_eq_getElem this];exact List.getElem_mem this
          ·intro hk
           obtain⟨i,hi,e⟩:=List.getElem_of_mem hk;refine⟨i,?_,by rw[Ma,List.getElem?_eq_getElem hi];exact e⟩;refine Classical.byContradiction fun hc=>?_;have:=qz s.length (i::seen) (List.nodup_cons.2 ⟨hc,h1⟩) (fun a ha=>by rcases List.mem_cons.1 ha with rfl|ha;exact hi;exact h2 a ha);rw[List.length_cons]at this;omega
         rw[y8 hall];refine jh.fin (aG Tryz.prog) av (by kernel_rfl) ?_;(conv=>whnf);exact⟨.inl rfl,⟨s6,s6,trivial⟩⟩
        ·rintro B seen M j x ⟨rfl,h1,h2⟩ hj hjs hlt hx
         obtain⟨a,ha⟩:∃a,s[j]?=some a:=⟨_,List.getElem?_eq_getElem hj⟩
         have hx':x=qw a:=by
          rw[List.getElem?_map,ha]at hx;cases hx;rfl
         subst hx';obtain⟨c,hc⟩:=DN (s:=seen.map (Ma s)) (hal a (List.mem_of_getElem? ha));have hat:Ma s j=a:=by rw[Ma,ha];rfl
         obtain⟨cg,⟨wk,wn,wt,wa,wc⟩⟩:=c;unfold qw;(conv=>whnf);refine ag ⟨rfl,by decide,.inl rfl⟩ ?_;refine⟨_,aj hc,?_⟩;refine aq (i:=0) rfl ?_;(conv=>whnf);refine ag ⟨rfl,by decide,.inl rfl⟩ ?_;refine⟨_,aJ (aj hc),?_⟩;refine aq (i:=0) rfl ?_;(conv=>whnf);rw[bV];refine⟨eR ((seen++[j]).map (Ma s)) z.2,Tl.of ⟨?_,rfl,rfl,rfl⟩,rfl,?_,?_⟩
         ·show [some (bu.store _ _ _ _ _ (sset a (Au ⟨true,zV⟩) (cD Au _))),_]=_
          rw[bN,D0 hnd,show eR (seen.map (Ma s)++[a]) z.2=eR ((seen++[j]).map (Ma s)) z.2 from by rw[List.map_append,List.map_cons,hat];rfl];rfl
         ·rw[List.nodup_append]
          exact⟨h1,by simp,fun i hi k hk=>by simp at hk;subst hk;exact fun e=>hjs (e ▸ hi)⟩
         ·intro i hi
          rcases List.mem_append.1 hi with hi|hi
          ·exact h2 i hi
          ·simp at hi;subst hi;exact hj
end MN
end
section
open Go Go.AM Go.Proofs
namespace TR
theorem av:Tryz.prog.follows .mixedOrders=true:=by kernel_rfl
inductive Ty where
 |mk (kind:Int) (name:ByteArray) (args:List Ty)
inductive Pt where
 |mk (kind num:Int) (text:ByteArray) (args:List Pt)
mutual
inductive Ex where
 |mk (kind num:Int) (text:ByteArray) (names:List ByteArray) (types:List Ty) (args:List Ex) (dZ:List eZ) (pos:Int)
inductive eZ where
 |mk (pat:Pt) (body:Ex)
end
def Ty.kind:Ty->Int|.mk k _ _=>k
def Ty.args:Ty->List Ty|.mk _ _ a=>a
def Pt.kind:Pt->Int|.mk k _ _ _=>k
def Pt.text:Pt->ByteArray|.mk _ _ t _=>t
def Pt.args:Pt->List Pt|.mk _ _ _ a=>a
def Ex.kind:Ex->Int|.mk k _ _ _ _ _ _ _=>k
def Ex.num:Ex->Int|.mk _ n _ _ _ _ _ _=>n
def Ex.text:Ex->ByteArray|.mk _ _ t _ _ _ _ _=>t
def Ex.names:Ex->List ByteArray|.mk _ _ _ n _ _ _ _=>n
def Ex.args:Ex->List Ex|.mk _ _ _ _ _ a _ _=>a
def Ex.dZ:Ex->List eZ|.mk _ _ _ _ _ _ a _=>a
def eZ.pat:eZ->Pt|.mk p _=>p
def eZ.body:eZ->Ex|.mk _ e=>e
theorem Ty.ind {Q:Ty->Prop} (h:∀k n xs,(∀a∈xs,Q a)->Q (.mk k n xs)) (t:Ty):Q t:=
 Ty.rec (motive_1:=Q) (motive_2:=fun l=>∀a∈l,Q a) (fun k n xs ih=>h k n xs ih) (fun _ hb=>by cases hb) (fun a r h1 h2 b hb=>by
  rcases List.mem_cons.1 hb with hb|hb
  ·rw[hb];exact h1
  ·exact h2 b hb) t
theorem Pt.ind {Q:Pt->Prop} (h:∀k n t xs,(∀a∈xs,Q a)->Q (.mk k n t xs)) (t:Pt):Q t:=
 Pt.rec (motive_1:=Q) (motive_2:=fun l=>∀a∈l,Q a) (fun k n t xs ih=>h k n t xs ih) (fun _ hb=>by cases hb) (fun a r h1 h2 b hb=>by
  rcases List.mem_cons.1 hb with hb|hb
  ·rw[hb];exact h1
  ·exact h2 b hb) t
theorem Ex.ind {Q:Ex->Prop} (h:∀k n t ns ts xs ms p,(∀a∈xs,Q a)->(∀a∈ms,Q a.body)->Q (.mk k n t ns ts xs ms p)) (e:Ex):Q e:=
 Ex.rec (motive_1:=Q) (motive_2:=fun a=>Q a.body) (motive_3:=fun l=>∀a∈l,Q a) (motive_4:=fun l=>∀a∈l,Q a.body) (fun k n t ns ts xs ms p h1 h2=>h k n t ns ts xs ms p h1 h2) (fun _ _ h=>h)
  (fun _ hb=>by cases hb) (fun a r h1 h2 b hb=>by
    rcases List.mem_cons.1 hb with hb|hb
    ·rw[hb];exact h1
    ·exact h2 b hb)
  (fun _ hb=>by cases hb) (fun a r h1 h2 b hb=>by
    rcases List.mem_cons.1 hb with hb|hb
    ·rw[hb];exact h1
    ·exact h2 b hb) e
def bF (s:ByteArray):PV:=.s s
mutual
def eT:Ty->PV
 |.mk k n xs=>.agg [.i .i64 k,.s n,.sl 3 (mB xs)]
def mB:List Ty->List PV
 | []=>[]
 |t::r=>eT t::mB r
end
mutual
def eP:Pt->PV
 |.mk k n t xs=>.agg [.i .i64 k,.i .i64 n,.s t,.sl 4 (pF xs)]
def pF:List Pt->List PV
 | []=>[]
 |t::r=>eP t::pF r
end
mutual
def eE:Ex->PV
 |.mk k n t ns ts xs ms p=>.agg [.i .i64 k,.i .i64 n,.s t,.sl 1 (ns.map bF),.sl 3 (mB ts),.sl 8 (eC xs),.sl 12 (jX ms),.i .i64 p]
def eA:eZ->PV
 |.mk p e=>.agg ((eP p).cells++(eE e).cells)
def eC:List Ex->List PV
 | []=>[]
 |t::r=>eE t::eC r
def jX:List eZ->List PV
 | []=>[]
 |t::r=>eA t::jX r
end
theorem kY (l:List Ty):mB l=l.map eT:=by
 induction l with
 |nil=>rfl
 |cons t r ih=>simp[mB,ih]
theorem mE (l:List Pt):pF l=l.map eP:=by
 induction l with
 |nil=>rfl
 |cons t r ih=>simp[pF,ih]
theorem jc (l:List Ex):eC l=l.map eE:=by
 induction l with
 |nil=>rfl
 |cons t r ih=>simp[eC,ih]
theorem kZ (l:List eZ):jX l=l.map eA:=by
 induction l with
 |nil=>rfl
 |cons t r ih=>simp[jX,ih]
theorem tJ {l:List Pt} {k:Nat} {t:Pt} (h:l[k]?=some t):(pF l)[k]?=some (eP t):=by rw[mE];simp[h]
theorem nZ {l:List Ex} {k:Nat} {t:Ex} (h:l[k]?=some t):(eC l)[k]?=some (eE t):=by rw[jc];simp[h]
theorem tN {l:List eZ} {k:Nat} {t:eZ} (h:l[k]?=some t):(jX l)[k]?=some (eA t):=by rw[kZ];simp[h]
theorem Ia (l:List Ty):(mB l).length=l.length:=by rw[kY];simp
theorem iq (l:List Pt):(pF l).length=l.length:=by rw[mE];simp
theorem cG (l:List Ex):(eC l).length=l.length:=by rw[jc];simp
theorem jt (l:List eZ):(jX l).length=l.length:=by rw[kZ];simp
theorem He (l r:List Pt):pF (l++r)=pF l++pF r:=by simp[mE]
theorem uf (l r:List Ex):eC (l++r)=eC l++eC r:=by simp[jc]
theorem MQ (l r:List eZ):jX (l++r)=jX l++jX r:=by simp[kZ]
theorem uo {x:PV}:∀{l:List PV},x∈l->PV.wt x<=PV.cH l
 | [],h=>by cases h
 |y::r,h=>by
  simp only[PV.cH];rcases List.mem_cons.1 h with rfl|h
  ·omega
  ·have:=uo h;omega
theorem ri:∀{l:List PV},(∀x∈l,1<=PV.wt x)->l.length<=PV.cH l
 | [],_=>by simp[PV.cH]
 |y::r,h=>by
  have h1:=h y (by simp);have h2:=ri (l:=r) (fun x hx=>h x (by simp[hx]));simp only[PV.cH,List.length_cons];omega
theorem yx (x:PV):PV.cH x.cells=PV.wt x:=by cases x<;>simp[PV.cells,PV.cH,PV.wt]
def wT (t:Ty):Nat:=PV.wt (eT t)
def wP (t:Pt):Nat:=PV.wt (eP t)
def wE (t:Ex):Nat:=PV.wt (eE t)
def wA (t:eZ):Nat:=PV.wt (eA t)
theorem PB (k:Int) (n:ByteArray) (xs:List Ty):wT (.mk k n xs)=n.size+3+PV.cH (mB xs):=by simp[wT,eT,PV.wt,PV.cH];omega
theorem xR (k m:Int) (n:ByteArray) (xs:List Pt):wP (.mk k m n xs)=n.size+4+PV.cH (pF xs):=by simp[wP,eP,PV.wt,PV.cH];omega
theorem tD (k n:Int) (t:ByteArray) (ns:List ByteArray) (ts:List Ty) (xs:List Ex) (ms:List eZ) (p:Int):wE (.mk k n t ns ts xs ms p)=t.size+8+PV.cH (ns.map bF)+PV.cH (mB ts)+PV.cH (eC xs)+PV.cH (jX ms):=by
 simp[wE,eE,PV.wt,PV.cH];omega
theorem E5 (p:Pt) (e:Ex):wA (.mk p e)=wP p+wE e:=by simp[wA,eA,PV.wt,PV.ef,yx,wP,wE]
theorem F8 (e:Ex):8<=wE e:=by cases e;rw[tD];omega
theorem Fm (e:Pt):4<=wP e:=by cases e;rw[xR];omega
theorem OA (e:Ty):3<=wT e:=by cases e;rw[PB];omega
theorem O0 (e:eZ):12<=wA e:=by obtain⟨p,e⟩:=e;rw[E5];have:=Fm p;have:=F8 e;omega
theorem My {x:Ex} {l:List Ex} (h:x∈l):wE x<=PV.cH (eC l):=by rw[jc];exact uo (List.mem_map.2 ⟨x,h,rfl⟩)
theorem HA {x:Pt} {l:List Pt} (h:x∈l):wP x<=PV.cH (pF l):=by rw[mE];exact uo (List.mem_map.2 ⟨x,h,rfl⟩)
theorem MR {x:eZ} {l:List eZ} (h:x∈l):wA x<=PV.cH (jX l):=by rw[kZ];exact uo (List.mem_map.2 ⟨x,h,rfl⟩)
theorem NA (l:List Ex):l.length<=PV.cH (eC l):=by
 have:=ri (l:=eC l) (fun x hx=>by rw[jc]at hx;obtain⟨y,_,rfl⟩:=List.mem_map.1 hx;have:=F8 y;unfold wE at this;omega)
 rwa [cG]at this
theorem G6 (l:List Pt):l.length<=PV.cH (pF l):=by
 have:=ri (l:=pF l) (fun x hx=>by rw[mE]at hx;obtain⟨y,_,rfl⟩:=List.mem_map.1 hx;have:=Fm y;unfold wP at this;omega)
 rwa [iq]at this
theorem Nt (l:List Ty):l.length<=PV.cH (mB l):=by
 have:=ri (l:=mB l) (fun x hx=>by rw[kY]at hx;obtain⟨y,_,rfl⟩:=List.mem_map.1 hx;have:=OA y;unfold wT at this;omega)
 rwa [Ia]at this
theorem M5 (l:List eZ):l.length<=PV.cH (jX l):=by
 have:=ri (l:=jX l) (fun x hx=>by rw[kZ]at hx;obtain⟨y,_,rfl⟩:=List.mem_map.1 hx;have:=O0 y;unfold wA at this;omega)
 rwa [jt]at this
theorem Mv (l:List ByteArray):l.length<=PV.cH (l.map bF):=by
 have:=ri (l:=l.map bF) (fun x hx=>by obtain⟨y,_,rfl⟩:=List.mem_map.1 hx;simp[bF,PV.wt]);simpa using this
theorem mH {k n:Int} {t:ByteArray} {ns:List ByteArray} {ts:List Ty} {xs:List Ex} {ms:List eZ} {p:Int} {a:Ex} (h:a∈xs):wE a+8<=wE (.mk k n t ns ts xs ms p):=by have:=My h;rw[tD];omega
theorem Mn {k n:Int} {t:ByteArray} {ns:List ByteArray} {ts:List Ty} {xs:List Ex} {ms:List eZ} {p:Int} {a:eZ} (h:a∈ms):wA a+8<=wE (.mk k n t ns ts xs ms p):=by have:=MR h;rw[tD];omega
theorem BS (a:eZ):wP a.pat+wE a.body=wA a:=by obtain⟨p,e⟩:=a;rw[E5];rfl
theorem oy {k n:Int} {t:ByteArray} {ns:List ByteArray} {ts:List Ty} {xs:List Ex} {ms:List eZ} {p:Int} {a:eZ} (h:a∈ms):wP a.pat+wE a.body+8<=wE (.mk k n t ns ts xs ms p):=by rw[BS];exact Mn h
theorem C3 {k n:Int} {t:ByteArray} {xs:List Pt} {a:Pt} (h:a∈xs):wP a+4<=wP (.mk k n t xs):=by have:=HA h;rw[xR];omega
theorem uW (k n:Int) (t:ByteArray) (ns:List ByteArray) (ts:List Ty) (xs:List Ex) (ms:List eZ) (p:Int):t.size+ns.length+ts.length+xs.length+ms.length+8<=wE (.mk k n t ns ts xs ms p):=by
 have:=Mv ns;have:=Nt ts;have:=NA xs;have:=M5 ms;rw[tD];omega
theorem HO (k n:Int) (t:ByteArray) (xs:List Pt):t.size+xs.length+4<=wP (.mk k n t xs):=by
 have:=G6 xs;rw[xR];omega
mutual
def fm:Pt->Nat
 |.mk _ _ _ xs=>1+bU xs
def bU:List Pt->Nat
 | []=>0
 |p::r=>fm p+bU r
end
mutual
def gq:Ex->List Ex
 |.mk k n t ns ts xs ms p=>.mk k n t ns ts xs ms p::(di xs++jE ms)
def di:List Ex->List Ex
 | []=>[]
 |e::r=>gq e++di r
def jE:List eZ->List Ex
 | []=>[]
 |.mk _ e::r=>gq e++jE r
end
mutual
def qu:Ex->Nat
 |.mk _ _ _ _ _ xs ms _=>1+(oN xs+oJ ms)
def oN:List Ex->Nat
 | []=>0
 |e::r=>qu e+oN r
def oJ:List eZ->Nat
 | []=>0
 |.mk p e::r=>fm p+qu e+oJ r
end
theorem mR (l r:List Pt):bU (l++r)=bU l+bU r:=by
 induction l with
 |nil=>simp[bU]
 |cons a l ih=>simp[bU,ih];omega
theorem sj (l r:List Ex):di (l++r)=di l++di r:=by
 induction l with
 |nil=>simp[di]
 |cons a l ih=>simp[di,ih]
theorem FR (l:List eZ):jE l=di (l.map eZ.body):=by
 induction l with
 |nil=>rfl
 |cons a l ih=>obtain⟨p,e⟩:=a;simp[jE,di,ih,eZ.body]
theorem oI (e:Ex):gq e=e::(di e.args++jE e.dZ):=by obtain⟨k,n,t,ns,ts,xs,ms,p⟩:=e;rw[gq];rfl
theorem FZ (p:Pt):1<=fm p:=by cases p;rw[fm];omega
mutual
theorem zC:∀(p:Pt),fm p<=wP p
 |.mk k n t xs=>by rw[fm,xR];have:=AX xs;omega
theorem AX:∀(l:List Pt),bU l<=PV.cH (pF l)
 | []=>by simp[bU]
 |p::r=>by have h1:=zC p;have h2:=AX r;unfold wP at h1;simp only[bU,pF,PV.cH];omega
end
mutual
theorem size_le:∀(e:Ex),qu e<=wE e
 |.mk k n t ns ts xs ms p=>by rw[qu,tD];have:=ES xs;have:=DO ms;omega
theorem ES:∀(l:List Ex),oN l<=PV.cH (eC l)
 | []=>by simp[oN]
 |p::r=>by have h1:=size_le p;have h2:=ES r;unfold wE at h1;simp only[oN,eC,PV.cH];omega
theorem DO:∀(l:List eZ),oJ l<=PV.cH (jX l)
 | []=>by simp[oJ]
 |.mk p e::r=>by
  have h1:=size_le e;have h2:=DO r;have h3:=zC p;have h4:=E5 p e;unfold wA at h4;simp only[oJ,jX,PV.cH];omega
end
mutual
theorem xl:∀(e:Ex),(gq e).length<=qu e
 |.mk k n t ns ts xs ms p=>by rw[gq,qu];have:=Ew xs;have:=EH ms;simp;omega
theorem Ew:∀(l:List Ex),(di l).length<=oN l
 | []=>by simp[di]
 |p::r=>by have h1:=xl p;have h2:=Ew r;simp only[oN,di,List.length_append];omega
theorem EH:∀(l:List eZ),(jE l).length<=oJ l
 | []=>by simp[jE]
 |.mk p e::r=>by have h1:=xl e;have h2:=EH r;simp only[oJ,jE,List.length_append];omega
end
mutual
theorem uI:∀(e:Ex) {x:Ex},x∈gq e->wE x<=wE e
 |.mk k n t ns ts xs ms p,x,h=>by
  rw[gq]at h;rcases List.mem_cons.1 h with rfl|h
  ·omega
  ·rw[tD]
   rcases List.mem_append.1 h with h|h
   ·have:=A8 xs h;omega
   ·have:=BC ms h;omega
theorem A8:∀(l:List Ex) {x:Ex},x∈di l->wE x<=PV.cH (eC l)
 | [],x,h=>by simp[di]at h
 |e::r,x,h=>by
  simp only[di]at h;simp only[eC,PV.cH];rcases List.mem_append.1 h with h|h
  ·have:=uI e h;rw[show PV.wt (eE e)=wE e from rfl];omega
  ·have:=A8 r h;omega
theorem BC:∀(l:List eZ) {x:Ex},x∈jE l->wE x<=PV.cH (jX l)
 | [],x,h=>by simp[jE]at h
 |.mk p e::r,x,h=>by
  simp only[jE]at h;simp only[jX,PV.cH];rcases List.mem_append.1 h with h|h
  ·have:=uI e h;have h4:=E5 p e;rw[show PV.wt (eA (.mk p e))=wA (.mk p e) from rfl];omega
  ·have:=BC r h;omega
end
theorem yp:∀(l:List Ex),l.length<=(di l).length
 | []=>by simp
 |e::r=>by have:=yp r;rw[di,oI];simp;omega
def dn (a:Int):Nat->Int
 |0=>a
 |k+1=>IntKind.i64.wrap (dn a k-1)
theorem N4 {a:Int} (h:-1<=a/\a<=9223372036854775807):∀{k:Nat},(k:Int)<=a+1->dn a k=a-k
 |0,_=>by simp[dn]
 |k+1,hk=>by rw[dn,N4 h (by omega),wrap64 (by omega) (by omega)];omega
theorem KM {n k:Nat} {m:Int} (hm:m=n) (hn:n<=1048640) (hk:k<=n):dn (IntKind.i64.wrap (m-1)) k=(n:Int)-1-k:=by
 subst hm;rw[wrap64 (by omega) (by omega),N4 (by omega) (by omega)]
theorem NW {n k:Nat} {m:Int} (h:decide (dn (IntKind.i64.wrap (m-1)) k>=0)=true) (hm:m=n) (hn:n<=1048640) (hk:k<=n):k<n:=by
 rw[KM hm hn hk]at h;have:=of_decide_eq_true h;omega
theorem NU {n k:Nat} {m:Int} (h:decide (dn (IntKind.i64.wrap (m-1)) k>=0)=false) (hm:m=n) (hn:n<=1048640) (hk:k<=n):k=n:=by
 rw[KM hm hn hk]at h;have:=of_decide_eq_false h;omega
theorem Iv {α:Type} {l:List α} {k:Nat} (h:k<l.length):∃a,l.reverse[k]?=some a/\l[l.length-1-k]?=some a:=by
 refine⟨l[l.length-1-k],?_,by simp⟩;rw[List.getElem?_reverse h,List.getElem?_eq_getElem]
theorem NV {xs:List PV} {n k:Nat} {m:Int} {x:PV} {K:PV->Prop} (h:xs[n-1-k]?=some x) (hm:m=n) (hn:n<=1048640) (hk:k<n) (hK:K x):Ct xs (dn (IntKind.i64.wrap (m-1)) k) K:=by
 rw[KM hm hn (by omega)];refine⟨x,by omega,?_,hK⟩;rw[show((n:Int)-1-k).toNat=n-1-k by omega];exact h
end TR
end
section
open Go Go.AM Go.Proofs TK
namespace MN
structure Ar where
 pat:TR.Pt
 body:Nat
def RE (a:Ar):PV:=.agg ((TR.eP a.pat).cells++[.bH nS a.body])
def FY (l:List Ar):List PV:=l.map RE
def Mb (z:aZ (List Ar)):bu:=.store 169 false bS z.1 5 (cD FY z.2)
def pO (z:aZ (List Vl)):bu:=.store 139 false vS z.1 5 (cD bz z.2)
def wV (l:List Fr):List PV:=l.map fun f=>.agg (ey f)
def J3 (z:aZ (List Fr)):bu:=.store 136 false fS z.1 5 (cD wV z.2)
structure Fn where
 names:List ByteArray
 body:Nat
structure Cn where
 data:ByteArray
 args:Int
structure Im where
 trait:ByteArray
 typ:ByteArray
 funcs:Nat
structure Mk where
 funs:Option (Nat×Nat)
 makes:Nat
 funcs:Nat
 traits:Nat
 impls:Option (Nat×Nat)
 actors:Nat
abbrev cM:Nat:=21
abbrev fM:Nat:=22
abbrev tM:Nat:=23
abbrev aM:Nat:=24
abbrev iS:Nat:=25
def jr (m:Mk):List PV:=[.agg [Qx aS m.funs,.amp cM m.makes,.amp fM m.funcs,.amp tM m.traits,Qx iS m.impls,.amp aM m.actors]]
def tq (z:aZ Mk):bu:=.store 84 true mS z.1 6 (cD jr z.2)
def eFn (f:Fn):PV:=.agg [.sl 1 (f.names.map .s),.bH nS f.body]
def Ab (c:Cn):PV:=.agg [.s c.data,.i .i64 c.args]
def RG (x:Im):PV:=.agg [.s x.trait,.s x.typ,.amp fM x.funcs]
def BK (l:List Im):List PV:=l.map RG
def OS (z:aZ (List Im)):bu:=.store 108 false iS z.1 3 (cD BK z.2)
abbrev TM (α:Type):=List (ByteArray×α)
def jR {α:Type} (enc:α->PV) (es:TM α):List (PV×PV):=es.map fun e=>(.s e.1,enc e.2)
def bX {α:Type} (enc:α->PV) (es:TM α):List PV:=(jR enc es).map Jm
def NP (z:aZ (TM Cn)):bu:=.store 77 true cM z.1 0 (cD (bX Ab) z.2)
def Md (z:aZ (TM Fn)):bu:=.store 78 true fM z.1 0 (cD (bX eFn) z.2)
def Mi (z:aZ (TM ByteArray)):bu:=.store 79 true tM z.1 0 (cD (bX .s) z.2)
def Ik (z:aZ (TM Fn)):bu:=.store 80 true aM z.1 0 (cD (bX eFn) z.2)
def aV {α:Type} (k:ByteArray):TM α->Option α
 | []=>none
 |(a,v)::r=>match k==a with|true=>some v|false=>aV k r
theorem bQ {α:Type} (enc:α->PV) (k:ByteArray) (d:PV):∀es:TM α,qo (.s k) d (jR enc es)=(((aV k es).map enc).getD d,(aV k es).isSome):=by
 intro es;unfold qo
 have:kg (.s k) (jR enc es)=(aV k es).map enc:=by
  induction es with
  |nil=>rfl
  |cons e r ih=>
   obtain⟨a,v⟩:=e;show(match uF (.s k) (.s a) with|true=>some (enc v)|false=>kg (.s k) (jR enc r))=_;rw[aV,ih];have:uF (.s k) (.s a)=(k==a):=rfl;rw[this];cases k==a<;>rfl
 rw[this]
 cases aV k es<;>rfl
structure Ks where
 n:aZ Nd
 a:aZ (List Nat)
 b:aZ (List Ar)
 mm:aZ Mk
 mc:aZ (TM Cn)
 mf:aZ (TM Fn)
 mt:aZ (TM ByteArray)
 im:aZ (List Im)
 ma:aZ (TM Fn)
structure Ss where
 o:aZ Ou
 s:aZ Sc
 v:aZ (List Vl)
 f:aZ (List Fr)
 c:aZ Cl
 g:aZ (List Nat)
def hA (K:Ks) (S:Ss) (zr:aZ Rn):Heap:=
 [(1000000000,gW zr),(1000000001,Ef S.o),(1000000002,iZ K.n),(1000000003,yO K.a),(1000000004,Mb K.b),(1000000005,Ay sS S.s),(1000000006,pO S.v),(1000000007,J3 S.f),(1000000008,kQ S.c),
  (1000000009,tq K.mm),(1000000010,NP K.mc),(1000000011,Md K.mf),(1000000012,Mi K.mt),(1000000013,OS K.im),(1000000014,Ik K.ma),(1000000015,GA S.g)]
def An (K:Ks) (S:Ss) (zr:aZ Rn):List bu:=[gW zr,Ef S.o,iZ K.n,yO K.a,Mb K.b,Ay sS S.s,pO S.v,J3 S.f,kQ S.c,tq K.mm,NP K.mc,Md K.mf,Mi K.mt,OS K.im,Ik K.ma,GA S.g]
abbrev iA:List Nat:=[1000000000,1000000001,1000000002,1000000003,1000000004,1000000005,1000000006,1000000007,1000000008,1000000009,1000000010,1000000011,1000000012,1000000013,1000000014,1000000015]
abbrev iB:List Nat:=[1000000000,1000000001,1000000002,1000000003,1000000004,1000000005,1000000006,1000000007,1000000008]
abbrev iC:List Nat:=[1000000000,1000000001,1000000002,1000000003,1000000004,1000000005,1000000006,1000000007,1000000008,1000000009,1000000010,1000000011,1000000012,1000000013,1000000014,1000000015,1000000016]
abbrev iD:List Nat:=[1000000001,1000000002,1000000003,1000000004,1000000005,1000000006,1000000007,1000000008,1000000009,1000000010,1000000011,1000000012,1000000013,1000000014,1000000015,1000000016]
theorem K5 {P:Program} {f:Nat} {args args2:List AV} {H H':Heap} {r:AV} (h:au P f args2 H r H') (hlen:args.length=args2.length)
 (hargs:∀(j:Nat) (a b:AV),args[j]?=some a->args2[j]?=some b->(a=b)\/∃p q,a=.p p/\b=.p q/\∀M v,bq M v p->bq M v q):au P f args H r H':=by
 obtain⟨hb,hc⟩:=h;refine⟨hb,fun g w vs hH hbn hvl hrel=>hc g w vs hH hbn (hvl.trans hlen) (fun j v b q1 q2=>?_)⟩;have hj:j<args.length:=by rw[hlen];exact(List.getElem?_eq_some_iff.1 q2).1
 have hr:=hrel j v args[j] q1 (List.getElem?_eq_getElem hj);rcases hargs j args[j] b (List.getElem?_eq_getElem hj) q2 with e|⟨p,q,e1,e2,hpq⟩
 ·rw[<-e];exact hr
 ·rw[e1]at hr;subst e2
  exact .p _ _ _ (hpq _ _ hr.pv)
theorem Is {α:Type} (enc:α->List PV) (a nx:Nat) (z:List (Nat×α)) (T:Nat) (one:Bool) (sp sz:Nat):bu.store T one sp nx sz (cD enc (iE a z))=.store T one sp nx sz (mX a (cD enc z)):=by rw[ug]
theorem Q5 {fn:Nat} {K:Ks} {S:Ss} {zr:aZ Rn} {H':Heap} {r:AV} {k kk n:Nat} {f:Fr} {xs:List Vl} (hgl:fD (hA K S zr) H'=true) (hk:aK kk S.v.2=some xs) (hn:n<=xs.length)
 (h:au Tryz.prog fn [.p (.bH rS k),.p (.agg (ey { f with vals:=.nw (xs.take n) }))] (hA K { S with v:=(S.v.1,iE kk S.v.2) } zr) r H'):
 au Tryz.prog fn [.p (.bH rS k),.p (.agg (ey { f with vals:=.blk kk n }))] (hA K S zr) r H':=by
 have hlen:(bz xs).length=xs.length:=by rw[aR];simp
 refine au.freeze (l:=1000000006) (T:=139) (one:=false) (sp:=vS) (nx:=S.v.1) (sz:=5) (k:=kk) (n:=n) (M:=cD bz S.v.2) (xs:=bz xs) h hgl rfl ?_ (aj hk) (by rw[hlen];exact hn) (by decide) rfl ?_
 ·intro x
  unfold hA pO;rw[Is]
  cases hb:Nat.beq 1000000006 x with
  |true=>
   have hx:=(Nat.eq_of_beq_eq_true hb).symm;subst hx;rfl
  |false=>simp only[aF,hb]
 ·intro j a b h1 h2
  rcases j with _|_|j
  ·cases h1;cases h2;exact .inl ⟨rfl,fun _ _ q=>by cases q⟩
  ·cases h1;cases h2
   refine .inr ⟨_,_,rfl,rfl,.agg _ _ rfl ?_⟩;intro j a b g1 g2;rcases j with _|_|_|j
   ·cases g1;cases g2;exact .refl _
   ·cases g1;cases g2;exact .refl _
   ·cases g1;cases g2
    show M8 _ _ _ _ _ (.kE vS kk n) (.sl 5 (bz (xs.take n)));rw[show bz (xs.take n)=(bz xs).take n by rw[aR,aR,List.map_take]];exact .kE
   ·have e:a=b:=by
     rcases j with _|_|j
     ·cases g1;cases g2;rfl
     ·cases g1;cases g2;rfl
     ·cases g1
    rw[e];exact .refl _
  ·cases h1
theorem Re {fn:Nat} {H H':Heap} {r:AV} {k:Nat} {f:Fr} (h:au Tryz.prog fn [.p (.bH rS k),.p (.agg (ey { f with vals:=.nw [] }))] H r H'):
 au Tryz.prog fn [.p (.bH rS k),.p (.agg (ey { f with vals:=.nil }))] H r H':=by
 refine K5 h rfl ?_;intro j a b h1 h2;rcases j with _|_|j
 ·cases h1;cases h2;exact .inl rfl
 ·cases h1;cases h2
  refine .inr ⟨_,_,rfl,rfl,fun M v hr=>?_⟩
  cases hr with
  |agg vs _ hl2 h1 hx=>
   refine .agg vs _ hl2 h1 (fun j v x q1 q2=>?_);rcases j with _|_|_|j
   ·exact hx _ _ _ q1 q2
   ·exact hx _ _ _ q1 q2
   ·cases q2
    have:=hx 2 v .tf q1 rfl
    cases this;exact .nil 5
   ·exact hx (j+3) v x q1 q2
 ·cases h1
def Bj:ByteArray:=⟨#[110,97,109,101]⟩
def Kb:ByteArray:=⟨#[109,97,116,99,104]⟩
def Ix:ByteArray:=⟨#[100,101,101,112]⟩
def kB (a b:ByteArray):Bool:=a.toList==b.toList
def dV (S:Ss) (r:Rn) (why:ByteArray):Ss×Rn:=({ S with o:=(S.o.1+1,(S.o.1,Dj why)::S.o.2) },uz r (Dj why) S.o.1)
def nN (S:Ss) (r:Rn) (o:Ou):Ss×Rn:=({ S with o:=(S.o.1+1,(S.o.1,o)::S.o.2) },y9 r S.o.1)
def kI (r:Rn) (v:Vl):Rn:={ r with cur:={ r.cur with n:=none },val:=v }
def cW (K:Ks) (f:Fr):Option Nd:=match f.n with|none=>none|some k=>aK k K.n.2
def bL (S:Ss):FV->Option (List Vl)
 |.nil=>some []
 |.nw xs=>some xs
 |.blk k n=>match aK k S.v.2 with
  |none=>none
  |some xs=>match Nat.ble n xs.length&&Nat.ble n 2000000 with|true=>some (xs.take n)|false=>none
def dY (S:Ss):FV->Ss
 |.blk k _=>{ S with v:=(S.v.1,iE k S.v.2) }
 |_=>S
def EL (n:Int):Nat:=match n==0 with|true=>2|false=>1
def mT (K:Ks) (S:Ss) (r:Rn) (f:Fr) (xs:List Vl):Option (Ss×Rn):=match cW K f with
 |none=>none
 |some n=>match xs with
  | []=>none
  |v::_=>match v.kind==3 with
   |false=>some (dV S r cK)
   |true=>match jn K.a n (EL v.num) with
    |none=>none
    |some j=>some (S,kJ r j f f.sc)
def OZ:TR.Pt->Int
 |.mk _ n _ _=>n
def qA (g:TR.Pt->Vl->aZ Sc×Option Nat->Option (Bool×(aZ Sc×Option Nat))):List TR.Pt->List Vl->aZ Sc×Option Nat->Option (Bool×(aZ Sc×Option Nat))
 | [],_,z=>some (true,z)
 |_::_,[],_=>none
 |x::r,v::s,z=>match g x v z with
  |none=>none
  |some (false,z2)=>some (false,z2)
  |some (true,z2)=>qA g r s z2
def mW:Nat->TR.Pt->Vl->aZ Sc×Option Nat->Option (Bool×(aZ Sc×Option Nat))
 |0,_,_,_=>none
 |n+1,p,v,z=>match p.kind==1 with
  |true=>some (true,z)
  |false=>match p.kind==2 with
   |true=>some (true,((z.1.1+1,(z.1.1,⟨p.text,v,z.2⟩)::z.1.2),some z.1.1))
   |false=>match p.kind==3 with
    |true=>some ((v.kind==2)&&(v.num==OZ p),z)
    |false=>match p.kind==4 with
     |true=>some ((v.kind==3)&&(v.num==OZ p),z)
     |false=>match p.kind==5 with
      |true=>some ((v.kind==4)&&kB v.text p.text,z)
      |false=>match p.kind==6 with
       |false=>some (false,z)
       |true=>match !(v.kind==5)||!(kB v.text p.text)||!(Nat.beq v.args.length p.args.length) with
        |true=>some (false,z)
        |false=>match Nat.ble p.args.length 2000000 with
         |false=>none
         |true=>qA (mW n) p.args v.args z
def uS (K:Ks) (n:Nd):Option (List Ar):=match n.dZ with
 |none=>some []
 |some q=>match aK q.1 K.b.2 with
  |none=>none
  |some l=>match Nat.ble q.2 l.length&&Nat.ble q.2 2000000 with|true=>some (l.take q.2)|false=>none
def kV (f:Fr) (v:Vl):List Ar->Ss->Rn->Option (Bool×Ss×Rn)
 | [],S,r=>some (false,S,r)
 |a::l,S,r=>match mW (TR.wP a.pat) a.pat v (S.s,f.sc) with
  |none=>none
  |some (true,z)=>some (true,{ S with s:=z.1 },kJ r a.body f z.2)
  |some (false,z)=>kV f v l { S with s:=z.1 } r
def nL (K:Ks) (S:Ss) (r:Rn) (f:Fr) (v:Vl):Option (Bool×Ss×Rn):=match cW K f with
 |none=>none
 |some n=>match uS K n with
  |none=>none
  |some l=>kV f v l S r
def kW (K:Ks) (S:Ss) (r:Rn) (f:Fr) (xs:List Vl):Option (Ss×Rn):=match xs with
 | []=>none
 |v::_=>match nL K S r f v with
  |none=>none
  |some (true,S2,r2)=>some (S2,r2)
  |some (false,S2,r2)=>some (dV S2 r2 Kb)
def Ey (K:Ks) (m:Mk) (v:Vl):Option (Option ByteArray):=match v.kind==5 with
 |true=>match aK m.makes K.mc.2 with
  |none=>none
  |some es=>match aV v.text es with
   |none=>some none
   |some c=>some (some c.data)
 |false=>match kB (qB v.kind) ⟨#[]⟩ with
  |true=>some none
  |false=>some (some (qB v.kind))
def pq (K:Ks) (trait typ name:ByteArray):List Im->Option (Option Fn)
 | []=>some none
 |x::r=>match kB x.trait trait&&kB x.typ typ with
  |true=>match aK x.funcs K.mf.2 with
   |none=>none
   |some es=>some (aV name es)
  |false=>pq K trait typ name r
def vf (K:Ks) (m:Mk):Option (List Im):=match m.impls with
 |none=>some []
 |some q=>match aK q.1 K.im.2 with
  |none=>none
  |some l=>match Nat.ble q.2 l.length&&Nat.ble q.2 2000000 with|true=>some (l.take q.2)|false=>none
def pI (K:Ks) (m:Mk) (name:ByteArray) (xs:List Vl):Option (Option Fn):=match aK m.funcs K.mf.2 with
 |none=>none
 |some es=>match aV name es with
  |some f=>some (some f)
  |none=>match aK m.traits K.mt.2 with
   |none=>none
   |some ts=>match aV name ts with
    |none=>some none
    |some trait=>match xs with
     | []=>some none
     |v::_=>match Ey K m v with
      |none=>none
      |some none=>some none
      |some (some t)=>match vf K m with
       |none=>none
       |some l=>pq K trait t name l
def AA (K:Ks) (mk:Mk) (j:Nat):Option Nat:=match mk.funs with
 |none=>none
 |some q=>match Nat.blt j q.2 with
  |false=>none
  |true=>match aK q.1 K.a.2 with
   |none=>none
   |some l=>l[j]?
def AE (t:ByteArray) (l:List Vl):List ByteArray->Nat->Nat->aZ Sc×Option Nat->Option (aZ Sc×Option Nat)
 | [],_,_,z=>some z
 |n::r,i,k,z=>match Nat.blt i t.size with
  |false=>none
  |true=>match (((t[i]?).getD 0).toNat:Int)==49 with
   |false=>AE t l r (i+1) k z
   |true=>match l[k]? with
    |none=>none
    |some v=>AE t l r (i+1) (k+1) ((z.1.1+1,(z.1.1,⟨n,v,z.2⟩)::z.1.2),some z.1.1)
def E4 (S:Ss) (r:Rn) (f:Fr) (names:List ByteArray) (body:Nat) (sc:Option Nat) (xs:List Vl):Option (Ss×Rn):=match Nat.ble names.length 2000000 with
 |false=>none
 |true=>match Nat.beq xs.length names.length with
  |false=>some (dV S r cK)
  |true=>match decide (f.depth>=60) with
   |true=>some (dV S r Ix)
   |false=>match kU names xs (S.s,sc) with
    |none=>none
    |some R=>some ({ S with s:=R.1 },{ r with cur:=⟨some body,R.2,.nil,IntKind.i64.wrap (f.depth+1),true⟩ })
def vT (K:Ks) (S:Ss) (r:Rn) (f:Fr) (xs:List Vl):Option (Ss×Rn):=match xs with
 | []=>none
 |v::vs=>match v.kind==7 with
  |false=>some (dV S r cK)
  |true=>match aK r.maker K.mm.2 with
   |none=>none
   |some m=>match (v.num.toNat:Int)==v.num with
    |false=>none
    |true=>match AA K m v.num.toNat with
     |none=>none
     |some c=>match aK c K.n.2 with
      |none=>none
      |some n=>match jn K.a n 0 with
       |none=>none
       |some b=>match Nat.ble n.free.length 2000000 with
        |false=>none
        |true=>match AE v.text v.args n.free 0 0 (S.s,none) with
         |none=>none
         |some Q=>E4 { S with s:=Q.1 } r f n.names b Q.2 vs
def uE (K:Ks) (S:Ss) (r:Rn) (f:Fr) (xs:List Vl):Option (Ss×Rn):=match cW K f with
 |none=>none
 |some n=>match n.kind==9 with
  |false=>vT K S r f xs
  |true=>match aK r.maker K.mm.2 with
   |none=>none
   |some m=>match pI K m n.text xs with
    |none=>none
    |some none=>some (dV S r Bj)
    |some (some fn)=>match Nat.ble fn.names.length 2000000 with
     |false=>none
     |true=>match Nat.beq xs.length fn.names.length with
     |false=>some (dV S r cK)
     |true=>match decide (f.depth>=60) with
      |true=>some (dV S r Ix)
      |false=>match kU fn.names xs (S.s,none) with
       |none=>none
       |some R=>some ({ S with s:=R.1 },{ r with cur:=⟨some fn.body,R.2,.nil,IntKind.i64.wrap (f.depth+1),true⟩ })
def mQ (S:Ss) (r:Rn) (f:Fr) (xs:List Vl):Option (Ss×Rn):=match Nat.ble xs.length 2000000&&Nat.ble r.names.length 2000000 with
 |false=>none
 |true=>match f.inFun||!(Nat.beq xs.length r.names.length) with
  |true=>some (dV S r cK)
  |false=>match mN S.c.2 xs with
   |none=>none
   |some true=>some (dV S r lQ)
   |some false=>match kU r.names xs (S.s,none) with
    |none=>none
    |some R=>some ({ S with s:=R.1 },oc r xs R.2)
def Aw (k n:Int):Ou:=⟨k,n,⟨#[]⟩,0,0,⟨#[]⟩,[],[]⟩
def Og (R:Ss×Rn):Ss×Rn:=(R.1,{ R.2 with mode:=2 })
def vQ (K:Ks) (S:Ss) (r:Rn) (n:Nd) (xs:List Vl):Option (Ss×Rn):=match aK r.maker K.mm.2 with
 |none=>none
 |some m=>match aK m.actors K.ma.2 with
  |none=>none
  |some es=>match aV n.text es with
   |none=>some (dV S r Bj)
   |some a=>match Nat.beq a.names.length xs.length with
    |false=>some (dV S r cK)
    |true=>match ox S.c S.g xs with
     |none=>none
     |some Q=>match kB Q.1.2 ⟨#[]⟩ with
      |false=>some (dV { S with c:=Q.2.1,g:=Q.2.2 } r Q.1.2)
      |true=>some (Og (nN { S with c:=Q.2.1,g:=Q.2.2 } r ⟨4,0,n.text,0,0,⟨#[]⟩,[],Q.1.1⟩))
def Bq (S:Ss) (r:Rn) (v:Vl) (vs:List Vl):Option (Ss×Rn):=match ox S.c S.g vs with
 |none=>none
 |some Q=>match kB Q.1.2 ⟨#[]⟩ with
  |false=>some (dV { S with c:=Q.2.1,g:=Q.2.2 } r Q.1.2)
  |true=>match Q.1.1 with
   | []=>none
   |.mk ok on ot oa::_=>some (nN { S with c:=Q.2.1,g:=Q.2.2 } r ⟨3,v.num,⟨#[]⟩,ok,on,ot,oa,[]⟩)
def jx (S:Ss) (r:Rn) (v:Vl) (k:Int) (R:Option (Ss×Rn)):Option (Ss×Rn):=match v.kind==k with
 |false=>some (dV S r cK)
 |true=>R
def qd (K:Ks) (S:Ss) (r:Rn) (f:Fr) (xs:List Vl):Option (Ss×Rn):=match cW K f with
 |none=>none
 |some n=>match n.kind==14 with
  |true=>vQ K S r n xs
  |false=>match xs with
   | []=>none
   |v::vs=>match n.kind==20 with
    |true=>jx S r v 2 (some (nN S r (Aw 2 v.num)))
    |false=>match n.kind==24 with
     |true=>jx S r v 6 (some (nN S r (Aw 5 v.num)))
     |false=>match n.kind==25 with
      |true=>jx S r v 6 (some (nN S r (Aw 6 v.num)))
      |false=>match n.kind==19 with
       |true=>jx S r v 4 (some (dV S r v.text))
       |false=>match n.kind==15 with
        |true=>jx S r v 6 (Bq S r v vs)
        |false=>none
def mV (op:ByteArray):Bool:=cT op 43||cT op 45||cT op 42||cT op 47||cT op 37||cT op 60
def IE:ByteArray:=⟨#[110,111,116]⟩
def GK:ByteArray:=⟨#[94]⟩
def er (op:ByteArray) (xs:List Vl):Option (Vl×ByteArray):=match mV op with
 |true=>match xs with
  | [a,b]=>match (a.kind==2)&&(b.kind==2) with
    |false=>some (zV,cK)
    |true=>match cT op 60 with
     |true=>some (vI 3 (bI (decide (a.num<b.num))),⟨#[]⟩)
     |false=>some (oL op a.num b.num)
  |_=>some (zV,cK)
 |false=>match cT op 61 with
  |true=>match xs with
   | [a,b]=>match rN (lu a) a b with
     |none=>none
     |some R=>some (vI 3 (bI R.1),R.2)
   |_=>some (zV,cK)
  |false=>match op.toList==GK.toList with
   |true=>match xs with
    | [a,b]=>match (a.kind==4)&&(b.kind==4) with
      |false=>some (zV,cK)
      |true=>match Nat.ble (a.text.size+b.text.size) 9223372036854775807 with
       |false=>none
       |true=>match decide (((a.text++b.text).size:Int)>64) with
        |true=>some (zV,lQ)
        |false=>some (.mk 4 0 (a.text++b.text) [] none,⟨#[]⟩)
    |_=>some (zV,cK)
   |false=>match op.toList==IE.toList with
    |false=>some (zV,cK)
    |true=>match xs with
     | [a]=>match a.kind==3 with
       |false=>some (zV,cK)
       |true=>some (vI 3 (bI (a.num==0)),⟨#[]⟩)
     |_=>some (zV,cK)
def uy (S:Ss) (r:Rn) (f:Fr):Option (Ss×Rn):=match r.stack with
 |none=>some ({ S with f:=(S.f.1+1,(S.f.1,[f])::S.f.2) },{ r with stack:=some (S.f.1,1) })
 |some q=>match aK q.1 S.f.2 with
  |none=>none
  |some l=>match Nat.ble q.2 l.length&&Nat.ble q.2 2000000 with
   |false=>none
   |true=>some ({ S with f:=(S.f.1+1,(S.f.1,l.take q.2++[f])::iE q.1 S.f.2) },{ r with stack:=some (S.f.1,q.2+1) })
def gD (K:Ks) (S:Ss) (r:Rn) (f:Fr) (n:Nd) (j:Nat):Option (Ss×Rn):=match uy S r f with
 |none=>none
 |some (S2,r2)=>match jn K.a n j with
  |none=>none
  |some c=>some (S2,kJ r2 c f f.sc)
def jB (K:Ks) (S:Ss) (r:Rn) (f:Fr):Option (Ss×Rn):=match cW K f with
 |none=>none
 |some n=>match bL S f.vals with
  |none=>none
  |some xs=>match gQ n with
   |false=>match er n.text xs with
    |none=>none
    |some R=>match kB R.2 ⟨#[]⟩ with
     |false=>some (dV (dY S f.vals) r R.2)
     |true=>some (dY S f.vals,kI r R.1)
   |true=>match xs with
    | [v]=>match v.kind==3 with
      |false=>some (dV S r cK)
      |true=>match !((!(v.num==0))==kB n.text FJ) with
       |true=>some (S,kI r v)
       |false=>gD K S r f n 1
    | [_,v]=>match v.kind==3 with
      |false=>some (dV S r cK)
      |true=>some (S,kI r v)
    |_=>none
def mK (K:Ks) (S:Ss) (r:Rn) (f:Fr) (xs:List Vl):Option ((Vl×ByteArray)×Ss):=match cW K f with
 |none=>none
 |some n=>match n.kind==1 with
  |true=>some ((vI 1 0,⟨#[]⟩),S)
  |false=>match n.kind==2 with
   |true=>some ((vI 2 n.num,⟨#[]⟩),S)
   |false=>match n.kind==3 with
    |true=>some ((vI 3 (bI (!(n.num==0))),⟨#[]⟩),S)
    |false=>match n.kind==4 with
     |true=>some ((.mk 4 0 n.text [] none,⟨#[]⟩),S)
     |false=>match n.kind==16 with
      |true=>some ((vI 6 r.self,⟨#[]⟩),S)
      |false=>match n.kind==5 with
       |true=>match findF S.s.2 n.text (S.s.1+1) f.sc with
        |none=>none
        |some none=>some ((zV,Bj),S)
        |some (some v)=>some ((v,⟨#[]⟩),S)
       |false=>match n.kind==12 with
        |true=>match aK r.maker K.mm.2 with
         |none=>none
         |some m=>match aK m.makes K.mc.2 with
          |none=>none
          |some es=>match aV n.text es with
           |none=>some ((zV,Bj),S)
           |some c=>match c.args==(xs.length:Int) with
            |false=>some ((zV,cK),S)
            |true=>match CZ S.c.2 (.mk 5 0 n.text xs none) with
             |none=>none
             |some R=>some (R,S)
        |false=>match n.kind==21 with
         |true=>match xs with
          | []=>none
          |v::_=>match CZ ((S.c.1,⟨false,v⟩)::S.c.2) (.mk 8 0 ⟨#[]⟩ [] (some S.c.1)) with
           |none=>none
           |some R=>some (R,{ S with c:=(S.c.1+1,(S.c.1,⟨false,v⟩)::S.c.2) })
         |false=>match n.kind==22 with
          |true=>match xs with
           | []=>none
           |v::_=>match Gp S.c.2 v with
            |none=>none
            |some R=>some (R,S)
          |false=>match n.kind==23 with
           |true=>match xs with
            |v::x::_=>match FF S.c v x with
             |none=>none
             |some R=>some ((vI 1 0,R.1),{ S with c:=R.2 })
            |_=>none
           |false=>some ((zV,cK),S)
def qQ (K:Ks) (S:Ss) (r:Rn) (f:Fr) (xs:List Vl):Option (Ss×Rn):=match mK K S r f xs with
 |none=>none
 |some (R,S2)=>match kB R.2 ⟨#[]⟩ with
  |false=>some (dV S2 r R.2)
  |true=>some (S2,kI r R.1)
def eL:FV->Nat
 |.nil=>0
 |.nw xs=>xs.length
 |.blk _ n=>n
def BW (K:Ks) (S:Ss) (r:Rn) (f:Fr) (n:Nd) (xs:List Vl):Option (Ss×Rn):=match jn K.a n 1 with
 |none=>none
 |some j=>match xs with
  | []=>none
  |v::_=>some ({ S with s:=(S.s.1+1,(S.s.1,⟨n.text,v,f.sc⟩)::S.s.2) },kJ r j f (some S.s.1))
def eI (K:Ks) (S:Ss) (r:Rn) (f:Fr) (n:Nd):Option (Ss×Rn):=match n.kind==6 with
 |true=>match bL S f.vals with
  |none=>none
  |some xs=>BW K S r f n xs
 |false=>match n.kind==8 with
  |true=>jB K S r f
  |false=>match bL S f.vals with
   |none=>none
   |some xs=>match n.kind==7 with
    |true=>mT K (dY S f.vals) r f xs
    |false=>match n.kind==13 with
     |true=>kW K (dY S f.vals) r f xs
     |false=>match (n.kind==9)||(n.kind==11) with
      |true=>uE K (dY S f.vals) r f xs
      |false=>match n.kind==17 with
       |true=>mQ (dY S f.vals) r f xs
       |false=>match (n.kind==15)||(n.kind==14)||(n.kind==20)||(n.kind==24)||(n.kind==25)||(n.kind==19) with
        |true=>qd K (dY S f.vals) r f xs
        |false=>qQ K (dY S f.vals) r f xs
def wL (M:List (Nat×Sc)) (fu:Nat) (sc:Option Nat):List ByteArray->List Int×List Vl->Option (List Int×List Vl)
 | [],q=>some q
 |s::r,q=>match findF M s fu sc with
  |none=>none
  |some none=>wL M fu sc r (q.1++[48],q.2)
  |some (some v)=>wL M fu sc r (q.1++[49],q.2++[v])
def vr (K:Ks) (S:Ss) (r:Rn) (f:Fr) (n:Nd):Option (Ss×Rn):=match Nat.ble n.free.length 2000000 with
 |false=>none
 |true=>match wL S.s.2 (S.s.1+1) f.sc n.free ([],[]) with
  |none=>none
  |some q=>match jg S.c.2 (.mk 7 n.fn (ju q.1) q.2 none) with
   |none=>none
   |some true=>some (dV S r lQ)
   |some false=>some (S,kI r (.mk 7 n.fn (ju q.1) q.2 none))
def zi:FV->Bool
 |.nw _=>true
 |_=>false
def iu (K:Ks) (S:Ss) (r:Rn) (f:Fr):Option (Ss×Rn):=match cW K f with
 |none=>none
 |some n=>match zi f.vals with
 |true=>none
 |false=>match decide ((eL f.vals:Int)<gU n) with
  |true=>gD K S r f n (eL f.vals)
  |false=>match decide ((fT n.args:Int)<n.needs) with
   |true=>some (dV S r cK)
   |false=>eI K S r f n
def sw (K:Ks) (S:Ss) (r:Rn) (f:Fr):Option (Ss×Rn):=match cW K f with
 |none=>none
 |some n=>match decide (n.needs<0) with
  |true=>some (dV S r cK)
  |false=>match decide ((fT n.args:Int)<n.needs) with
   |true=>iu K S r f
   |false=>match n.kind==10 with
    |true=>vr K S r f n
    |false=>match n.kind==18 with
     |true=>some ({ S with o:=(S.o.1+1,(S.o.1,iQ n)::S.o.2) },yq r f (iQ n) S.o.1)
     |false=>iu K S r f
def Bp (S:Ss) (x:Vl):FV->Option (Ss×FV)
 |.nil=>some ({ S with v:=(S.v.1+1,(S.v.1,[x])::S.v.2) },.blk S.v.1 1)
 |.nw _=>none
 |.blk k n=>match aK k S.v.2 with
  |none=>none
  |some l=>match Nat.ble n l.length&&Nat.ble n 2000000 with
   |false=>none
   |true=>some ({ S with v:=(S.v.1+1,(S.v.1,l.take n++[x])::iE k S.v.2) },.blk S.v.1 (n+1))
def E8:Ou:=⟨8,0,⟨#[]⟩,0,0,⟨#[]⟩,[],[]⟩
def nJ (K:Ks) (S:Ss) (r:Rn):Option (Ss×Rn):=match r.cur.n with
 |some _=>sw K S r r.cur
 |none=>match r.stack with
  |none=>some ({ S with o:=(S.o.1+1,(S.o.1,E8)::S.o.2) },uz r E8 S.o.1)
  |some (_,0)=>some ({ S with o:=(S.o.1+1,(S.o.1,E8)::S.o.2) },uz r E8 S.o.1)
  |some (q,j+1)=>match aK q S.f.2 with
   |none=>none
   |some l=>match l[j]? with
    |none=>none
    |some f=>match Nat.ble j 2000000 with
    |false=>none
    |true=>match Bp S r.val f.vals with
     |none=>none
     |some (S2,w)=>iu K S2 { r with stack:=some (q,j) } { f with vals:=w }
theorem choose_spec (K:Ks) (S:Ss) (zr:aZ Rn) (k:Nat) (r:Rn) (f:Fr) (xs:List Vl) (R:Ss×Rn) (hr:aK k zr.2=some r) (hf:f.vals=.nw xs) (hF:mT K S r f xs=some R):
 au Tryz.prog 245 [.p (.bH rS k),.p (.agg (ey f))] (hA K S zr) (.cI []) (hA K R.1 (zr.1,bf k R.2 zr.2)):=by
 have hfail:=cQ zr S.o k cK r hr;obtain⟨f1,f2,f3,f4,f5⟩:=f;dsimp only at hf;subst hf;have he:=fun j=>jL zr k j ⟨f1,f2,.nw xs,f4,f5⟩ f2 r hr;unfold mT cW at hF;dsimp only at hF
 cases f1 with
 |none=>cases hF
 |some kn=>
  dsimp only at hF
  cases hn:aK kn K.n.2 with
  |none=>rw[hn]at hF;cases hF
  |some n=>
   rw[hn]at hF
   cases xs with
   |nil=>cases hF
   |cons v xs=>
    obtain⟨vk,vn,vt,va,vc⟩:=v;dsimp only[Vl.kind,Vl.num]at hF;unfold hA gW Ef iZ yO ey at *;dsimp only[nq]at *
    cases hk:vk==3 with
    |false=>
     rw[hk]at hF;cases hF;refine au.iN av Tryz.func245 rfl (by rfl) (by kernel_rfl) rfl rfl ?_;(conv=>whnf);refine aq (i:=0) (x:=.agg [.i .i64 vk,.i .i64 vn,.s vt,.sl 5 (bz va),eP cS vc]) (by rw[aR];simp[eV]) ?_;(conv=>whnf);refine ai ?_ ?_<;>intro h0<;>conv=>whnf
     ·refine bh [1000000000,1000000001] 300 hfail ?_
      (conv=>whnf);refine⟨.inl rfl,by(repeat refine⟨s6,?_⟩);trivial⟩
     ·rw[show(vk==3)=true by simpa using h0]at hk;cases hk
    |true=>
     rw[hk]at hF;dsimp only at hF;generalize hJ:EL vn=J at hF;unfold EL at hJ
     cases ha:jn K.a n J with
     |none=>rw[ha]at hF;cases hF
     |some j=>
      rw[ha]at hF;cases hF;obtain⟨n1,n2,n3,n4,n5,n6,n7,n8,n9⟩:=n;unfold jn at ha;dsimp only at ha
      cases n5 with
      |none=>cases ha
      |some q=>
       obtain⟨q1,q2⟩:=q;dsimp only at ha
       cases hb:Nat.blt J q2 with
       |false=>rw[hb]at ha;cases ha
       |true=>
        rw[hb]at ha;dsimp only at ha
        cases hl:aK q1 K.a.2 with
        |none=>rw[hl]at ha;cases ha
        |some l=>
         rw[hl]at ha;dsimp only at ha;have hb1:J<q2:=by rw[Nat.blt_eq]at hb;exact hb
         have he:=he j;cases f2
         all_goals
          refine au.iN av Tryz.func245 rfl (by rfl) (by kernel_rfl) rfl rfl ?_;(conv=>whnf);refine aq (i:=0) (x:=.agg [.i .i64 vk,.i .i64 vn,.s vt,.sl 5 (bz va),eP cS vc]) (by rw[aR];simp[eV]) ?_;(conv=>whnf);refine bD (by simpa using hk) ?_;(conv=>whnf);refine ai ?_ ?_<;>intro h1<;>conv=>whnf
          ·rw[show(vn==0)=false by simpa using h1]at hJ
           subst hJ;refine bw dm hn rfl ?_;(conv=>whnf);refine ag ⟨by decide,hb1⟩ ?_;(conv=>whnf);refine ag ⟨rfl,by decide,.inr rfl⟩ ?_;refine⟨_,aj hl,?_⟩;refine aq (i:=1) (x:=.bH nS j) (by unfold rK;rw[List.getElem?_map,ha];rfl) ?_;(conv=>whnf);refine bh [1000000000] 300 he ?_;(conv=>whnf);refine ag (.inl (by kernel_rfl)) ?_;(conv=>whnf);refine⟨.inl rfl,by(repeat refine⟨s6,?_⟩);trivial⟩
          ·rw[show(vn==0)=true by simpa using h1]at hJ
           subst hJ;refine bw dm hn rfl ?_;(conv=>whnf);refine ag ⟨by decide,hb1⟩ ?_;(conv=>whnf);refine ag ⟨rfl,by decide,.inr rfl⟩ ?_;refine⟨_,aj hl,?_⟩;refine aq (i:=2) (x:=.bH nS j) (by unfold rK;rw[List.getElem?_map,ha];rfl) ?_;(conv=>whnf);refine bh [1000000000] 300 he ?_;(conv=>whnf);refine ag (.inl (by kernel_rfl)) ?_;(conv=>whnf);refine⟨.inl rfl,by(repeat refine⟨s6,?_⟩);trivial⟩
def Iu:Ou:=Aw 1 0
def uv (r:Rn):Bool:=match r.cur.n with
 |none=>true
 |some _=>match r.cur.vals with
  |.nil=>true
  |_=>false
def uO (K:Ks):Nat->Ss->Rn->Option (Ou×Ss×Rn)
 |0,S,r=>some (Iu,S,r)
 |n+1,S,r=>match (r.mode==1)||(r.mode==3) with
  |true=>some (r.last,S,r)
  |false=>match r.mode==2 with
   |true=>some (Iu,S,r)
   |false=>match uv r with
   |false=>none
   |true=>match nJ K S r with
    |none=>none
    |some (S2,r2)=>match r2.out with
     |none=>uO K n S2 r2
     |some a=>match aK a S2.o.2 with
      |none=>none
      |some o=>some (o,S2,{ r2 with out:=none })
end MN
end
