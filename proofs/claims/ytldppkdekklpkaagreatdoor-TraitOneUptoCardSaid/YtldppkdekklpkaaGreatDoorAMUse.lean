/- Part of a machine over plain values. No conditions. -/
import Derived.Test.YtldppkdekklpkaaGreatDoorAMCode
import Derived.WideKeyArgs
import Derived.ProofKit
import Derived.OpenShut
import Derived.SizedLaws
import Derived.Deep.CondSized
set_option linter.all false
section
namespace Go.AM
def cszOf (P:Program):Nat→Nat→List Nat
 |0,_=>[]
 |k+1,t=>match P.underlying t with
  |some (.slice el)=>[P.cellsOf el]
  |some (.struct fs)=>fs.toList.flatMap fun f=>cszOf P k f.type
  |some (.array m el)=>(List.range m).flatMap fun _=>cszOf P k el
  |_=>[1]
def isAggV:Value→Bool
 |.agg _=>true
 |_=>false
def goodTI (P:Program) (i:TypeInfo) (z:Value) (d:TypeDesc):Bool:=
 Nat.beq z.cells.toList.length i.size&&z.cells.toList.all (·.oneCell')&&(match d with
  |.struct fs=>(fs.toList.mapM (fun f=>(P.info? f.type).map fun i=>(f.offset,i.size))).isSome
  |_=>true)&&(isAggV z==isAggD d)
def eqKs (P:Program) (t:Nat) (d:TypeDesc):List KD:=
 let ks:=match d with
  |.struct fs=>match fs.toList.mapM (fun f=>kdT P f.type) with|some ks=>ks|none=>[]
  |.array m el=>match kdT P el with|some k=>List.replicate m k|none=>[]
  |_=>[]
 match eqOK P t ks with|true=>ks|false=>[]
def isPtrD:TypeDesc→Bool
 |.pointer _=>true
 |_=>false
def methAll (ms:Array Method):List (String×Nat):=ms.toList.filterMap fun m=>match m.func,m.path.isEmpty with
 |some (f,true),true=>some (m.name,f)
 |_,_=>none
def methOK1 (ms:Array Method) (p:String×Nat):Bool:=match ms.find? (·.name==p.1) with
 |some m=>(match m.func with|some (f,pt)=>Nat.beq f p.2&&pt|none=>false)&&m.path.isEmpty
 |none=>false
def methKs (i:TypeInfo):List (String×Nat):=match isPtrD i.desc with
 |true=>match (methAll i.methods).all (methOK1 i.methods) with|true=>methAll i.methods|false=>[]
 |false=>[]
theorem methKs_ok {P:Program} {t:Nat} {i:TypeInfo} (h:P.info? t=some i):∀p∈methKs i,Meth P t p.1 p.2:=by
 intro p hp x w;unfold methKs at hp;split at hp
 ·rename_i hd
  split at hp
  ·rename_i ha
   have hq:=List.all_eq_true.1 ha p hp;unfold methOK1 at hq;split at hq
   ·rename_i m hm
    simp only[Bool.and_eq_true]at hq;obtain⟨h1,h2⟩:=hq
    have hf:m.func=some (p.2,true):=by
     split at h1
     ·rename_i f pt hf;simp only[Bool.and_eq_true]at h1;obtain⟨q1,q2⟩:=h1;rw[hf,Nat.eq_of_beq_eq_true q1,q2]
     ·cases h1
    have hpath:m.path=#[]:=by simpa using h2
    have hdesc:∃el,i.desc=.pointer el:=by
     unfold isPtrD at hd;split at hd
     ·rename_i el he;exact⟨el,he⟩
     ·cases hd
    obtain⟨el,hel⟩:=hdesc
    have hund:P.underlying t=some (.pointer el):=by
     unfold Program.underlying;rw[h];obtain⟨d1,d2,d3,d4,d5,d6,d7,d8,d9,d10⟩:=i;subst hel;rfl
    have hti:(typeInfo t).run P w=.ok i w:=by simp[typeInfo,h]
    have hrec:∀s,(receiverAt t (.val x) true s).run P w=.ok x w:=fun s=>by
     simp[receiverAt,run_underlying hund,Place.get]
    obtain⟨k,hk⟩:∃k,P.types.size+Made.depth=k+1:=⟨P.types.size+99,rfl⟩
    rw[hk];unfold method;simp[hti,hm,hpath,follow,hf,hrec]
   ·cases hq
  ·cases hp
 ·cases hp
def tyOf (P:Program) (t:Nat):Option TI:=match P.info? t with
 |none=>none
 |some i=>match P.underlying t with
  |none=>none
  |some d=>match i.zero with
   |none=>none
   |some z=>match goodTI P i z d with
    |true=>some ⟨d,i.size,i.bytes,z.cells.toList,cszOf P 4 t,eqKs P t d,[],methKs i⟩
    |false=>none
theorem tyOf_ok (P:Program):TyOK P (tyOf P):=by
 intro t i hi;unfold tyOf at hi;split at hi
 ·cases hi
 ·rename_i inf hinf
  split at hi
  ·cases hi
  ·rename_i d hd
   split at hi
   ·cases hi
   ·rename_i z hz
    split at hi
    ·rename_i hg
     cases hi;simp only[goodTI,Bool.and_eq_true,beq_iff_eq]at hg;obtain⟨⟨⟨h1,h2⟩,h3⟩,h4⟩:=hg;refine⟨hd,⟨inf,z,hinf,rfl,rfl,hz,rfl,Nat.eq_of_beq_eq_true h1⟩,fun v hv=>List.all_eq_true.1 h2 v hv,?_,fun hag=>⟨inf,z,hinf,hz,?_⟩,fun hag=>⟨inf,z,hinf,hz,?_⟩,?_,fun fs hfs=>?_⟩
     ·simp only[eqKs]
      split
      ·rename_i q;exact .inr q
      ·exact .inl rfl
     ·simp only at hag
      rw[hag]at h4
      cases z<;>simp[isAggV]at h4
      exact⟨_,rfl⟩
     ·simp only at hag
      rw[hag]at h4
      cases z<;>first|rfl|(simp[isAggV]at h4)
     ·exact methKs_ok hinf
     ·simp only at hfs
      subst hfs;simp only at h3;exact Option.isSome_iff_exists.1 h3
    ·cases hi
def hint (ty:Nat→Option TI) (T:Nat) (l:List Nat) (t:Nat):Option TI:=match Nat.beq t T with
 |true=>match ty t with|some i=>some ⟨i.desc,i.size,i.bytes,i.zero,i.csz,i.eqs,l,i.meth⟩|none=>none
 |false=>ty t
theorem TyOK.hint {P:Program} {ty:Nat→Option TI} (h:TyOK P ty) (T:Nat) (l:List Nat):TyOK P (hint ty T l):=by
 intro t i hi;unfold AM.hint at hi;split at hi
 ·split at hi
  ·rename_i j hj
   cases hi;have:=h t j hj;exact⟨this.und,this.inf,this.one,this.eqs,this.agz,this.noz,this.mth,this.plc⟩
  ·cases hi
 ·exact h t i hi
def hintZ (ty:Nat→Option TI) (T:Nat) (z:List Nat) (t:Nat):Option TI:=match Nat.beq t T with
 |true=>match ty t with|some i=>some ⟨i.desc,i.size,i.bytes,i.zero,z,i.eqs,i.stk,i.meth⟩|none=>none
 |false=>ty t
theorem TyOK.hintZ {P:Program} {ty:Nat→Option TI} (h:TyOK P ty) (T:Nat) (z:List Nat):TyOK P (hintZ ty T z):=by
 intro t i hi;unfold AM.hintZ at hi;split at hi
 ·split at hi
  ·rename_i j hj
   cases hi;have:=h t j hj;exact⟨this.und,this.inf,this.one,this.eqs,this.agz,this.noz,this.mth,this.plc⟩
  ·cases hi
 ·exact h t i hi
mutual
def PV.wt:PV→Nat
 |.b _=>1
 |.i _ _=>1
 |.s x=>x.size+1
 |.sl _ xs=>PV.wts xs+1
 |.agg xs=>PV.wts xs
 |.bx xs=>PV.wts xs+1
 |.nilp=>1
 |.nsl=>1
 |.adr _ _=>1
 |.ads _ _ _=>1
 |.pa _ _ _ _ _ _ _=>1
 |.ifv _ x=>PV.wt x+1
 |.nifc=>1
 |.amp _ _=>1
def PV.wts:List PV→Nat
 | []=>0
 |x::r=>PV.wt x+PV.wts r
end
theorem PV.wts_append:∀(u v:List PV),PV.wts (u++v)=PV.wts u+PV.wts v
 | [],v=>by simp[PV.wts]
 |x::r,v=>by simp[PV.wts,PV.wts_append r v];omega
mutual
def bulkW {H:Type}:DataW H→Nat
 |.lit (.string bytes)=>bytes.length+1
 |.lit _=>1
 |.nil=>1
 |.ptr d=>bulkW d+1
 |.slice elems spare=>bulkAll elems+bulkAll spare+1
 |.agg parts=>bulkAll parts+1
 |.iface _ d=>bulkW d+1
 |.map entries=>bulkEntries entries+1
 |.held _=>1
def bulkAll {H:Type}:List (DataW H)→Nat
 | []=>0
 |d::r=>bulkW d+bulkAll r
def bulkEntries {H:Type}:List (Lit×DataW H)→Nat
 | []=>0
 |x::r=>bulkEntry x+bulkEntries r
def bulkEntry {H:Type}:Lit×DataW H→Nat
 |(.string bytes,d)=>bytes.length+bulkW d+1
 |(_,d)=>bulkW d+1
end
theorem bulkW_pos {H:Type} (d:DataW H):0<bulkW d:=by
 cases d with
 |lit l=>cases l<;>simp[bulkW]
 |_=>simp[bulkW]
theorem bulkAll_append {H:Type}:∀(a b:List (DataW H)),bulkAll (a++b)=bulkAll a+bulkAll b
 | [],b=>by simp[bulkAll]
 |x::r,b=>by simp[bulkAll,bulkAll_append r b];omega
theorem wts_range {H:Type}:∀(l:List (DataW H)) (f:Nat→PV),(∀(i:Nat) (d:DataW H),l[i]?=some d→PV.wt (f i)≤bulkW d)→PV.wts ((List.range l.length).map f)≤bulkAll l
 | [],f,_=>by simp[PV.wts,bulkAll]
 |d::l,f,h=>by
  have h1:=wts_range l (fun i=>f (i+1)) (fun i d' hi=>h (i+1) d' (by simpa using hi));have h2:=h 0 d rfl;rw[List.length_cons,List.range_succ_eq_map,List.map_cons,List.map_map];simp only[PV.wts,bulkAll];have e:(f ∘ Nat.succ)=fun i=>f (i+1):=rfl;rw[e];omega
def aggT (P:Program) (t:Nat):Bool:=match P.underlying t with|some d=>isAggD d|none=>false
inductive TP (P:Program):Nat→List PV→Prop
 |bool (t:Nat) (x:Bool) (h:P.underlying t=some .bool):TP P t [.b x]
 |int (t:Nat) (k:IntKind) (m:Int) (h:P.underlying t=some (.int k)) (hw:(Lit.int k m).wf=true):TP P t [.i k m]
 |str (t:Nat) (s:ByteArray) (h:P.underlying t=some .string) (hb:s.size≤140737488351232):TP P t [.s s]
 |sl (t e:Nat) (xs:List PV) (h:P.underlying t=some (.slice e)) (hb:xs.length*P.bytesOf e≤140737488351232) (hc:∀x∈xs,TP P e x.cells)
   (ha:∀x∈xs,(aggT P e=true→∃cs,x=.agg cs)∧(aggT P e=false→x.cells=[x])):TP P t [.sl (P.cellsOf e) xs]
 |struct (t:Nat) (fs:Array Field) (xs:List PV) (h:P.underlying t=some (.struct fs)) (hl:xs.length=P.cellsOf t) (hf:∀f∈fs.toList,TP P f.type ((xs.drop f.offset).take (P.cellsOf f.type))):TP P t xs
 |array (t m e:Nat) (xs:List PV) (h:P.underlying t=some (.array m e)) (hl:xs.length=P.cellsOf t) (hf:∀i,i<m→TP P e ((xs.drop (i*P.cellsOf e)).take (P.cellsOf e))):TP P t xs
def contig (P:Program):Nat→List Field→Nat→Bool
 |off,[],tot=>Nat.beq off tot
 |off,f::r,tot=>Nat.beq f.offset off&&contig P (off+P.cellsOf f.type) r tot
def plainRow (P:Program) (l:List Nat) (t:Nat):Bool:=match P.underlying t with
 |some .bool=>true
 |some (.int _)=>true
 |some .string=>true
 |some (.slice e)=>l.contains e&&Nat.blt 0 (P.cellsOf e)
 |some (.struct fs)=>fs.toList.all (fun f=>l.contains f.type)&&contig P 0 fs.toList (P.cellsOf t)
 |some (.array m e)=>l.contains e&&Nat.beq (P.cellsOf t) (m*P.cellsOf e)
 |_=>false
def plainB (P:Program) (l:List Nat):Bool:=l.all (plainRow P l)
def allG (w:World):Gh:={ pre:=fun b=>match w.heap[b]? with|some (.cells c _ _)=>c.size|_=>0,own:=fun _=>none,ρ:=fun _=>0,σ:=fun _ _=>none,sown:=fun _=>none }
theorem imm_all {w:World} {b o:Nat} {v:Value} (h:w.cell? ⟨b,o,none⟩=some v):imm (allG w) w b o=some v:=by
 simp only[imm_eq]
 have:o<(allG w).pre b:=by
  unfold World.cell? at h;simp only[allG];split at h
  ·rename_i c _ _ hb
   simp only at hb;rw[hb];simp at h;exact(Array.getElem?_eq_some_iff.1 h).1
  ·cases h
 rw[if_pos this];exact h
def CRel (M:Mm) (cs:List Value) (xs:List PV):Prop:=
 cs.length=xs.length∧(∀v∈cs,v.oneCell'=true)∧∀(j:Nat) (v:Value) (x:PV),cs[j]?=some v→xs[j]?=some x→PRel M v x
theorem CRel.one {M:Mm} {v:Value} {x:PV} (h:PRel M v x) (h1:v.oneCell'=true):CRel M [v] [x]:=
 ⟨rfl,by simpa using h1,fun j u y hu hy=>by cases j with|zero=>simp at hu hy;subst hu;subst hy;exact h|succ j=>simp at hu⟩
theorem CRel.append {M:Mm} {cs cs':List Value} {xs xs':List PV} (h:CRel M cs xs) (h':CRel M cs' xs'):CRel M (cs++cs') (xs++xs'):=by
 refine⟨by simp[h.1,h'.1],fun v hv=>(List.mem_append.1 hv).elim (h.2.1 v) (h'.2.1 v),fun j v x hv hx=>?_⟩
 by_cases hj:j<cs.length
 ·rw[List.getElem?_append_left hj]at hv
  rw[List.getElem?_append_left (by rw[←h.1];exact hj)]at hx;exact h.2.2 j v x hv hx
 ·rw[List.getElem?_append_right (by omega)]at hv
  rw[List.getElem?_append_right (by rw[←h.1];omega),←h.1]at hx;exact h'.2.2 _ v x hv hx
theorem mapM_all {α β:Type} {f:α→Option β}:∀{l:List α} {r:List β},l.mapM f=some r→r.length=l.length∧∀(j:Nat) (a:α),l[j]?=some a→∃b,f a=some b∧r[j]?=some b
 | [],r,h=>by simp at h;subst h;simp
 |x::l,r,h=>by
  simp only[List.mapM_cons,Option.bind_eq_bind,Option.pure_def]at h
  cases hx:f x with
  |none=>simp[hx]at h
  |some y=>
   cases hr:l.mapM f with
   |none=>simp[hx,hr]at h
   |some r1=>
    simp[hx,hr]at h;subst h;obtain⟨k1,k2⟩:=mapM_all hr;refine⟨by simp[k1],fun j a ha=>?_⟩
    cases j with
    |zero=>simp at ha;subst ha;exact⟨y,hx,rfl⟩
    |succ j=>simp at ha ⊢;exact k2 j a ha
theorem weightsAll_mem {H:Type} {P:Program} {e:TypeId}:∀{l:List (DataW H)} {d:DataW H},d∈l→∀x∈d.weights P e,x∈DataW.weightsAll P e l
 | [],d,h,x,hx=>by cases h
 |y::r,d,h,x,hx=>by
  simp only[DataW.weightsAll,List.mem_append];rcases List.mem_cons.1 h with rfl|h
  ·exact .inl hx
  ·exact .inr (weightsAll_mem h x hx)
theorem weightsEach_mem {H:Type} {P:Program}:∀{ts:List TypeId} {l:List (DataW H)} (j:Nat) {t:TypeId} {d:DataW H},ts[j]?=some t→l[j]?=some d→∀x∈d.weights P t,x∈DataW.weightsEach P ts l
 | [],l,j,t,d,h,_,x,hx=>by simp at h
 |t0::ts,[],j,t,d,_,h,x,hx=>by simp at h
 |t0::ts,d0::l,j,t,d,ht,hd,x,hx=>by
  simp only[DataW.weightsEach,List.mem_append]
  cases j with
  |zero=>simp at ht hd;subst ht;subst hd;exact .inl hx
  |succ j=>simp at ht hd;exact .inr (weightsEach_mem j ht hd x hx)
theorem drop_cons' {α:Type} {l:List α} {k:Nat} {a:α} (h:l[k]?=some a):l.drop k=a::l.drop (k+1):=by
 obtain⟨h1,h2⟩:=List.getElem?_eq_some_iff.1 h;rw[List.drop_eq_getElem_cons h1,h2]
theorem take_snoc' {α:Type} {l:List α} {k:Nat} {a:α} (h:l[k]?=some a):l.take (k+1)=l.take k++[a]:=by
 obtain⟨h1,h2⟩:=List.getElem?_eq_some_iff.1 h;rw[List.take_succ_eq_append_getElem h1,h2]
theorem trod_pv {H:Type} {enc:TypeId×Value→H} {P:Program} {w:World} {l:List Nat} (hl:plainB P l=true):∀(fuel:Nat) (t:TypeId) (cs:List Value) (d:DataW H) (ps:List MemPlace),t∈l→
 DataW.trod enc P w 0 (fun _=>true) true fuel t cs=some (d,ps)→(∀x∈d.weights P t,x≤reachBytes)→∃xs,TP P t xs∧CRel (imm (allG w) w) cs xs∧PV.wts xs≤bulkW d
 |0,t,cs,d,ps,_,h,_=>by simp[DataW.trod]at h
 |fuel+1,t,cs,d,ps,ht,h,hwt=>by
  have hrow:=List.all_eq_true.1 hl t ht;have hreach:reachBytes=140737488351232:=rfl;unfold plainRow at hrow;split at hrow
  ·rename_i hu
   obtain⟨b,rfl,_⟩:=DataW.trod_bool hu h;exact⟨[.b b],.bool t b hu,.one (.b b) rfl,by have:=bulkW_pos d;simp[PV.wts,PV.wt];omega⟩
  ·rename_i k hu
   obtain⟨m,rfl,_,hw⟩:=DataW.trod_int hu h;exact⟨[.i k m],.int t k m hu hw,.one (.i k m) rfl,by have:=bulkW_pos d;simp[PV.wts,PV.wt];omega⟩
  ·rename_i hu
   obtain⟨s,rfl,hx,hm⟩:=DataW.trod_string hu h;cases hx;have e:s.data.toList.length=s.size:=by rw[Array.length_toList];rfl
   refine⟨[.s s],.str t s hu ?_,.one (.s s) rfl,by simp only[PV.wts,PV.wt,bulkW,e];omega⟩;have:=hwt s.data.toList.length (by simp[DataW.weights]);rw[hreach]at this;omega
  ·rename_i e hu
   simp only[Bool.and_eq_true,List.contains_iff_mem]at hrow;obtain⟨hel,hpos⟩:=hrow;have hpos:0<P.cellsOf e:=by rw[Nat.blt_eq]at hpos;exact hpos
   rcases DataW.trod_slice hu h with⟨rfl,_⟩|⟨a,len,cap,elems,rest,m,hfm,rfl,hx,_,hlc,_,hlen,hget,hrest,_⟩
   ·refine⟨[.sl (P.cellsOf e) []],.sl t e [] hu (by simp) (by simp) (by simp),.one (.nil _) rfl,by have:=bulkW_pos d;simp[PV.wts,PV.wt];omega⟩
   ·cases hfm
    cases hx
    have hwall:∀d∈elems.map (·.1),∀x∈d.weights P e,x≤reachBytes:=by
     intro d hd x hx;refine hwt x ?_;simp only[DataW.weights,hu];exact List.mem_cons_of_mem _ (List.mem_append_left _ (weightsAll_mem hd x hx))
    have hbytes:len*P.bytesOf e≤140737488351232:=by
     have:=hwt ((elems.map (·.1)).length+(rest.map (·.1)).length|>(· * P.bytesOf e)) (by simp only[DataW.weights,hu];exact List.mem_cons_self);rw[hreach]at this;simp only[List.length_map,hlen]at this;have h2:len*P.bytesOf e≤(len+rest.length)*P.bytesOf e:=Nat.mul_le_mul_right _ (by omega);omega
    -- the elements,one by one
    have hel1:∀i,i<len→∃csi xsi,w.cells? 0 (a.add (i*P.cellsOf e)) (P.cellsOf e)=some csi∧TP P e xsi∧CRel (imm (allG w) w) csi xsi∧∀d',(elems.map (·.1))[i]?=some d'→PV.wts xsi≤bulkW d':=by
     intro i hi;have hg:=hget i hi;have hil:i<elems.length:=by omega
     rw[List.getElem?_eq_getElem hil,Option.bind_eq_some_iff]at hg;obtain⟨csi,hc,hd⟩:=hg;obtain⟨xsi,q1,q2,q3⟩:=trod_pv hl fuel e csi elems[i].1 elems[i].2 hel hd (hwall _ (List.mem_map.2 ⟨elems[i],List.getElem_mem hil,rfl⟩));exact⟨csi,xsi,hc,q1,q2,fun d' hd'=>by rw[List.getElem?_map,List.getElem?_eq_getElem hil]at hd';cases hd';exact q3⟩
    have hcells:∀{ad:Addr} {csi:List Value},w.cells? 0 ad (P.cellsOf e)=some csi→csi.length=P.cellsOf e∧∀(j:Nat) (v:Value),csi[j]?=some v→w.cell? (ad.add j)=some v:=by
     intro ad csi hc;unfold World.cells? at hc;rw[if_pos (Nat.zero_le _)]at hc;obtain⟨k1,k2⟩:=mapM_all hc;refine⟨by simpa using k1,fun j v hj=>?_⟩;have hjl:j<P.cellsOf e:=by have:=(List.getElem?_eq_some_iff.1 hj).1;rw[k1]at this;simpa using this
     obtain⟨b,hb1,hb2⟩:=k2 j j (by simp[hjl]);rw[hj]at hb2;cases hb2;exact hb1
    -- a choice of the elements
    have hch:∃g:Nat→List PV,∀i,i<len→∃csi,w.cells? 0 (a.add (i*P.cellsOf e)) (P.cellsOf e)=some csi∧TP P e (g i)∧CRel (imm (allG w) w) csi (g i)∧∀d',(elems.map (·.1))[i]?=some d'→PV.wts (g i)≤bulkW d':=by
     refine⟨fun i=>if hi:i<len then Classical.choose (Classical.choose_spec (hel1 i hi)) else [],fun i hi=>?_⟩;refine⟨Classical.choose (hel1 i hi),?_⟩;simp only[dif_pos hi];exact Classical.choose_spec (Classical.choose_spec (hel1 i hi))
    obtain⟨g,hg⟩:=hch
    have hglen:∀i,i<len→(g i).length=P.cellsOf e:=by
     intro i hi;obtain⟨csi,hc,_,hr,_⟩:=hg i hi;rw[←hr.1];exact(hcells hc).1
    have hspot:cap≠0→a.spot=none:=by
     intro hc0
     have key:∀{csi:List Value},w.cells? 0 (a.add (0*P.cellsOf e)) (P.cellsOf e)=some csi→a.spot=none:=by
      intro csi hc;obtain⟨k1,k2⟩:=hcells hc;have h0:0<csi.length:=by omega
      have:=k2 0 csi[0] (by simp[h0]);have ea:(a.add (0*P.cellsOf e)).add 0=a:=by simp[Addr.add]
      rw[ea]at this;unfold World.cell? at this
      cases hsp:a.spot with
      |none=>rfl
      |some q=>rw[hsp]at this;simp at this;split at this<;>cases this
     by_cases hl0:0<len
     ·obtain⟨csi,hc,_⟩:=hg 0 hl0;exact key hc
     ·obtain⟨hr1,hr2⟩:=hrest rfl
      have h0:0<rest.length:=by omega
      have:=hr2 0 (by omega);have hlen0:len=0:=by omega
      subst hlen0;rw[List.getElem?_eq_getElem h0,Option.bind_eq_some_iff]at this;obtain⟨csi,hc,_⟩:=this;exact key (by simpa using hc)
    -- the element az one value
    let el:List PV→PV:=fun xs=>if aggT P e then .agg xs else xs.headD (.b false)
    have hone:∀xs,TP P e xs→aggT P e=false→∃x,xs=[x]∧x.cells=[x]:=by
     intro xs hx ha
     cases hx with
     |bool _ x h=>exact⟨_,rfl,rfl⟩
     |int _ k m h hw=>exact⟨_,rfl,rfl⟩
     |str _ s h hb=>exact⟨_,rfl,rfl⟩
     |sl _ e' xs h=>exact⟨_,rfl,rfl⟩
     |struct _ fs _ h=>simp[aggT,h,isAggD]at ha
     |array _ m' e' _ h=>simp[aggT,h,isAggD]at ha
    have helc:∀xs,TP P e xs→(el xs).cells=xs:=by
     intro xs hx;simp only[el]
     by_cases ha:aggT P e=true
     ·rw[if_pos ha];rfl
     ·obtain⟨x,rfl,hxx⟩:=hone xs hx (by simpa using ha)
      rw[if_neg ha];exact hxx
    refine⟨[.sl (P.cellsOf e) ((List.range len).map fun i=>el (g i))],.sl t e _ hu (by simpa using hbytes) (fun x hx=>?_) (fun x hx=>?_),.one ?_ rfl,?_⟩
    ·obtain⟨i,hi,rfl⟩:=List.mem_map.1 hx
     obtain⟨_,_,q,_,_⟩:=hg i (by simpa using hi);rw[helc _ q];exact q
    ·obtain⟨i,hi,rfl⟩:=List.mem_map.1 hx
     obtain⟨_,_,q,_,_⟩:=hg i (by simpa using hi);refine⟨fun ha=>⟨g i,by simp only[el];rw[if_pos ha]⟩,fun ha=>?_⟩;obtain⟨x,hx1,hx2⟩:=hone _ q ha;simp only[el,ha,hx1];exact hx2
    ·have hL:len=((List.range len).map fun i=>el (g i)).length:=by simp
     have hsl:∀(L:Nat),L=((List.range len).map fun i=>el (g i)).length→PRel (imm (allG w) w) (.slice (some a) L cap) (.sl (P.cellsOf e) ((List.range len).map fun i=>el (g i))):=by
      intro L hL;subst hL
      have hchv:∃F:Nat→Nat→Value,∀(j i:Nat) (y:PV),j<len→(g j)[i]?=some y→imm (allG w) w a.block (a.off+j*P.cellsOf e+i)=some (F j i)∧(F j i).oneCell'=true∧PRel (imm (allG w) w) (F j i) y:=by
       refine⟨fun j i=>((w.cells? 0 (a.add (j*P.cellsOf e)) (P.cellsOf e)).getD [])[i]?.getD undef,fun j i y hj hy=>?_⟩;obtain⟨csi,hc,_,hr,_⟩:=hg j hj;obtain⟨k1,k2⟩:=hcells hc;have hil:i<csi.length:=by rw[hr.1];exact(List.getElem?_eq_some_iff.1 hy).1
       have hv:csi[i]?=some csi[i]:=List.getElem?_eq_getElem hil;simp only[hc,Option.getD_some,hv];refine⟨?_,hr.2.1 _ (List.getElem_mem hil),hr.2.2 i _ y hv hy⟩;have:=k2 i _ hv;have hs:=hspot (by omega);rw[Addr.add_of_spot hs,Addr.add_plain]at this;exact imm_all this
      obtain⟨F,hF⟩:=hchv;refine .sl a cap _ _ F hspot (by simpa using hlc) (fun x hx=>?_) (fun j x hj i y hi=>?_) (fun j x hj i y hi=>?_)
      ·obtain⟨i,hi,rfl⟩:=List.mem_map.1 hx
       obtain⟨_,_,q,_,_⟩:=hg i (by simpa using hi);rw[helc _ q];exact hglen i (by simpa using hi)
      all_goals
       have hjl:j<len:=by have:=(List.getElem?_eq_some_iff.1 hj).1;simpa using this
       rw[List.getElem?_map,List.getElem?_range hjl]at hj;simp only[Option.map_some,Option.some.injEq]at hj;subst hj;obtain⟨_,_,q,_,_⟩:=hg j hjl;rw[helc _ q]at hi;obtain⟨p1,p2,p3⟩:=hF j i y hjl hi
      ·exact⟨p1,p2⟩
      ·exact p3
     exact hsl len hL
    ·have hw:=wts_range (elems.map (·.1)) (fun i=>el (g i)) (fun i d' hd'=>by
      have hi:i<len:=by have:=(List.getElem?_eq_some_iff.1 hd').1;simp at this;omega
      obtain⟨_,_,q,_,q4⟩:=hg i hi
      have:PV.wt (el (g i))=PV.wts (g i):=by
       simp only[el]
       by_cases ha:aggT P e=true
       ·rw[if_pos ha];simp[PV.wt]
       ·rw[if_neg ha];obtain⟨x,hx1,hx2⟩:=hone _ q (by simpa using ha);rw[hx1];simp[PV.wts]
      rw[this];exact q4 d' hd')
     simp only[List.length_map,hlen]at hw;simp only[PV.wts,PV.wt,bulkW];omega
  ·rename_i fs hu
   simp only[Bool.and_eq_true,List.all_eq_true,List.contains_iff_mem]at hrow;obtain⟨hfl,hcon⟩:=hrow;obtain⟨xs,m,hfm,hx,hlen,hxl,hget⟩:=DataW.trod_struct hu h;cases hfm;cases hx
   have key:∀(r:List Field) (off k:Nat),contig P off r (P.cellsOf t)=true→(∀(j:Nat) (f:Field),r[j]?=some f→fs[k+j]?=some f)→off≤P.cellsOf t∧
    ∃ys,CRel (imm (allG w) w) (cs.drop off) ys∧PV.wts ys≤bulkAll ((xs.map (·.1)).drop k)∧∀f∈r,off≤f.offset∧TP P f.type ((ys.drop (f.offset-off)).take (P.cellsOf f.type)):=by
    intro r
    induction r with
    |nil=>
     intro off k hc _;have:off=P.cellsOf t:=Nat.eq_of_beq_eq_true hc;refine⟨by omega,[],?_,by simp[PV.wts],by simp⟩;rw[List.drop_eq_nil_of_le (by omega)];exact⟨rfl,by simp,by simp⟩
    |cons f r ih=>
     intro off k hc hr;simp only[contig,Bool.and_eq_true]at hc;obtain⟨hc1,hc2⟩:=hc;have hoff:f.offset=off:=Nat.eq_of_beq_eq_true hc1;obtain⟨i1,ys,i2,i4,i3⟩:=ih (off+P.cellsOf f.type) (k+1) hc2 (fun j f' hj=>by have:=hr (j+1) f' (by simpa using hj);rw[show k+1+j=k+(j+1) by omega];exact this);have hfk:fs[k]?=some f:=hr 0 f rfl;have hg:=hget k f hfk;have hkl:k<xs.length:=by rw[hxl];exact(Array.getElem?_eq_some_iff.1 hfk).1
     rw[List.getElem?_eq_getElem hkl,hoff]at hg;have hmem:f∈fs.toList:=by rw[←Array.getElem?_toList]at hfk;exact List.mem_of_getElem? hfk
     obtain⟨zs,z1,z2,z3⟩:=trod_pv hl fuel f.type _ xs[k].1 xs[k].2 (hfl f hmem) hg (fun x hx=>hwt x (by
      simp only[DataW.weights,hu];exact weightsEach_mem k (by rw[List.getElem?_map,Array.getElem?_toList,hfk];rfl) (by rw[List.getElem?_map,List.getElem?_eq_getElem hkl];rfl) x hx))
     have hzl:zs.length=P.cellsOf f.type:=by rw[←z2.1];simp;omega
     refine⟨by omega,zs++ys,?_,?_,fun f' hf'=>?_⟩
     ·have e1:cs.drop off=(cs.drop off).take (P.cellsOf f.type)++cs.drop (off+P.cellsOf f.type):=by
       rw[←List.drop_drop,List.take_append_drop]
      rw[e1];exact z2.append i2
     ·rw[PV.wts_append,drop_cons' (show(xs.map (·.1))[k]?=some xs[k].1 by rw[List.getElem?_map,List.getElem?_eq_getElem hkl];rfl)]
      simp only[bulkAll];omega
     ·rcases List.mem_cons.1 hf' with rfl|hf'
      ·refine⟨by omega,?_⟩
       rw[hoff,Nat.sub_self,List.drop_zero,List.take_append_of_le_length (by omega),List.take_of_length_le (by omega)];exact z1
      ·obtain⟨q1,q2⟩:=i3 f' hf'
       refine⟨by omega,?_⟩;rw[List.drop_append,List.drop_eq_nil_of_le (by omega),List.nil_append,hzl,show f'.offset-off-P.cellsOf f.type=f'.offset-(off+P.cellsOf f.type) by omega];exact q2
   obtain⟨_,ys,k1,k3,k2⟩:=key fs.toList 0 0 hcon (fun j f hj=>by rw[Nat.zero_add];simpa using hj);rw[List.drop_zero]at k1;exact⟨ys,.struct t fs ys hu (by rw[←k1.1,hlen]) (fun f hf=>by have:=(k2 f hf).2;simpa using this),k1,by simp only[List.drop_zero]at k3;simp only[bulkW];omega⟩
  ·rename_i m' e hu
   simp only[Bool.and_eq_true,List.contains_iff_mem]at hrow;obtain⟨hel,hsz⟩:=hrow;have hsz:P.cellsOf t=m'*P.cellsOf e:=Nat.eq_of_beq_eq_true hsz;obtain⟨xs,m,hfm,hx,hlen,hxl,hget⟩:=DataW.trod_array hu h;cases hfm;cases hx
   have key:∀k,k≤m'→∃ys,CRel (imm (allG w) w) (cs.take (k*P.cellsOf e)) ys∧PV.wts ys≤bulkAll ((xs.map (·.1)).take k)∧∀i,i<k→TP P e ((ys.drop (i*P.cellsOf e)).take (P.cellsOf e)):=by
    intro k
    induction k with
    |zero=>intro _;exact⟨[],⟨by simp,by simp,by simp⟩,by simp[PV.wts],by simp⟩
    |succ k ih=>
     intro hk;obtain⟨ys,y1,y3,y2⟩:=ih (by omega);have hg:=hget k (by omega);have hkl:k<xs.length:=by omega
     rw[List.getElem?_eq_getElem hkl]at hg
     obtain⟨zs,z1,z2,z3⟩:=trod_pv hl fuel e _ xs[k].1 xs[k].2 hel hg (fun x hx=>hwt x (by
      simp only[DataW.weights,hu];exact weightsAll_mem (List.mem_map.2 ⟨xs[k],List.getElem_mem hkl,rfl⟩) x hx))
     have hmul:(k+1)*P.cellsOf e≤m'*P.cellsOf e:=Nat.mul_le_mul_right _ hk;have hadd:(k+1)*P.cellsOf e=k*P.cellsOf e+P.cellsOf e:=Nat.succ_mul _ _;have hzl:zs.length=P.cellsOf e:=by rw[←z2.1];simp;omega
     have hyl:ys.length=k*P.cellsOf e:=by rw[←y1.1];simp;omega
     refine⟨ys++zs,?_,?_,fun i hi=>?_⟩
     ·have e1:cs.take ((k+1)*P.cellsOf e)=cs.take (k*P.cellsOf e)++(cs.drop (k*P.cellsOf e)).take (P.cellsOf e):=by
       rw[hadd,List.take_add]
      rw[e1];exact y1.append z2
     ·have hk2:(xs.map (·.1))[k]?=some xs[k].1:=by rw[List.getElem?_map,List.getElem?_eq_getElem hkl];rfl
      rw[PV.wts_append,take_snoc' hk2,bulkAll_append];simp only[bulkAll];omega
     ·by_cases hik:i<k
      ·have hle:(i+1)*P.cellsOf e≤k*P.cellsOf e:=Nat.mul_le_mul_right _ hik
       have hadd2:(i+1)*P.cellsOf e=i*P.cellsOf e+P.cellsOf e:=Nat.succ_mul _ _;rw[List.drop_append_of_le_length (by omega),List.take_append_of_le_length (by simp;omega)];exact y2 i hik
      ·obtain rfl:i=k:=by omega
       rw[List.drop_append,List.drop_eq_nil_of_le (by omega),List.nil_append,hyl,Nat.sub_self,List.drop_zero,List.take_of_length_le (by omega)];exact z1
   obtain⟨ys,y1,y3,y2⟩:=key m' (Nat.le_refl _);rw[List.take_of_length_le (by omega)]at y1;exact⟨ys,.array t m' e ys hu (by rw[←y1.1,hlen]) y2,y1,by rw[List.take_of_length_le (by simp;omega)]at y3;simp only[bulkW];omega⟩
  ·cases hrow
end Go.AM
end
section
namespace Go.AM
open Go.ChangeShapes Go.WideShapes Go.ChangeAt Go.RowKit
theorem Ext.grown {g:Gh} {w:World} {g':Gh} {w':World} (h:Ext g w g' w') (hno:∀b,g.own b=none):w.keptBut w' (fun _=>False)∧∀a:Addr,a.block<w.heap.size→w'.frozen? a=w.frozen? a:=by
 refine⟨⟨h.os,h.out,fun i hi=>?_⟩,fun a ha=>h.frz' a ha⟩;rw[(h.kept i hi (hno i)).1]
 cases hq:w.heap[i]? with
 |none=>rfl
 |some o=>cases o<;>simp
open DataW in
theorem post_of_same2 {H:Type} {enc:TypeId×Value→H} {P:Program} {f:Func} {s:ChangeSpec} {apart fresh handsOn again:Bool} {W W':World} {args:Array Value} {v:Value} {ds gs:List (DataW H)} {before pa pv:List MemPlace}
 (hW:DataW.Whole enc P f.params.toList s.vars apart W args.toList ds gs before)
 (hres:∀(b:Nat) (sp:Nat→Bool) (hd:Bool),DataW.TrodAll enc P W' b sp hd f.resultTypes.toList (v.resultList f.resultTypes.size) (s.fn H (ds++gs)).results [])
 (hargs:∀sp:Nat→Bool,(∀p∈before,sp p.block=true)→DataW.TrodAll enc P W' 0 sp true f.params.toList args.toList (s.fn H (ds++gs)).args pa)
 (hvars:∀sp:Nat→Bool,(∀p∈before,sp p.block=true)→DataW.TrodVars enc P W' sp s.vars (s.fn H (ds++gs)).vars pv)
 (hps:before=pa++pv) (hk:W.keptBut W' (·∈before)) (hfz:∀a:Addr,a.block<W.heap.size→W'.frozen? a=W.frozen? a)
 (hok:∀(j:Nat) (t:TypeId) (r:Value),f.resultTypes[j]?=some t→(v.resultList f.resultTypes.size)[j]?=some r→Value.okWide P W' .any 0 t r):
 s.post enc P f apart fresh handsOn again W args v W':=by
 have hold:∀p∈before,(fun b=>decide (b<W.heap.size)) p.block=true:=fun p hp=>by simpa using hW.lt p hp
 have hlt:=hW.lt;refine⟨ds,gs,before,[],pa,pv,hW,hres _ _ _,hargs _ hold,hvars _ hold,World.keptBut_mono (fun p hp=>⟨hp,?_⟩) hk,fun _=>?_⟩
 ·rw[hps,List.mem_append]at hp
  exact Or.inr hp
 ·obtain⟨_,_,_,_,_,hz,hn⟩:=hW
  refine⟨hok,_,_,([]++pa)++pv,⟨[]++pa,pv,trodAll_append (hargs _ (fun _ _=>rfl)) (hres _ _ _),hvars _ (fun _ _=>rfl),rfl,?_,?_⟩,?_⟩
  ·intro b off hp
   have hp2:MemPlace.cell b off∈before:=by rw[hps];simpa using hp
   rw[hfz _ (hlt _ hp2)];exact hz b off hp2
  ·intro ha
   have:=hn ha;rw[hps]at this;simpa using this
  ·intro p hp _
   rw[hps];simpa using hp
def mkArg (P:Program) (t:Nat) (xs:List PV):AV:=if aggT P t then .p (.agg xs) else .p (xs.headD (.b false))
def mkArgs (P:Program):List Nat→List (List PV)→List AV
 |t::ts,x::xs=>mkArg P t x::mkArgs P ts xs
 |_,_=>[]
inductive TPs (P:Program):List Nat→List (List PV)→Prop
 |nil:TPs P [] []
 |cons (t:Nat) (ts:List Nat) (x:List PV) (xs:List (List PV)) (h:TP P t x) (hs:TPs P ts xs):TPs P (t::ts) (x::xs)
def wtss:List (List PV)→Nat
 | []=>0
 |x::r=>PV.wts x+wtss r
theorem okWide_notAgg {P:Program} {w:World} {base:Nat} {t:TypeId} {l:List Nat} (hp:plainRow P l t=true) (ha:aggT P t=false) {v:Value} (h:Value.okWide P w .any base t v):v.cells=#[v]:=by
 cases v with
 |agg cs=>
  exfalso;unfold plainRow at hp;unfold Value.okWide Cell.okWide Cell.ok at h;split at hp
  all_goals first
   |(rename_i hu;simp[hu]at h;done)
   |(rename_i k hu;simp[hu]at h;done)
   |(rename_i fs hu;simp[aggT,hu,isAggD]at ha;done)
   |(rename_i m e hu;simp[aggT,hu,isAggD]at ha;done)
   |(cases hp;done)
 |_=>rfl
theorem args_rel {H:Type} {enc:TypeId×Value→H} {P:Program} {W:World} {base:Nat} {l:List Nat} (hl:plainB P l=true):∀(ts:List TypeId) (vs:List Value) (ds:List (DataW H)) (ps:List MemPlace),(∀t∈ts,t∈l)→
 DataW.TrodAll enc P W 0 (fun _=>true) true ts vs ds ps→(∀(j:Nat) (t:TypeId) (v:Value),ts[j]?=some t→vs[j]?=some v→Value.okWide P W .any base t v)→(∀x∈DataW.weightsEach P ts ds,x≤reachBytes)→
 ∃xss,TPs P ts xss∧vs.length=(mkArgs P ts xss).length∧(∀(j:Nat) (v:Value) (x:AV),vs[j]?=some v→(mkArgs P ts xss)[j]?=some x→VRel (allG W) W (fun _=>False) none v x)∧wtss xss≤bulkAll ds
 | [],[],[],ps,_,_,_,_=>⟨[],.nil,rfl,by simp,by simp[wtss]⟩
 |t::ts,v::vs,d::ds,ps,htl,h,hval,hw=>by
  obtain⟨p,q,⟨fuel,h1⟩,h2,_⟩:=h;obtain⟨xs,k1,k2,k3⟩:=trod_pv hl fuel t _ d p (htl t (by simp)) h1 (fun x hx=>hw x (by simp only[DataW.weightsEach,List.mem_append];exact .inl hx));obtain⟨xss,r1,r2,r3,r4⟩:=args_rel hl ts vs ds q (fun t' ht'=>htl t' (by simp[ht'])) h2 (fun j t' v' a b=>hval (j+1) t' v' (by simpa using a) (by simpa using b)) (fun x hx=>hw x (by simp only[DataW.weightsEach,List.mem_append];exact .inr hx));refine⟨xs::xss,.cons t ts xs xss k1 r1,by simp[mkArgs,r2],fun j v' x hv hx=>?_,by simp only[wtss,bulkAll];omega⟩
  cases j with
  |zero=>
   simp only[List.getElem?_cons_zero,Option.some.injEq,mkArgs]at hv hx;subst hv;subst hx;have hok:=hval 0 t v rfl rfl;have hrow:=List.all_eq_true.1 hl t (htl t (by simp));unfold mkArg
   by_cases ha:aggT P t=true
   ·rw[if_pos ha]
    have:∃cs,v=.agg cs:=by
     unfold Value.okWide at hok;unfold aggT at ha;split at hok
     ·obtain⟨cs,hc,_⟩:=hok;exact⟨cs,hc⟩
     ·obtain⟨cs,hc,_⟩:=hok;exact⟨cs,hc⟩
     ·rename_i n1 n2
      cases hu:P.underlying t with
      |none=>simp[hu]at ha
      |some dd=>
       rw[hu]at ha
       cases dd with
       |struct fs=>exact absurd hu (n1 fs)
       |array m e=>exact absurd hu (n2 m e)
       |_=>simp[isAggD]at ha
    obtain⟨cs,rfl⟩:=this;simp only[Value.cells]at k2;have:=PRel.agg cs.toList xs k2.1 k2.2.1 k2.2.2;exact .p _ _ _ (by simpa using this)
   ·rw[if_neg ha]
    have hc:=okWide_notAgg hrow (by simpa using ha) hok;rw[hc]at k2;have hxl:xs.length=1:=by rw[←k2.1];rfl
    match xs,hxl with
    | [x],_=>exact .p _ _ _ (k2.2.2 0 v x rfl rfl)
  |succ j=>simp only[List.getElem?_cons_succ,mkArgs]at hv hx;exact r3 j v' x hv hx
 | [],_::_,_,_,_,h,_,_=>by simp[DataW.TrodAll]at h
 | [],[],_::_,_,_,h,_,_=>by simp[DataW.TrodAll]at h
 |_::_,[],_,_,_,h,_,_=>by simp[DataW.TrodAll]at h
 |_::_,_::_,[],_,_,h,_,_=>by simp[DataW.TrodAll]at h
theorem TrodAll_stays {H:Type} {enc:TypeId×Value→H} {P:Program} {W W':World} {sp':Nat→Bool} (hlaid:laidOutB P=true):∀(ts:List TypeId) (vs:List Value) (ds:List (DataW H)) (ps:List MemPlace),(∀t∈ts,P.readableRec t=true∧t<P.types.size)→
 DataW.TrodAll enc P W 0 (fun _=>true) true ts vs ds ps→(∀p∈ps,W.sameAt W' p)→(∀p∈ps,sp' p.block=true)→DataW.TrodAll enc P W' 0 sp' true ts vs ds ps
 | [],[],[],ps,_,h,_,_=>h
 |t::ts,v::vs,d::ds,ps,hr,h,hs,hb=>by
  obtain⟨p,q,h1,h2,rfl⟩:=h;obtain⟨r1,r2⟩:=hr t (by simp)
  exact⟨p,q,WideElems.Trod_stays hlaid r1 r2 h1 (fun x hx=>hs x (by simp[hx])) (fun x hx=>hb x (by simp[hx])),
   TrodAll_stays hlaid ts vs ds q (fun t' ht'=>hr t' (by simp[ht'])) h2 (fun x hx=>hs x (by simp[hx])) (fun x hx=>hb x (by simp[hx])),rfl⟩
 | [],_::_,_,_,_,h,_,_=>by simp[DataW.TrodAll]at h
 | [],[],_::_,_,_,h,_,_=>by simp[DataW.TrodAll]at h
 |_::_,[],_,_,_,h,_,_=>by simp[DataW.TrodAll]at h
 |_::_,_::_,[],_,_,h,_,_=>by simp[DataW.TrodAll]at h
end Go.AM
end
section
namespace Go.AM
theorem asplit {g:Bool} {X Y:Prop} (h1:g=true→X) (h2:g=false→Y):ASplit g X Y:=by cases g;exact h2 rfl;exact h1 rfl
theorem wrap64 {x:Int} (h1:-9223372036854775808≤x) (h2:x≤9223372036854775807):IntKind.i64.wrap x=x:=by
 unfold IntKind.wrap;simp[IntKind.bits,IntKind.signed];omega
theorem aidx {α:Type} {xs:List α} {f:α→PV} {k:Nat} {a:α} {K:PV→Prop} (h:xs[k]?=some a) (hk:K (f a)):AIdx (xs.map f) k K:=
 ⟨f a,by omega,by simp[h],hk⟩
theorem aneed {c K:Prop} (h1:c) (h2:K):ANeed c K:=⟨h1,h2⟩
theorem apc {P:Program} {f:Nat} {args:List AV} {h:Heap} {r:AV} {K:List Nat→Heap→AV→Prop} (s:APure P f args r) (hk:K [] [] r) (hf:AV.frees args=true:=by rfl):pcall P f args h K:=.pure r hf s hk
theorem amc {P:Program} {f:Nat} {args:List AV} {h hs h':Heap} {r:AV} {K:List Nat→Heap→AV→Prop} (R:List Nat) (B:Nat) (s:AMem P f (AV.rens (toBig R 0) args) hs r h') (hk:K R (backH R B h') (r.ren (ofBig R B)))
 (h2:subH h (toBig R 0) (memB R) R 0=some hs:=by rfl) (h1:(AV.withins (memB R) args&&nodupB R)=true:=by rfl) (h3:(nodupB (keysOf h')&&newCk h B R.length (keysOf h')&&allKeys (keysOf h') R.length)=true:=by rfl):pcall P f args h K:=
 .mem R B hs r h' h1 h2 s h3 hk
theorem amr {P:Program} {f:Nat} {args:List AV} {h hs h':Heap} {r:AV} {K:List Nat→Heap→AV→Prop} (R:List Nat) (B:Nat) (s:AMem P f (AV.rens (toBig R 0) args) hs r h') (hk:K R [] (r.ren (ofBig R B)))
 (hro:roOK R h (backH R B h'):=by first|exact⟨rfl,rfl,trivial⟩|exact⟨rfl,rfl,rfl,rfl,trivial⟩|exact⟨rfl,rfl,rfl,rfl,rfl,rfl,trivial⟩|exact⟨rfl,rfl,rfl,rfl,rfl,rfl,rfl,rfl,trivial⟩|exact⟨rfl,rfl,rfl,rfl,rfl,rfl,rfl,rfl,rfl,rfl,trivial⟩)
 (h2:subH h (toBig R 0) (memB R) R 0=some hs:=by rfl) (h1:(AV.withins (memB R) args&&nodupB R)=true:=by rfl) (h3:(nodupB (keysOf h')&&newCk h B R.length (keysOf h')&&allKeys (keysOf h') R.length)=true:=by rfl):pcall P f args h K:=
 .ro R B hs r h' h1 h2 s h3 hro hk
theorem alook {es:List (PV×PV)} {k z x:PV} {b:Bool} {K:PV→Bool→Prop} (h:mlook k z es=(x,b)) (hk:K x b):ALook es k z K:=⟨x,b,h,hk⟩
theorem pb {x y:Bool} (h:x=y):AV.p (.b x)=.p (.b y):=by rw[h]
theorem pi {k:IntKind} {x y:Int} (h:x=y):AV.p (.i k x)=.p (.i k y):=by rw[h]
theorem APure.nilOrNot {P:Program} {f:Nat} {pre post:List AV} {sz:Nat} {r:AV} (h1:APure P f (pre++.nilS::post) r) (h2:APure P f (pre++.es sz::post) r):APure P f (pre++.p (.sl sz [])::post) r:=by
 refine⟨h1.1,fun g w vs hno hsw hl hrel=>?_⟩;have hlen:pre.length<vs.length:=by rw[hl];simp
 have hv:vs[pre.length]?=some vs[pre.length]:=List.getElem?_eq_getElem hlen;have hr:=(hrel pre.length _ (.p (.sl sz [])) hv (by simp)).pv
 have other:∀(y:AV),VRel g w (fun _=>False) none vs[pre.length] y→∀(j:Nat) (v:Value) (x:AV),vs[j]?=some v→(pre++y::post)[j]?=some x→VRel g w (fun _=>False) none v x:=by
  intro y hy j v x q1 q2
  by_cases hj:j=pre.length
  ·subst hj
   rw[hv]at q1;cases q1;simp at q2;subst q2;exact hy
  ·refine hrel j v x q1 ?_
   rw[←q2];rcases Nat.lt_or_gt_of_ne hj with q|q
   ·rw[List.getElem?_append_left q,List.getElem?_append_left q]
   ·rw[List.getElem?_append_right (by omega),List.getElem?_append_right (by omega)]
    obtain⟨i,hi⟩:∃i,j-pre.length=i+1:=⟨j-pre.length-1,by omega⟩
    rw[hi];simp
 generalize hval:vs[pre.length]=u at hr
 cases hr with
 |nil=>exact h1.2 g w vs hno hsw (by rw[hl];simp) (other .nilS (by rw[hval];exact .nilS _))
 |sl a cap _ _ f hs=>exact h2.2 g w vs hno hsw (by rw[hl];simp) (other (.es sz) (by rw[hval];exact .es _ a cap sz hs))
end Go.AM
namespace Go.AM
theorem inc64 {k:Nat} (h:k<9223372036854775807):IntKind.i64.wrap ((k:Int)+1)=((k+1:Nat):Int):=by rw[wrap64 (by omega) (by omega)];omega
theorem drop_cons {α:Type} {l:List α} {k:Nat} {a:α} (h:l[k]?=some a):l.drop k=a::l.drop (k+1):=by
 obtain⟨h1,h2⟩:=List.getElem?_eq_some_iff.1 h;rw[List.drop_eq_getElem_cons h1,h2]
theorem take_snoc {α:Type} {l:List α} {k:Nat} {a:α} (h:l[k]?=some a):l.take (k+1)=l.take k++[a]:=by
 obtain⟨h1,h2⟩:=List.getElem?_eq_some_iff.1 h;rw[List.take_succ_eq_append_getElem h1,h2]
end Go.AM
namespace Go.AM
theorem lp_nil {P:Program} {n:Nat} {c:Code} {K:Exit→Env→Heap→Prop} {e:Env} {h:Heap} (i sz:Nat) (hi:eget e i=.nilS) (hk:lpOf P n c K ((i,.so (sz+1) [])::e) h):lpOf P n c K e h:=by
 intro g0 w0 g w a s hE;refine hk g0 w0 g w a ⟨s.defers,s.size,fun j=>?_,s.heap,s.bnd⟩ hE
 by_cases q:i=j
 ·subst q
  rw[eget_self];have:=s.env i;rw[hi]at this;generalize a.tmps.getD i undef=v at this;cases this;exact .full _ none (sz+1) [] (by omega) (.nil _)
 ·rw[eget_ne q];exact s.env j
end Go.AM
namespace Go.AM
def ix:Nat→Int
 |0=>0
 |k+1=>IntKind.i64.wrap (ix k+1)
theorem ix_eq:∀{k:Nat},k≤9223372036854775807→ix k=k
 |0,_=>rfl
 |k+1,h=>by rw[ix,ix_eq (by omega),wrap64 (by omega) (by omega)];omega
theorem ix_tt {k n:Nat} {m:Int} (h:decide (ix k<m)=true) (hm:m=n) (hk:k≤n) (hn:n<9223372036854775807):k<n:=by
 rw[ix_eq (by omega)]at h;have:=of_decide_eq_true h;omega
theorem ix_ff {k n:Nat} {m:Int} (h:decide (ix k<m)=false) (hm:m=n) (hk:k≤n) (hn:n<9223372036854775807):k=n:=by
 rw[ix_eq (by omega)]at h;have:=of_decide_eq_false h;omega
theorem aidxk {xs:List PV} {k:Nat} {x:PV} {K:PV→Prop} (h:xs[k]?=some x) (hk:k≤9223372036854775807) (hK:K x):AIdx xs (ix k) K:=
 ⟨x,by rw[ix_eq hk];omega,by rw[ix_eq hk];simpa using h,hK⟩
def Atv (lv ll:List Nat) (vals:List AV) (objs:List AObj) (e:Env) (h:Heap):Prop:=
 ll.map (hget h)=objs.map some∧lv.map (eget e)=vals∧AV.withins (memB ll) vals=true∧withinObjs (memB ll) objs=true
theorem loopS {P:Program} {ty:Nat→Option TI} {nt:Nat} (hty:TyOK P ty) (hmix:P.follows .mixedOrders=true) {c:Code} (hok:codeOK nt c=true) {K:Exit→Env→Heap→Prop} {σ:Type} (n:Nat) (lv ll:List Nat) (V:Nat→σ→List AV) (O:Nat→σ→List AObj) (Q:Nat→σ→Prop)
 {e:Env} {h:Heap} (s0:σ) (h0:Atv lv ll (V 0 s0) (O 0 s0) e h) (hQ:Q 0 s0)
 (round:∀k s,k≤n→Q k s→awp ty (pcall P) (lpOf P nt) c (fun x e' h'=>match x with|.normal=>k<n∧∃s',Atv lv ll (V (k+1) s') (O (k+1) s') e' h'∧Q (k+1) s'|x=>K x e' h') (lv.zip (V k s)) (ll.zip (O k s))):lpOf P nt c K e h:=by
 have mask:∀{k s e h},Atv lv ll (V k s) (O k s) e h→∀g w a,Sim g w nt a e h→Sim g w nt a (lv.zip (V k s)) (ll.zip (O k s)):=by
  intro k s e h ha g w a hs;have:=hs.mask (lv:=lv) (ll:=ll) ha.1 (by rw[ha.2.1];exact ha.2.2.1) ha.2.2.2;rw[ha.2.1]at this;exact this
 refine AWp.loop (K:=K) (fun m e h=>∃k s,m+k=n∧Q k s∧∀g w a,Sim g w nt a e h→Sim g w nt a (lv.zip (V k s)) (ll.zip (O k s))) (m:=n) ⟨0,s0,rfl,hQ,mask h0⟩ ?_;rintro m e h ⟨k,s,hk,hq,hsim⟩ g0 w0 g w a hs hE;refine wp_mono (awp_sound hty hmix c _ _ _ hok (round k s (by omega) hq) g0 w0 g w a (hsim g w a hs) hE) ?_;rintro ex a' w' ⟨g',e',h',hk',s'',hE'⟩;refine⟨g',e',h',?_,s'',hE'⟩
 cases ex with
 |normal=>
  obtain⟨hlt,s',ha,hq'⟩:=hk';exact⟨m-1,by omega,k+1,s',by omega,hq',mask ha⟩
 |_=>exact hk'
end Go.AM
namespace Go.AM
theorem aidxn {xs:List PV} {i:Nat} {x:PV} {K:PV→Prop} (h:xs[i]?=some x) (hK:K x):AIdx xs (i:Int) K:=⟨x,by omega,by simpa using h,hK⟩
end Go.AM
namespace Go.AM
theorem asf {g:Bool} {X Y:Prop} (h:g=false) (hy:Y):ASplit g X Y:=by subst h;exact hy
theorem ast {g:Bool} {X Y:Prop} (h:g=true) (hx:X):ASplit g X Y:=by subst h;exact hx
end Go.AM
end
