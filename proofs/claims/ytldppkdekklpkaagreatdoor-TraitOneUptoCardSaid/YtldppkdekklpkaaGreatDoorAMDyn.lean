/- Part of a machine over plain values. No conditions. -/
import Derived.Test.YtldppkdekklpkaaGreatDoorAMMem2
set_option linter.all false
section
namespace Go.AM
section
variable {P:Program} {ty:Nat→Option TI} {n:Nat} {o:Oper} {e:Env} {h:Heap} {K:AK}
theorem retM_iff {o:Oper} {rd:List Nat} {hw:Heap} {v:AV} {K:AK} (hk:retM o rd hw v K):K (match o.dst with|some d=>⟨rd,[(d,v)],hw⟩|none=>⟨rd,[],hw⟩):=by
 unfold retM at hk
 cases hd:o.dst<;>simp only[hd,AV.force_eq]at hk<;>exact hk
def layPre (g:Gh) (w:World) (b:Nat):Nat:=match g.own b with
 |some (.obj _)=>(match w.heap[b]? with|some (.cells c _ _)=>c.size|_=>g.pre b)
 |_=>g.pre b
def Gh.lay (g:Gh) (w:World):Gh:=⟨layPre g w,fun _=>none,g.ρ,g.σ,fun _=>none⟩
theorem imm_show {g:Gh} {w:World} {b k:Nat} {v:Value} (hv:imm g w b k=some v):imm (g.lay w) w b k=some v:=by
 have hc:=imm_cell hv;simp only[imm_eq]at hv ⊢
 have hk:k<(g.lay w).pre b:=by
  show k<layPre g w b;unfold layPre;have hk0:k<g.pre b:=by split at hv;assumption;cases hv
  split
  ·split
   ·rename_i hb
    have:w.cell? ⟨b,k,none⟩=_:=cell?_of hb k;rw[hc]at this;exact(Array.getElem?_eq_some_iff.1 this.symm).1
   ·exact hk0
  ·exact hk0
 rw[if_pos hk];exact hc
theorem imm_shown {g:Gh} {w:World} {l:Nat} {vs:Array Value} {E:TypeId} (ho:g.own (g.ρ l)=some (.obj l)) (hb:w.heap[g.ρ l]?=some (.cells vs E (0,0))) {k:Nat} {v:Value} (hv:vs[k]?=some v):imm (g.lay w) w (g.ρ l) k=some v:=by
 simp only[imm_eq]
 have hk:k<(g.lay w).pre (g.ρ l):=by
  show k<layPre g w (g.ρ l);unfold layPre;rw[ho,hb];exact(Array.getElem?_eq_some_iff.1 hv).1
 rw[if_pos hk,cell?_of hb];exact hv
theorem VRel.freeShow {g:Gh} {w:World} {dom:Nat→Prop} {ow:Option Owner} {v:Value} {x:AV} (r:VRel g w dom ow v x) (hx:x.free=true):VRel (g.lay w) w (fun _=>False) none v x:=by
 have r1:=r.toFree (dom':=fun _=>False) hx (fun _=>none) none;exact VRel.keep (g:={ g with own:=fun _=>none }) (g':=g.lay w) (w:=w) (w':=w) (dom:=fun _=>False) (dom':=fun _=>False) (fun b k v hv=>imm_show (g:=g) (show imm g w b k=some v from hv)) (fun _ hf=>hf.elim) (fun _ _ _ hf=>hf.elim) (fun _ _ e1 _=>by cases e1) r1
theorem oneCell_pv {M:Mm} {v:Value} {x:PV} (r:PRel M v x) (h1:v.oneCell'=true):x.cells=[x]:=by
 cases r<;>first|rfl|simp[Value.oneCell']at h1
theorem arr_show {g:Gh} {w:World} {h:Heap} (hr:HRel g w h) {l:Nat} {xs:List PV} (hl:hget h l=some (.arr xs)) {m:Nat} (hn:∃(cs:Array Value) (E:TypeId),w.heap[g.ρ l]?=some (.cells cs E (0,0))∧cs.size=m):
 PRel (imm (g.lay w) w) (.slice (some ⟨g.ρ l,0,none⟩) m m) (.sl 1 xs):=by
 obtain⟨cs,E,hb,rfl⟩:=hn
 cases hr.obj l _ hl with
 |arr _ vs E' hb' hlen hx h1=>
  rw[hb]at hb';cases hb';rw[hlen]
  have he:∀(j:Nat) (x:PV),xs[j]?=some x→∃v,cs[j]?=some v∧v.oneCell'=true∧PRel (imm g w) v x:=fun j x hj=>by
   have hjl:j<cs.size:=by rw[hlen];exact(List.getElem?_eq_some_iff.1 hj).1
   have hv:cs[j]?=some cs[j]:=Array.getElem?_eq_getElem hjl;exact⟨cs[j],hv,h1 _ (by simp),hx j _ x hv hj⟩
  refine .sl ⟨g.ρ l,0,none⟩ xs.length 1 xs (fun j _=>cs.getD j undef) (fun _=>rfl) (Nat.le_refl _) (fun x hxm=>?_) (fun j x hj i y hi=>?_) (fun j x hj i y hi=>?_)
  ·obtain⟨j,hj⟩:=List.getElem?_of_mem hxm
   obtain⟨v,q1,q2,q3⟩:=he j x hj;rw[oneCell_pv q3 q2];rfl
  ·obtain⟨v,q1,q2,q3⟩:=he j x hj
   rw[oneCell_pv q3 q2]at hi;have hi0:i=0:=by have:=(List.getElem?_eq_some_iff.1 hi).1;simp at this;exact this
   subst hi0;have e1:cs.getD j undef=v:=by simp[Array.getD_eq_getD_getElem?,q1]
   rw[e1];refine⟨?_,q2⟩;simp only[Nat.zero_add,Nat.mul_one,Nat.add_zero];exact imm_shown (hr.own l _ hl rfl) hb q1
  ·obtain⟨v,q1,q2,q3⟩:=he j x hj
   rw[oneCell_pv q3 q2]at hi;have hi0:i=0:=by have:=(List.getElem?_eq_some_iff.1 hi).1;simp at this;exact this
   subst hi0;simp at hi;subst hi;have e1:cs.getD j undef=v:=by simp[Array.getD_eq_getD_getElem?,q1]
   rw[e1];exact q3.mono fun _ _ _ hv=>imm_show hv
theorem gr_show {g:Gh} {w:World} {h:Heap} (hr:HRel g w h) {st st':Bool} {l sz:Nat} {xs:List PV} (hl:hget h l=some (.gr st' sz xs)) {ow:Option Owner} {v:Value} (r:VRel g w (domOf h) ow v (.al st l sz xs.length)):
 PRel (imm (g.lay w) w) v (.sl sz xs):=by
 generalize hm:xs.length=m at r
 cases r with
 |al0 _ _ _ hd=>
  have:xs=[]:=List.eq_nil_of_length_eq_zero hm;subst this;exact .nil sz
 |al _ _ _ _ _ cap hd h0 hc hn=>
  subst hm
  by_cases hne:xs=[]
  ·subst hne;exact .sl ⟨g.ρ l,0,none⟩ cap sz [] (fun _ _=>undef) (fun _=>rfl) (Nat.zero_le _) (by simp) (by simp) (by simp)
  have hown:=hr.own l _ hl (gr_solid (.inr hne))
  cases hr.obj l _ hl with
  |gr _ _ _ hg=>
   obtain⟨vs,E,hb,_,hlen,hz,hx⟩:=hg (.inr hne);refine .sl ⟨g.ρ l,0,none⟩ cap sz xs (fun j i=>vs.getD (j*sz+i) undef) (fun _=>rfl) hc hz (fun j x hj i y hi=>?_) (fun j x hj i y hi=>?_)
   ·obtain⟨v,q1,q2,q3⟩:=hx j x hj i y hi
    have e1:vs.getD (j*sz+i) undef=v:=by simp[Array.getD_eq_getD_getElem?,q1]
    rw[e1];refine⟨?_,q2⟩;simp only[Nat.zero_add];exact imm_shown hown hb q1
   ·obtain⟨v,q1,q2,q3⟩:=hx j x hj i y hi
    have e1:vs.getD (j*sz+i) undef=v:=by simp[Array.getD_eq_getD_getElem?,q1]
    rw[e1];exact q3.mono fun _ _ _ hv=>imm_show hv
theorem borAl_rel {g:Gh} {w:World} {h:Heap} (hr:HRel g w h) {R:List Nat} {ow:Option Owner} {v:Value} {st st':Bool} {l sz m:Nat} (r:VRel g w (domOf h) ow v (.al st l sz m)) {xs:List PV} {sz':Nat} (hm:memB R l=true) (hl:hget h l=some (.gr st' sz' xs)) (hz:Nat.beq sz sz'=true) (hq:eqsOK (borEqP R h (.al st l sz m))):PRel (imm (g.lay w) w) v (.sl sz xs):=by
 have hz:sz=sz':=Nat.eq_of_beq_eq_true hz;subst hz
 have:m=xs.length:=by
  simp only[borEqP,hm,hl]at hq;exact hq.1
 subst this;exact gr_show hr hl r
theorem borPV_rel {g:Gh} {w:World} {h:Heap} (hr:HRel g w h) {R:List Nat} {ow:Option Owner} {v:Value} {x:AV} {y:PV} (r:VRel g w (domOf h) ow v x) (hy:borPV R h x=some y) (hq:eqsOK (borEqP R h x)):PRel (imm (g.lay w) w) v y:=by
 have al:∀{st:Bool} {l sz m:Nat},x=.al st l sz m→PRel (imm (g.lay w) w) v y:=fun {st l sz m} e=>by
  subst e;simp only[borPV]at hy;split at hy
  ·rename_i hm hl
   split at hy
   ·rename_i hz
    cases hy;exact borAl_rel hr r hm hl hz hq
   ·cases hy
  ·cases hy
 cases r with
 |p _ _ _ hp=>simp[borPV]at hy;subst hy;exact hp.mono fun _ _ _ hv=>imm_show hv
 |es _ a cap sz hs=>simp[borPV]at hy;subst hy;exact .sl a cap sz [] (fun _ _=>undef) hs (Nat.zero_le _) (by simp) (by simp) (by simp)
 |full _ a sz xs hz hp=>simp[borPV]at hy;subst hy;exact hp.mono fun _ _ _ hv=>imm_show hv
 |own q a cap sz xs cs E hz hp=>simp[borPV]at hy;subst hy;exact hp.mono fun _ _ _ hv=>imm_show hv
 |ar _ l m hd hn=>
  simp only[borPV]at hy;split at hy
  ·rename_i xs _ hl
   cases hy;exact arr_show hr hl hn
  ·cases hy
 |al0=>exact al rfl
 |al=>exact al rfl
 |_=>simp[borPV]at hy
theorem borCells_spec {R:List Nat}:∀(cs:List AV) (ps:List PV),borCells R h cs=some ps→ps.length=cs.length∧∀(j:Nat) (c:AV) (y:PV),cs[j]?=some c→ps[j]?=some y→borPV R h c=some y
 | [],ps,hh=>by simp[borCells]at hh;subst hh;simp
 |c::r,ps,hh=>by
  simp only[borCells]at hh;split at hh
  ·rename_i x l h1 h2
   cases hh;obtain⟨k1,k2⟩:=borCells_spec r l h2;refine⟨by simp[k1],fun j c' y hc hy=>?_⟩
   cases j with
   |zero=>simp at hc hy;subst hc;subst hy;exact h1
   |succ j=>simp at hc hy;exact k2 j c' y hc hy
  ·cases hh
theorem bors_spec {R:List Nat}:∀(cs ps:List AV),AV.bors R h cs=some ps→ps.length=cs.length∧∀(j:Nat) (c y:AV),cs[j]?=some c→ps[j]?=some y→AV.bor R h c=some y
 | [],ps,hh=>by simp[AV.bors]at hh;subst hh;simp
 |c::r,ps,hh=>by
  simp only[AV.bors]at hh;split at hh
  ·rename_i x l h1 h2
   cases hh;obtain⟨k1,k2⟩:=bors_spec r l h2;refine⟨by simp[k1],fun j c' y hc hy=>?_⟩
   cases j with
   |zero=>simp at hc hy;subst hc;subst hy;exact h1
   |succ j=>simp at hc hy;exact k2 j c' y hc hy
  ·cases hh
theorem bor_rel {g:Gh} {w:World} {h:Heap} (hr:HRel g w h) {R:List Nat} {ow:Option Owner} {v:Value} {x y:AV} (r:VRel g w (domOf h) ow v x) (hy:AV.bor R h x=some y) (hq:eqsOK (AV.borEq R h x)):VRel (g.lay w) w (fun _=>False) none v y:=by
 have fr:∀{v:Value} {x y':AV} {ow:Option Owner},VRel g w (domOf h) ow v x→x.ifFree=some y'→VRel (g.lay w) w (fun _=>False) none v y':=by
  intro v x y' ow r hh;unfold AV.ifFree at hh;split at hh
  ·rename_i hf;cases hh;exact r.freeShow hf
  ·cases hh
 have al:∀{v:Value} {y:AV} {ow:Option Owner} {st:Bool} {l sz m:Nat},VRel g w (domOf h) ow v (.al st l sz m)→AV.bor R h (.al st l sz m)=some y→eqsOK (AV.borEq R h (.al st l sz m))→VRel (g.lay w) w (fun _=>False) none v y:=fun {v y ow st l sz m} r hy hq=>by
  simp only[AV.bor]at hy;split at hy
  ·rename_i hm hl
   split at hy
   ·rename_i hz
    cases hy;exact .p _ _ _ (borAl_rel hr r hm hl hz (by simpa only[AV.borEq] using hq))
   ·cases hy
  ·cases hy
 induction r generalizing y with
 |ptr ow l off hd=>
  simp only[AV.bor]at hy;split at hy
  ·rename_i cs hmR hl
   simp only[AV.borEq,hmR,hl]at hq;split at hy
   ·rename_i ps hps
    cases hy;obtain⟨k1,k2⟩:=borCells_spec cs ps hps
    cases hr.obj l _ hl with
    |cells _ vs E hb hlen hx h1=>
     have he:∀(j:Nat) (y:PV),ps[j]?=some y→∃v,vs[j]?=some v∧v.oneCell'=true∧PRel (imm (g.lay w) w) v y:=fun j y hj=>by
      have hjl:j<vs.size:=by rw[hlen,←k1];exact(List.getElem?_eq_some_iff.1 hj).1
      have hv:vs[j]?=some vs[j]:=Array.getElem?_eq_getElem hjl;have hcj:cs[j]?=some cs[j]:=List.getElem?_eq_getElem (by omega);exact⟨vs[j],hv,h1 _ (by simp),borPV_rel hr (hx j _ _ hv hcj) (k2 j _ y hcj hj) (eqsOK_C hq j _ hcj)⟩
     refine .vp _ ⟨g.ρ l,off,none⟩ _ (fun i=>vs.getD (off+i) undef) rfl (fun i y hi=>?_) (fun i y hi=>?_)
     ·rw[List.getElem?_drop]at hi
      obtain⟨v,q1,q2,q3⟩:=he _ y hi;have e1:vs.getD (off+i) undef=v:=by simp[Array.getD_eq_getD_getElem?,q1]
      rw[e1];exact⟨imm_shown (hr.own l _ hl rfl) hb q1,q2⟩
     ·rw[List.getElem?_drop]at hi
      obtain⟨v,q1,q2,q3⟩:=he _ y hi;have e1:vs.getD (off+i) undef=v:=by simp[Array.getD_eq_getD_getElem?,q1]
      rw[e1];exact q3
   ·cases hy
  ·cases hy
 |ar ow l m hd hn=>
  simp only[AV.bor]at hy;split at hy
  ·rename_i xs _ hl
   cases hy;exact .p _ _ _ (arr_show hr hl hn)
  ·cases hy
 |fn ow f fs cs first caps h1 h2 _ _ ih1 ih2=>
  simp only[AV.bor]at hy;simp only[AV.borEq]at hq;obtain⟨hq1,hq2⟩:=eqsOK_app.1 hq;split at hy
  ·rename_i a' b' ha hb
   cases hy;obtain⟨k1,k2⟩:=bors_spec first a' ha
   obtain⟨k3,k4⟩:=bors_spec caps b' hb;refine .fn _ f fs cs a' b' (by omega) (by omega) (fun j v c q1 q2=>?_) (fun j v c q1 q2=>?_)
   ·have hj:j<first.length:=by rw[←k1];exact(List.getElem?_eq_some_iff.1 q2).1
    have hcj:first[j]?=some first[j]:=List.getElem?_eq_getElem hj
    exact ih1 j v _ q1 hcj (k2 j _ c hcj q2) (eqsOK_V hq1 j _ hcj)
   ·have hj:j<caps.length:=by rw[←k3];exact(List.getElem?_eq_some_iff.1 q2).1
    have hcj:caps[j]?=some caps[j]:=List.getElem?_eq_getElem hj;exact ih2 j v _ q1 hcj (k4 j _ c hcj q2) (eqsOK_V hq2 j _ hcj)
  ·cases hy
 |top ow v=>exact fr (.top ow v) (by simpa only[AV.bor] using hy)
 |p ow v x h=>exact fr (.p ow v x h) (by simpa only[AV.bor] using hy)
 |c ow v h1=>exact fr (.c ow v h1) (by simpa only[AV.bor] using hy)
 |nilS ow=>exact fr (.nilS ow) (by simpa only[AV.bor] using hy)
 |es ow a cap sz hs=>exact fr (.es ow a cap sz hs) (by simpa only[AV.bor] using hy)
 |full ow a sz xs hz h=>exact fr (.full ow a sz xs hz h) (by simpa only[AV.bor] using hy)
 |own q a cap sz xs cs E hz h hw hp hb hs=>exact fr (.own q a cap sz xs cs E hz h hw hp hb hs) (by simpa only[AV.bor] using hy)
 |vp ow a cs f hs hm hx=>exact fr (.vp ow a cs f hs hm hx) (by simpa only[AV.bor] using hy)
 |agg ow vs cs hl h1 hx ih=>
  simp only[AV.bor]at hy;split at hy
  ·rename_i l hl2
   cases hy;obtain⟨k1,k2⟩:=borCells_spec cs l hl2;refine .p _ _ _ (.agg vs l (by omega) h1 fun j v y q1 q2=>?_);have hj:j<cs.length:=by rw[←k1];exact(List.getElem?_eq_some_iff.1 q2).1
   have hcj:cs[j]?=some cs[j]:=List.getElem?_eq_getElem hj;exact borPV_rel hr (hx j v _ q1 hcj) (k2 j _ y hcj q2) (eqsOK_C (by simpa only[AV.borEq] using hq) j _ hcj)
  ·exact fr (.agg ow vs cs hl h1 hx) hy
 |tup ow vs cs hl hx ih=>
  simp only[AV.bor]at hy;split at hy
  ·rename_i l hl2
   cases hy;obtain⟨k1,k2⟩:=bors_spec cs l hl2;refine .tup _ vs l (by omega) fun j v y q1 q2=>?_;have hj:j<cs.length:=by rw[←k1];exact(List.getElem?_eq_some_iff.1 q2).1
   have hcj:cs[j]?=some cs[j]:=List.getElem?_eq_getElem hj;exact ih j v _ q1 hcj (k2 j _ y hcj q2) (eqsOK_V (by simpa only[AV.borEq] using hq) j _ hcj)
  ·cases hy
 |mp ow l hd=>exact fr (.mp ow l hd) (by simpa only[AV.bor] using hy)
 |ap ow l i hd=>exact fr (.ap ow l i hd) (by simpa only[AV.bor] using hy)
 |ifc ow b v h=>exact fr (.ifc ow b v h) (by simpa only[AV.bor] using hy)
 |al0 ow l sz hd=>exact al (.al0 ow l sz hd) hy hq
 |al ow st l sz m cap hd h0 hc hn=>exact al (.al ow st l sz m cap hd h0 hc hn) hy hq
 |ep ow l sz i c hd=>exact fr (.ep ow l sz i c hd) (by simpa only[AV.bor] using hy)
 |tl ow a l sz i m cap hd ha hn=>exact fr (.tl ow a l sz i m cap hd ha hn) (by simpa only[AV.bor] using hy)
theorem flatP_rel {M M':Mm} {v:Value} {x:PV} (r:PRel M v x) (hf:flatP x=true):PRel M' v x:=by
 cases r<;>simp[flatP]at hf
 ·exact .b _
 ·exact .i _ _
 ·exact .s _
theorem flatV_rel {g g2:Gh} {w w2:World} {dom dom2:Nat→Prop} {ow ow2:Option Owner} {v:Value} {x:AV} (r:VRel g w dom ow v x) (hf:flatV x=true):VRel g2 w2 dom2 ow2 v x:=by
 cases r with
 |p _ _ _ h=>exact .p _ _ _ (flatP_rel h (by simpa[flatV] using hf))
 |tup _ vs cs hl hx=>
  refine .tup _ vs cs hl fun j v c q1 q2=>?_;simp only[flatV,List.all_eq_true]at hf;have:=hf c (List.mem_of_getElem? q2);split at this
  ·have hr:=hx j v _ q1 q2
   cases hr with
   |p _ _ _ h=>exact .p _ _ _ (flatP_rel h this)
  ·cases this
 |_=>simp[flatV]at hf
theorem bor_ext {g g':Gh} {w w':World} (hE:Ext (g.lay w) w g' w'):Ext { g with own:=fun _=>none,sown:=fun _=>none } w { pre:=fun b=>if b<w.heap.size then g.pre b else g'.pre b,own:=fun _=>none,ρ:=g.ρ,σ:=g'.σ,sown:=fun _=>none } w':=by
 refine⟨hE.size,hE.os,hE.out,fun b k v hv=>?_,fun b hb _=>⟨(hE.kept b hb rfl).1,by simp[hb],rfl⟩,⟨hE.frz.1,rfl,fun s _ k=>hE.frz.2.2 s rfl k⟩,hE.frz',fun _ _=>rfl,hE.siz⟩;have hb:=imm_lt hv;simp only[imm_eq]at hv ⊢;simp only[hb,if_true];have:w'.cell? ⟨b,k,none⟩=w.cell? ⟨b,k,none⟩:=by simp only[World.cell?,(hE.kept b hb rfl).1]
 rw[this];exact hv
theorem bor_congr {R:List Nat} {h':Heap} (hh:∀l∈R,hget h' l=hget h l):(∀x,borPV R h' x=borPV R h x)∧(∀cs,borCells R h' cs=borCells R h cs):=by
 have a1:∀x,borPV R h' x=borPV R h x:=by
  intro x
  cases x<;>simp only[borPV]
  ·rename_i l
   cases hm:memB R l with
   |false=>rfl
   |true=>rw[hh l (memB_mem R l hm)]
  ·rename_i l _ _
   cases hm:memB R l with
   |false=>rfl
   |true=>rw[hh l (memB_mem R l hm)]
 refine⟨a1,fun cs=>?_⟩
 induction cs with
 |nil=>rfl
 |cons c r ih=>simp only[borCells,a1,ih]
mutual
theorem borV_congr {R:List Nat} {h':Heap} (hh:∀l∈R,hget h' l=hget h l):∀(x:AV),AV.bor R h' x=AV.bor R h x
 |.ptr l off=>by
  simp only[AV.bor]
  cases hm:memB R l with
  |false=>rfl
  |true=>rw[hh l (memB_mem R l hm)];simp only[(bor_congr hh).2]
 |.ar l=>by
  simp only[AV.bor]
  cases hm:memB R l with
  |false=>rfl
  |true=>rw[hh l (memB_mem R l hm)]
 |.al st l sz m=>by
  simp only[AV.bor]
  cases hm:memB R l with
  |false=>rfl
  |true=>rw[hh l (memB_mem R l hm)]
 |.ep _ _ _ _=>by simp only[AV.bor]
 |.tl _ _ _ _=>by simp only[AV.bor]
 |.fn f a b=>by simp only[AV.bor,borVs_congr hh a,borVs_congr hh b]
 |.agg cs=>by simp only[AV.bor,(bor_congr hh).2]
 |.tup cs=>by simp only[AV.bor,borVs_congr hh cs]
 |.mp l=>by simp only[AV.bor]
 |.ap l i=>by simp only[AV.bor]
 |.ifc _=>by simp only[AV.bor]
 |.top=>by simp only[AV.bor]
 |.p _=>by simp only[AV.bor]
 |.c _=>by simp only[AV.bor]
 |.nilS=>by simp only[AV.bor]
 |.es _=>by simp only[AV.bor]
 |.so _ _=>by simp only[AV.bor]
 |.vp _=>by simp only[AV.bor]
theorem borVs_congr {R:List Nat} {h':Heap} (hh:∀l∈R,hget h' l=hget h l):∀(xs:List AV),AV.bors R h' xs=AV.bors R h xs
 | []=>rfl
 |x::r=>by simp only[AV.bors,borV_congr hh x,borVs_congr hh r]
end
theorem borEqP_congr {R:List Nat} {h':Heap} (hh:∀l∈R,hget h' l=hget h l):(∀x,borEqP R h' x=borEqP R h x)∧(∀cs,borEqC R h' cs=borEqC R h cs):=by
 have a1:∀x,borEqP R h' x=borEqP R h x:=by
  intro x
  cases x<;>simp only[borEqP]
  rename_i l _ _
  cases hm:memB R l with
  |false=>rfl
  |true=>rw[hh l (memB_mem R l hm)]
 refine⟨a1,fun cs=>?_⟩
 induction cs with
 |nil=>rfl
 |cons c r ih=>simp only[borEqC,a1,ih]
mutual
theorem borEq_congr {R:List Nat} {h':Heap} (hh:∀l∈R,hget h' l=hget h l):∀(x:AV),AV.borEq R h' x=AV.borEq R h x
 |.ptr l off=>by
  simp only[AV.borEq]
  cases hm:memB R l with
  |false=>rfl
  |true=>rw[hh l (memB_mem R l hm)];simp only[(borEqP_congr hh).2]
 |.al st l sz m=>by simp only[AV.borEq,(borEqP_congr hh).1]
 |.fn f a b=>by simp only[AV.borEq,borEqs_congr hh a,borEqs_congr hh b]
 |.agg cs=>by simp only[AV.borEq,(borEqP_congr hh).2]
 |.tup cs=>by simp only[AV.borEq,borEqs_congr hh cs]
 |.ep _ _ _ _=>by simp only[AV.borEq]
 |.tl _ _ _ _=>by simp only[AV.borEq]
 |.ar l=>by simp only[AV.borEq]
 |.mp l=>by simp only[AV.borEq]
 |.ap l i=>by simp only[AV.borEq]
 |.ifc _=>by simp only[AV.borEq]
 |.top=>by simp only[AV.borEq]
 |.p _=>by simp only[AV.borEq]
 |.c _=>by simp only[AV.borEq]
 |.nilS=>by simp only[AV.borEq]
 |.es _=>by simp only[AV.borEq]
 |.so _ _=>by simp only[AV.borEq]
 |.vp _=>by simp only[AV.borEq]
theorem borEqs_congr {R:List Nat} {h':Heap} (hh:∀l∈R,hget h' l=hget h l):∀(xs:List AV),AV.borEqs R h' xs=AV.borEqs R h xs
 | []=>rfl
 |x::r=>by simp only[AV.borEqs,borEq_congr hh x,borEqs_congr hh r]
end
theorem subH_congr {σ:Nat→Nat} {d:Nat→Bool} {h':Heap}:∀(R:List Nat) (k:Nat),(∀l∈R,hget h' l=hget h l)→subH h' σ d R k=subH h σ d R k
 | [],k,_=>rfl
 |x::r,k,hh=>by simp only[subH,hh x (by simp),subH_congr r (k+1) (fun l hl=>hh l (by simp[hl]))]
theorem newCk_congr {B m:Nat} {R:List Nat} {h':Heap} {L:Heap} (hh:∀x∈keysOf (backH R B L),hget h' x=hget h x):∀(ks:List Nat),(∀k∈ks,k∈keysOf L)→newCk h B m ks=true→newCk h' B m ks=true
 | [],_,_=>rfl
 |l::r,hs,hc=>by
  simp only[newCk,Bool.and_eq_true]at hc ⊢;refine⟨?_,newCk_congr hh r (fun k hk=>hs k (by simp[hk])) hc.2⟩;have h1:=hc.1
  cases hb:Nat.ble bigId l with
  |true=>rw[hb]at h1;exact h1
  |false=>
   rw[hb]at h1
   have hx:B+l∈keysOf (backH R B L):=by
    rw[keysOf_back];exact List.mem_map.2 ⟨l,hs l (by simp),by simp[ofBig,hb]⟩
   show freshId h' (B+l)=true;have h1:freshId h (B+l)=true:=h1;unfold freshId at h1 ⊢;rw[hh _ hx];exact h1
theorem argOf_noSo (e:Env):∀(xs:List Operand) (ts:List Nat) (y:AV),y∈argOf ty e xs ts→∀sz l,y≠.so sz l
 | [],ts,y,hy=>by simp[argOf]at hy
 |x::r,ts,y,hy=>by
  simp only[argOf,List.mem_cons]at hy;rcases hy with rfl|hy
  ·intro sz l
   split
   ·split<;>(intro q;cases q)
   ·intro q;cases q
   ·intro q;cases q
   ·unfold aggTy;split
    ·split
     ·intro q;cases q
     ·intro q;cases q
    ·intro q;cases q
   ·rename_i hns _;intro q;exact hns sz l q
  ·exact argOf_noSo e r ts.tail y hy
theorem call_args {x:Operand} {az:List Operand} {ts:List Nat} {first caps:List AV} {fs cs:List Value} {g:Gh} {w:World} {a:Act} {e':Env} {h':Heap} (s:Sim g w n a e' h') (he:∀t∈slotsOf o,eget e' t=eget e t)
 (m2:∀y∈az,y∈o.op.operands) (h1:fs.length=first.length) (h2:cs.length=caps.length)
 (hf:∀(j:Nat) (v:Value) (c:AV),fs[j]?=some v→first[j]?=some c→VRel g w (domOf h') none v c) (hc:∀(j:Nat) (v:Value) (c:AV),cs[j]?=some v→caps[j]?=some c→VRel g w (domOf h') none v c):
 (fs++az.map a.eval++cs).length=(first++argOf ty e az ts++caps).length∧∀(j:Nat) (v:Value) (y:AV),(fs++az.map a.eval++cs)[j]?=some v→(first++argOf ty e az ts++caps)[j]?=some y→VRel g w (domOf h') none v y:=by
 obtain⟨k1,k2⟩:=argOf_spec (ty:=ty) s he az ts m2;refine⟨by simp[h1,h2,k1],fun j v y q1 q2=>?_⟩
 by_cases hj1:j<fs.length
 ·rw[List.append_assoc,List.getElem?_append_left hj1]at q1
  rw[List.append_assoc,List.getElem?_append_left (by omega)]at q2;exact hf j v y q1 q2
 ·by_cases hj2:j<fs.length+az.length
  ·rw[List.append_assoc,List.getElem?_append_right (by omega),List.getElem?_append_left (by simp;omega),List.getElem?_map]at q1
   rw[List.append_assoc,List.getElem?_append_right (by omega),List.getElem?_append_left (by omega),←h1]at q2
   cases hq:az[j-fs.length]? with
   |none=>simp[hq]at q1
   |some z=>
    simp only[hq,Option.map_some,Option.some.injEq]at q1;subst q1;obtain⟨_,hr⟩:=k2 _ z y hq q2;exact hr.anyOwner (argOf_noSo e az ts y (List.mem_of_getElem? q2))
  ·rw[List.getElem?_append_right (by simp;omega)]at q1
   rw[List.getElem?_append_right (by simp;omega)]at q2;refine hc (j-(fs++az.map a.eval).length) v y q1 ?_;rw[←q2];congr 1;simp[h1,k1]
theorem findM_mem {name:String} {f:Nat}:∀{l:List (String×Nat)},findM name l=some f→(name,f)∈l
 | [],h=>by cases h
 |(a,b)::r,h=>by
  rw[findM]at h;split at h
  ·rename_i q;cases h;rw[beq_iff_eq]at q;subst q;exact List.mem_cons_self ..
  ·exact List.mem_cons_of_mem _ (findM_mem h)
theorem methOf_spec (hty:TyOK P ty) {T f:Nat} {name:String} (h:methOf ty T name=some f):Meth P T name f:=by
 unfold methOf at h;split at h
 ·rename_i i hi;exact(hty T i hi).mth _ (findM_mem h)
 ·cases h
inductive IsCall (P:Program) (e:Env) (o:Oper) (az:List Operand) (ts:List Nat) (f:Nat) (first caps:List AV):Prop
 |value (x:Operand) (ho:o.op=.call { callee:=.value x,args:=⟨az⟩,argTypes:=⟨ts⟩ }) (hx:ev e x=.fn f first caps)
 |invoke (x:Operand) (name:String) (T:Nat) (y:PV) (ho:o.op=.call { callee:=.invoke x name,args:=⟨az⟩,argTypes:=⟨ts⟩ }) (hx:ev e x=.p (.ifv T y)) (hm:Meth P T name f) (h1:first=[.p y]) (h2:caps=[])
theorem IsCall.args {az:List Operand} {ts:List Nat} {f:Nat} {first caps:List AV} (hc:IsCall P e o az ts f first caps) (hb:hasBody P f) {g:Gh} {w:World} {a:Act} {e':Env} {h':Heap} (s:Sim g w n a e' h') (he:∀t∈slotsOf o,eget e' t=eget e t):
 ∃vs:List Value,(execOp a.eval o).run P w=.ok (.enter f vs.toArray) w∧vs.length=(first++argOf ty e az ts++caps).length∧∀(j:Nat) (v:Value) (y:AV),vs[j]?=some v→(first++argOf ty e az ts++caps)[j]?=some y→VRel g w (domOf h') none v y:=by
 cases hc with
 |value x ho hx=>
  have m1:x∈o.op.operands:=by simp[ho,Op.operands,Call.operands]
  have m2:∀y∈az,y∈o.op.operands:=fun y hy=>by simp[ho,Op.operands,Call.operands,hy]
  obtain⟨_,r1⟩:=s.evo he m1 hx;generalize hv:a.eval x=v at r1
  cases r1 with
  |fn _ _ fs cs _ _ h1 h2 hf hc=>
   obtain⟨k1,k2⟩:=call_args (ty:=ty) (x:=x) (ts:=ts) s he m2 h1 h2 hf hc;exact⟨_,run_call_value ho hv hb,k1,k2⟩
 |invoke x name T y ho hx hm h1 h2=>
  subst h1;subst h2;have m1:x∈o.op.operands:=by simp[ho,Op.operands,Call.operands]
  have m2:∀y∈az,y∈o.op.operands:=fun y hy=>by simp[ho,Op.operands,Call.operands,hy]
  obtain⟨_,r1⟩:=s.evo he m1 hx;generalize hv:a.eval x=v at r1
  cases r1 with
  |p _ _ _ hp=>
   cases hp with
   |ifv _ v1 _ hp1=>
    obtain⟨k1,k2⟩:=call_args (ty:=ty) (x:=x) (ts:=ts) (fs:=[v1]) (cs:=[]) (first:=[.p y]) (caps:=[]) s he m2 rfl rfl (fun j v c q1 q2=>by
     cases j with
     |zero=>simp only[List.getElem?_cons_zero,Option.some.injEq]at q1 q2;subst q1;subst q2;exact .p _ _ _ hp1
     |succ j=>simp at q1) (fun j v c q1 _=>by simp at q1)
    exact⟨_,by rw[run_call_invoke ho hv hm hb];simp,k1,k2⟩
theorem OpOK.ro {f:Eff} (hh:OpOK P n o e h f) (hr:∀p∈f.hw,p.1∈f.rd∧hget h p.1=some p.2):OpOK P n o e h { f with hw:=[] }:=by
 intro e' h' he hl g w a s;have hl0:∀l∈f.rd,hget h' l=hget h l:=fun l hlr=>hl l (by simp[hlr])
 have hl1:∀l∈f.rd++f.hw.map (·.1),hget h' l=hget h l:=fun l hlr=>by
  rcases List.mem_append.1 hlr with q|q
  ·exact hl0 l q
  ·obtain⟨p,hp,rfl⟩:=List.mem_map.1 q
   exact hl0 _ (hr p hp).1
 have hsame:∀(L:Heap),(∀p∈L,p∈f.hw)→∀l,hget h' l=hget (L++h') l:=by
  intro L
  induction L with
  |nil=>intro _ l;rfl
  |cons p q ih=>
   intro hp l;obtain⟨k,v⟩:=p;obtain⟨h1,h2⟩:=hr (k,v) (hp _ (by simp))
   by_cases e1:k=l
   ·subst e1;rw[List.cons_append,hget_self,hl0 k h1,h2]
   ·rw[List.cons_append,hget_ne e1];exact ih (fun p hq=>hp p (by simp[hq])) l
 refine Oper.wp_mono (fun a' w' hq=>?_) (hh e' h' he hl1 g w a s);obtain⟨g',s',hE⟩:=hq;exact⟨g',s'.heapEq (fun l=>hsame f.hw.reverse (fun p hp=>List.mem_reverse.1 hp) l),hE⟩
def effM (o:Oper) (rd:List Nat) (hw:Heap) (v:AV):Eff:=match o.dst with
 |some d=>⟨rd,[(d,v)],hw⟩
 |none=>⟨rd,[],hw⟩
theorem aCall_mem (hd:∀d,o.dst=some d→d<n) {az:List Operand} {ts:List Nat} {f:Nat} {first caps:List AV} (hx:IsCall P e o az ts f first caps) {K:AK}
 {R:List Nat} {B:Nat} {hs:Heap} {r:AV} {h2:Heap} (ck1:(AV.withins (memB R) (first++argOf ty e az ts++caps)&&nodupB R)=true) (hsub:subH h (toBig R 0) (memB R) R 0=some hs)
 (hcall0:AMem P f (AV.rens (toBig R 0) (first++argOf ty e az ts++caps)) hs r h2) (ck2:(nodupB (keysOf h2)&&newCk h B R.length (keysOf h2)&&allKeys (keysOf h2) R.length)=true) (hk:retM o R (backH R B h2) (r.ren (ofBig R B)) K):∃f,K f∧OpOK P n o e h f:=by
 obtain⟨⟨hb,hglob⟩,hcall⟩:=hcall0;simp only[Bool.and_eq_true]at ck1 ck2;obtain⟨ckw,ckn⟩:=ck1;obtain⟨⟨ck3,ck4⟩,ck5⟩:=ck2;refine⟨_,retM_iff hk,fun e' h' he hl g w a s=>?_⟩
 have hlR:∀l∈R,hget h' l=hget h l:=fun l hlR=>by
  cases hdst:o.dst<;>simp only[hdst]at hl<;>exact hl l (by simp[hlR])
 have keys:∀(L:Heap) (x:Nat),x∈keysOf L→x∈L.map (·.1):=by
  intro L
  induction L with
  |nil=>intro x hx;cases hx
  |cons p q ih=>
   obtain⟨k,v⟩:=p;intro x hx;simp only[keysOf,List.mem_cons]at hx;rcases hx with rfl|hx
   ·simp
   ·exact List.mem_cons_of_mem _ (ih x hx)
 have hlN:∀x∈keysOf (backH R B h2),hget h' x=hget h x:=fun x hxk=>by
  have:=keys _ x hxk
  cases hdst:o.dst<;>simp only[hdst]at hl<;>exact hl x (List.mem_append_right _ this)
 have hn:=nodupB_spec ckn;have hsub':subH h' (toBig R 0) (memB R) R 0=some hs:=by rw[subH_congr R 0 hlR];exact hsub
 have ck4':=newCk_congr hlN _ (fun _ q=>q) ck4;obtain⟨cvs,hrun,k1,k2⟩:=hx.args hb s he
 have hargs:=hcall (g.lend R) w cvs (s.heap.lend hn hsub') (fun b q hq=>by
  have hq:lendOwn R (g.own b)=some q:=hq
  cases hg:g.own b with
  |none=>rw[hg]at hq;simp[lendOwn]at hq
  |some q'=>exact s.bnd b q' hg) (by rw[k1,rens_length]) (fun j v y q1 q2=>by
  rw[rens_get]at q2
  cases hq:(first++argOf ty e az ts++caps)[j]? with
  |none=>rw[hq]at q2;cases q2
  |some c0=>
   rw[hq,Option.map_some,Option.some.injEq]at q2;subst q2;have hr0:=k2 j v c0 q1 hq;exact VRel.lend hn hsub' (fun q e1=>by cases e1) hr0 (withins_get _ _ ckw j c0 hq))
 simp only[Oper.wp,hrun,Oper.upon];refine hargs.mono ?_;rintro en w' ⟨v,g',rfl,hr,hH,hbn,hE⟩
 cases hdst:o.dst with
 |none=>
  obtain⟨G,q1,q2,_⟩:=s.calledM 0 hn hsub' hE hH hbn (nodupB_spec ck3) ck4' ck5 hglob;exact⟨G,q1,q2⟩
 |some d=>
  obtain⟨G,q1,q2,q3⟩:=s.calledM d hn hsub' hE hH hbn (nodupB_spec ck3) ck4' ck5 hglob;exact⟨G,q1.put (hd d hdst) (q3 v r hr),q2⟩
theorem aCall_sound (hd:∀d,o.dst=some d→d<n) {az:List Operand} {ts:List Nat} {f:Nat} {first caps:List AV} (hx:IsCall P e o az ts f first caps)
 (hk:pcall P f (first++argOf ty e az ts++caps) h fun rd hw r=>retM o rd hw r K):∃f,K f∧OpOK P n o e h f:=by
 rcases hk with⟨r,hfree,⟨hb,hcall⟩,hk⟩|⟨R,bargs,r,hbor,⟨hb,hcall⟩,hflat,hk,hqs⟩|⟨R,B,hs,r,h2,ck1,hsub,hcall,ck2,hk⟩|⟨R,B,hs,r,h2,ck1,hsub,hcall,ck2,hro,hk⟩
 ·refine⟨_,retM_iff hk,fun e' h' he _ g w a s=>?_⟩
  obtain⟨cvs,hrun,k1,k2⟩:=hx.args hb s he
  have hargs:=hcall { g with own:=fun _=>none,sown:=fun _=>none } w cvs (fun _=>rfl) (fun _=>rfl) k1 (fun j v y q1 q2=>by
   exact(k2 j v y q1 q2).toFree (frees_get _ hfree j y q2) _ none _)
  simp only[Oper.wp,hrun,Oper.upon];refine hargs.mono ?_;rintro en w' ⟨v,g',rfl,hr,hE⟩
  cases hdst:o.dst with
  |none=>
   obtain⟨q1,q2,_⟩:=s.called hE 0;exact⟨_,q1,q2⟩
  |some d=>
   obtain⟨q1,q2,q3⟩:=s.called hE d;exact⟨_,q1.put (hd d hdst) (q3 v r hr),q2⟩
 ·refine⟨_,retM_iff hk,fun e' h' he hl g w a s=>?_⟩
  have hl':∀l∈R,hget h' l=hget h l:=fun l hlR=>by
   cases hdst:o.dst<;>simp only[hdst]at hl<;>exact hl l (by simp[hlR])
  obtain⟨cvs,hrun,k1,k2⟩:=hx.args hb s he;rw[←borVs_congr hl']at hbor;obtain⟨b1,b2⟩:=bors_spec _ _ hbor
  have hargs:=hcall (g.lay w) w cvs (fun _=>rfl) (fun _=>rfl) (by rw[k1,b1]) (fun j v y q1 q2=>by
   have hj:j<(first++argOf ty e az ts++caps).length:=by rw[←b1];exact(List.getElem?_eq_some_iff.1 q2).1
   have hcj:=List.getElem?_eq_getElem hj;exact bor_rel s.heap (k2 j v _ q1 hcj) (b2 j _ y hcj q2) (eqsOK_V (by rw[borEqs_congr hl'];exact hqs) j _ hcj))
  simp only[Oper.wp,hrun,Oper.upon];refine hargs.mono ?_;rintro en w' ⟨v,g',rfl,hr,hE⟩;have hE2:=bor_ext hE
  cases hdst:o.dst with
  |none=>
   obtain⟨q1,q2,_⟩:=s.called hE2 0;exact⟨_,q1,q2⟩
  |some d=>
   obtain⟨q1,q2,q3⟩:=s.called hE2 d;exact⟨_,q1.put (hd d hdst) (q3 v r (flatV_rel hr hflat)),q2⟩
 ·exact aCall_mem hd hx ck1 hsub hcall ck2 hk
 ·obtain⟨f,rfl,hf⟩:=aCall_mem (K:=fun f=>f=effM o R (backH R B h2) (r.ren (ofBig R B))) hd hx ck1 hsub hcall ck2 (by
   unfold retM effM;cases hdd:o.dst<;>simp only[AV.force_eq])
  have hrd:(effM o R (backH R B h2) (r.ren (ofBig R B))).rd=R:=by unfold effM;split<;>rfl
  have hhw:(effM o R (backH R B h2) (r.ren (ofBig R B))).hw=backH R B h2:=by unfold effM;split<;>rfl
  refine⟨_,?_,hf.ro (fun p hp=>?_)⟩
  ·have:=hk
   unfold retM at this;unfold effM;split at this
   ·rename_i d hdd;rw[AV.force_eq]at this;simp only[hdd];exact this
   ·rename_i hdd;simp only[hdd];exact this
  ·rw[hhw]at hp
   obtain⟨h1,h3⟩:=roOK_mem hro p hp;exact⟨by rw[hrd];exact memB_mem R p.1 h1,h3⟩
end
end Go.AM
end
section
namespace Go.AM
theorem beqB_eq {a b:Bool} (h:beqB a b=true):a=b:=by cases a<;>cases b<;>first|rfl|cases h
theorem AStO_spec {T:Nat} {one:Bool} {h:Heap} {K:Nat→Nat→Nat→Nat→List (Nat×List PV)→Prop} (hk:AStO T one h K):∃l sp nx sz M,hget h l=some (.store T one sp nx sz M)∧K l sp nx sz M:=by
 unfold AStO at hk;split at hk
 ·rename_i l _
  split at hk
  ·rename_i T' o sp nx sz M hg
   split at hk
   ·rename_i h1 h2
    obtain rfl:=Nat.eq_of_beq_eq_true h1;obtain rfl:=beqB_eq h2;exact⟨l,sp,nx,sz,M,hg,hk⟩
   ·exact hk.elim
  ·exact hk.elim
 ·exact hk.elim
theorem slk_mem {k:Nat} {xs:List PV}:∀{M:List (Nat×List PV)},slk k M=some xs→(k,xs)∈M
 | [],h=>by cases h
 |(a,ys)::r,h=>by
  rw[slk]at h;split at h
  ·rename_i hb
   obtain rfl:=Nat.eq_of_beq_eq_true hb;cases h;simp
  ·exact List.mem_cons_of_mem _ (slk_mem h)
theorem sset_keys (k:Nat) (xs:List PV):∀(M:List (Nat×List PV)),(sset k xs M).map (·.1)=M.map (·.1)
 | []=>rfl
 |(a,ys)::r=>by
  rw[sset];split
  ·rfl
  ·rw[List.map_cons,List.map_cons,sset_keys k xs r]
theorem sset_mem {k:Nat} {xs:List PV} {p:Nat×List PV}:∀{M:List (Nat×List PV)},(M.map (·.1)).Nodup→p∈sset k xs M→(p∈M∧p.1≠k)∨p=(k,xs)
 | [],_,h=>by cases h
 |(a,ys)::r,hn,h=>by
  rw[sset]at h;rw[List.map_cons,List.nodup_cons]at hn;split at h
  ·rename_i hb
   obtain rfl:=Nat.eq_of_beq_eq_true hb;rcases List.mem_cons.1 h with rfl|h
   ·exact .inr rfl
   ·exact .inl ⟨List.mem_cons_of_mem _ h,fun e=>hn.1 (e ▸ List.mem_map.2 ⟨p,h,rfl⟩)⟩
  ·rename_i hb
   rcases List.mem_cons.1 h with rfl|h
   ·exact .inl ⟨List.mem_cons_self ..,fun e=>by simp only at e;subst e;simp at hb⟩
   ·rcases sset_mem hn.2 h with⟨h1,h2⟩|h1
    ·exact .inl ⟨List.mem_cons_of_mem _ h1,h2⟩
    ·exact .inr h1
theorem sdel_sub {k:Nat} {p:Nat×List PV}:∀{M:List (Nat×List PV)},p∈sdel k M→p∈M
 | [],h=>by cases h
 |(a,ys)::r,h=>by
  rw[sdel]at h;split at h
  ·exact List.mem_cons_of_mem _ h
  ·rcases List.mem_cons.1 h with rfl|h
   ·exact List.mem_cons_self ..
   ·exact List.mem_cons_of_mem _ (sdel_sub h)
theorem sdel_ne {k:Nat} {p:Nat×List PV}:∀{M:List (Nat×List PV)},(M.map (·.1)).Nodup→p∈sdel k M→p.1≠k
 | [],_,h=>by cases h
 |(a,ys)::r,hn,h=>by
  rw[sdel]at h;rw[List.map_cons,List.nodup_cons]at hn;split at h
  ·rename_i hb
   obtain rfl:=Nat.eq_of_beq_eq_true hb;exact fun e=>hn.1 (e ▸ List.mem_map.2 ⟨p,h,rfl⟩)
  ·rename_i hb
   rcases List.mem_cons.1 h with rfl|h
   ·intro e;simp only at e;subst e;simp at hb
   ·exact sdel_ne hn.2 h
theorem sdel_keys (k:Nat):∀(M:List (Nat×List PV)),List.Sublist ((sdel k M).map (·.1)) (M.map (·.1))
 | []=>.slnil
 |(a,ys)::r=>by
  rw[sdel];split
  ·exact List.sublist_cons_self ..
  ·exact(sdel_keys k r).cons_cons _
structure Dyn (g:Gh) (w:World) (g':Gh) (w':World) (l sp:Nat):Prop where
 ρ:g'.ρ=g.ρ
 sown:g'.sown=g.sown
 σ:∀s k a,g.σ s k=some a→g'.σ s k=some a
 σo:∀s,s≠sp→∀k,g'.σ s k=g.σ s k
 imm:∀b o v,imm g w b o=some v→imm g' w' b o=some v
 own:∀b o,g.own b=some o→o≠.obj l→g'.own b=some o∧g'.pre b=g.pre b∧w'.heap[b]?=w.heap[b]?
 kept:∀b,b<w.heap.size→g.own b=none→w'.heap[b]?=w.heap[b]?∧g'.pre b=g.pre b∧g'.own b=none
 siz:∀(b:Nat) (cs:Array Value) (E:TypeId),w.heap[b]?=some (.cells cs E (0,0))→∃(cs':Array Value) (E':TypeId),w'.heap[b]?=some (.cells cs' E' (0,0))∧cs'.size=cs.size
 bnd:∀b o,g'.own b=some o→b<w'.heap.size
 size:w.heap.size≤w'.heap.size
 os:w'.os=w.os
 out:w'.output=w.output
 frz':∀a:Addr,a.block<w.heap.size→w'.frozen? a=w.frozen? a
theorem Dyn.ext {g g':Gh} {w w':World} {l sp:Nat} (d:Dyn g w g' w' l sp) (h:g.sown sp=some l):Ext g w g' w':=
 ⟨d.size,d.os,d.out,d.imm,d.kept,⟨d.σ,d.sown,fun s q k=>d.σo s (fun e=>by subst e;rw[h]at q;cases q) k⟩,d.frz',fun _ _=>by rw[d.ρ],d.siz⟩
theorem Sim.dyn {g g':Gh} {w w':World} {n:Nat} {a:Act} {e:Env} {h:Heap} (s:Sim g w n a e h) {l T:Nat} {one:Bool} {sp nx sz nx':Nat} {M M':List (Nat×List PV)} (hl:hget h l=some (.store T one sp nx sz M))
 (d:Dyn g w g' w' l sp) (hst:StoreOK g' w' l sp nx' sz M'):Sim g' w' n a e ((l,.store T one sp nx' sz M')::h)∧Ext g w g' w':=by
 have hsl:g.sown sp=some l:=by rw[←d.sown];exact hst.sown
 have hdom:∀k,domOf h k→domOf ((l,AObj.store T one sp nx' sz M')::h) k:=fun k hk=>(domOf_set hl k).2 hk
 have up:∀{ow v x},ow≠some (.obj l)→VRel g w (domOf h) ow v x→VRel g' w' (domOf ((l,AObj.store T one sp nx' sz M')::h)) ow v x:=fun hne r=>
  r.keep d.imm (fun k hk=>⟨hdom k hk,by rw[d.ρ]⟩) (fun k cs E _ hb=>d.siz _ cs E hb) (fun o b e1 h1=>d.own b o h1 (fun e2=>hne (by rw[e1,e2]))) (hsg:=d.σ)
 refine⟨⟨s.defers,s.size,fun i=>up (by simp) (s.env i),⟨fun k z hz=>?_,fun k z hz hq=>?_,fun k z hz hq=>?_⟩,d.bnd⟩,d.ext hsl⟩
 ·by_cases ek:l=k
  ·subst ek;rw[hget_self]at hz;cases hz;exact .store _ _ _ _ _ _ hst
  ·rw[hget_ne ek]at hz
   have eo:z.solid=true→w'.heap[g'.ρ k]?=w.heap[g.ρ k]?:=fun hq=>by
    rw[d.ρ];exact(d.own _ _ (s.heap.own k z hz hq) (by simp;exact fun e=>ek e.symm)).2.2
   cases s.heap.obj k z hz with
   |cells cs vs E' hb' hl' hx' h1=>exact .cells cs vs E' ((eo rfl).trans hb') hl' (fun j v c q1 q2=>up (by simp) (hx' j v c q1 q2)) h1
   |arr xs vs E' hb' hl' hx' h1=>exact .arr xs vs E' ((eo rfl).trans hb') hl' (fun j v c q1 q2=>(hx' j v c q1 q2).mono d.imm d.σ) h1
   |map kd xs es clock hb' hx' hc=>exact .map kd xs es clock ((eo rfl).trans hb') ⟨hx'.1,fun j q1 q2 q3 q4=>⟨(hx'.2 j q1 q2 q3 q4).1.mono d.imm d.σ,(hx'.2 j q1 q2 q3 q4).2.mono d.imm d.σ⟩⟩ hc
   |gr st sz xs hg=>exact .gr st sz xs fun q=>(hg q).mono d.imm (fun _ _ hv=>(eo (gr_solid q)).trans hv) d.σ
   |dead=>exact .dead
   |glob gb gvs hgl=>exact ORel.globM hgl (fun h1 hlt _=>⟨(d.kept gb hlt h1).1,(d.kept gb hlt h1).2.2⟩)
   |bld T2 E2 bs hbl=>exact ORel.bldM hbl (by rw[d.ρ]) (by have:=eo rfl;rwa [d.ρ]at this) (fun bb hbb=>by obtain⟨q1,q2,q3⟩:=d.own bb _ hbb (by simp);exact⟨q1,q3,q2⟩)
   |store T3 o3 sp3 nx3 z3 M3 hst3=>
    refine .store T3 o3 sp3 nx3 z3 M3 (hst3.mono d.imm (fun bb hbb=>by obtain⟨q1,q2,q3⟩:=d.own bb _ hbb (by simp;exact fun e=>ek e.symm);exact⟨q1,q3,q2⟩) (by rw[d.sown];exact hst3.sown) (hs:=d.σ) (he:=fun k2=>d.σo sp3 (fun e=>?_) k2));subst e;have:=hst3.sown;rw[hsl]at this;cases this;exact ek rfl
 ·by_cases ek:l=k
  ·subst ek;rw[hget_self]at hz;cases hz;cases hq
  ·rw[hget_ne ek]at hz
   rw[d.ρ];exact(d.own _ _ (s.heap.own k z hz hq) (by simp;exact fun e=>ek e.symm)).1
 ·by_cases ek:l=k
  ·subst ek;rw[hget_self]at hz;cases hz;cases hq
  ·rw[hget_ne ek]at hz
   rw[d.ρ,(d.own _ _ (s.heap.own k z hz hq) (by simp;exact fun e=>ek e.symm)).2.1];exact s.heap.pre k z hz hq
theorem Dyn.setRow {g:Gh} {w:World} {l sp A:Nat} {old vs:Array Value} {E:TypeId} (hown:g.own A=some (.obj l)) (hpre:g.pre A=0) (hb:w.heap[A]?=some (.cells old E (0,0))) (hs:vs.size=old.size) (hbnd:∀b o,g.own b=some o→b<w.heap.size):Dyn g w g (w.setRow A vs) l sp:=by
 refine⟨rfl,rfl,fun _ _ _ q=>q,fun _ _ _=>rfl,fun b i u hu=>?_,fun b o h1 h2=>⟨h1,rfl,setRow_other _ _ _ _ (fun e=>by subst e;rw[hown]at h1;cases h1;exact h2 rfl)⟩,fun b _ hn=>⟨setRow_other _ _ _ _ (fun e=>by subst e;rw[hown]at hn;cases hn),rfl,hn⟩,fun b cs E' hb'=>?_,fun b o ho=>by rw[setRow_size];exact hbnd b o ho,by rw[setRow_size];exact Nat.le_refl _,rfl,rfl,fun a _=>frozen_setRow hb a⟩
 ·by_cases hbl:b=A
  ·subst hbl;simp only[imm_eq]at hu;rw[hpre]at hu;simp at hu
  ·simp only[imm_eq]at hu ⊢;rw[cell_setRow_other _ _ _ _ hbl];exact hu
 ·by_cases hbl:b=A
  ·subst hbl;rw[hb]at hb';cases hb';exact⟨vs,E,setRow_heap _ _ _ _ _ _ hb,hs⟩
  ·exact⟨cs,E',by rw[setRow_other _ _ _ _ hbl];exact hb',rfl⟩
def Gh.num (g:Gh) (sp k:Nat) (B:Nat×Nat):Gh:={ g with σ:=fun s q=>if s=sp∧q=k then some B else g.σ s q }
def Gh.newS (g:Gh) (B C l sp k:Nat):Gh:={ pre:=fun b=>if b=B then 0 else g.pre b,own:=fun b=>if b=B then some (.obj l) else g.own b,ρ:=g.ρ,σ:=fun s q=>if s=sp∧q=k then some (B,C) else g.σ s q,sown:=g.sown }
theorem Dyn.num {g:Gh} {w:World} {l sp k:Nat} {B:Nat×Nat} (hf:g.σ sp k=none) (hbnd:∀b o,g.own b=some o→b<w.heap.size):Dyn g w (g.num sp k B) w l sp:=by
 refine⟨rfl,rfl,fun s q a hq=>?_,fun s hs q=>by simp[Gh.num,hs],fun _ _ _ h=>h,fun b o h1 _=>⟨h1,rfl,rfl⟩,fun b _ hn=>⟨rfl,rfl,hn⟩,fun b cs E hb=>⟨cs,E,hb,rfl⟩,hbnd,Nat.le_refl _,rfl,rfl,fun _ _=>rfl⟩;have:¬(s=sp∧q=k):=fun⟨e1,e2⟩=>by subst e1;subst e2;rw[hf]at hq;cases hq
 simp only[Gh.num,if_neg this];exact hq
theorem Dyn.push {g:Gh} {w:World} {l sp k C:Nat} {cs:Array Value} {E:TypeId} (hf:g.σ sp k=none) (hbnd:∀b o,g.own b=some o→b<w.heap.size):Dyn g w (g.newS w.heap.size C l sp k) (World.push w (.cells cs E (0,0))) l sp:=by
 have hp:∀b,b<w.heap.size→(g.newS w.heap.size C l sp k).pre b=g.pre b∧(g.newS w.heap.size C l sp k).own b=g.own b:=fun b hb=>by simp[Gh.newS,Nat.ne_of_lt hb]
 refine⟨rfl,rfl,fun s q a hq=>?_,fun s hs q=>by simp[Gh.newS,hs],fun b o v h=>imm_push (fun b hb=>(hp b hb).1) h,fun b o h1 _=>?_,fun b hb hn=>⟨push_old hb,(hp b hb).1,(hp b hb).2.trans hn⟩,fun b cs2 E2 hb=>⟨cs2,E2,by rw[push_old (get_lt hb)];exact hb,rfl⟩,fun b o ho=>?_,by rw[push_size];omega,rfl,rfl,fun a _=>frozen_push a⟩
 ·have:¬(s=sp∧q=k):=fun⟨e1,e2⟩=>by subst e1;subst e2;rw[hf]at hq;cases hq
  simp only[Gh.newS,if_neg this];exact hq
 ·have hb:=hbnd b o h1
  exact⟨(hp b hb).2.trans h1,(hp b hb).1,push_old hb⟩
 ·rw[push_size]
  by_cases hb:b=w.heap.size
  ·omega
  ·have:(g.newS w.heap.size C l sp k).own b=g.own b:=by simp[Gh.newS,hb]
   rw[this]at ho;have:=hbnd b o ho;omega
theorem Dyn.trans {g g1 g2:Gh} {w w1 w2:World} {l sp:Nat} (d:Dyn g w g1 w1 l sp) (d':Dyn g1 w1 g2 w2 l sp):Dyn g w g2 w2 l sp:=by
 refine⟨d'.ρ.trans d.ρ,d'.sown.trans d.sown,fun s k a q=>d'.σ s k a (d.σ s k a q),fun s h k=>(d'.σo s h k).trans (d.σo s h k),fun b o v q=>d'.imm b o v (d.imm b o v q),fun b o h1 h2=>?_,fun b hb hn=>?_,fun b cs E hb=>?_,d'.bnd,Nat.le_trans d.size d'.size,d'.os.trans d.os,d'.out.trans d.out,fun a ha=>?_⟩
 ·obtain⟨q1,q2,q3⟩:=d.own b o h1 h2
  obtain⟨p1,p2,p3⟩:=d'.own b o q1 h2;exact⟨p1,p2.trans q2,p3.trans q3⟩
 ·obtain⟨q1,q2,q3⟩:=d.kept b hb hn
  obtain⟨p1,p2,p3⟩:=d'.kept b (Nat.lt_of_lt_of_le hb d.size) q3;exact⟨p1.trans q1,p2.trans q2,p3⟩
 ·obtain⟨cs1,E1,q1,q2⟩:=d.siz b cs E hb
  obtain⟨cs2,E2,q3,q4⟩:=d'.siz b cs1 E1 q1;exact⟨cs2,E2,q3,q4.trans q2⟩
 ·rw[d'.frz' a (Nat.lt_of_lt_of_le ha d.size)];exact d.frz' a ha
theorem Dyn.drew {g:Gh} {w:World} {l sp k:Nat} (hbnd:∀b o,g.own b=some o→b<w.heap.size):Dyn g w g { w with drawn:=k } l sp:=
 ⟨rfl,rfl,fun _ _ _ q=>q,fun _ _ _=>rfl,fun _ _ _ q=>q,fun _ _ h1 _=>⟨h1,rfl,rfl⟩,fun _ _ hn=>⟨rfl,rfl,hn⟩,fun _ cs E hb=>⟨cs,E,hb,rfl⟩,hbnd,Nat.le_refl _,rfl,rfl,fun _ _=>rfl⟩
end Go.AM
end
