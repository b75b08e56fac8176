/- Part of a machine over plain values. No conditions. -/
import Derived.Test.YtldppkdekklpkaaGreatDoorAMSnd8
set_option linter.all false
namespace Go.AM
section
variable {P:Program} {ty:Nat→Option TI} {n:Nat} {o:Oper} {e:Env} {h:Heap} {K:AK}
def Gh.grow (g:Gh) (b p:Nat) (o:Owner):Gh:={ pre:=fun b'=>if b'=b then p else g.pre b',own:=fun b'=>if b'=b then some o else g.own b',ρ:=g.ρ,σ:=g.σ,sown:=g.sown }
theorem imm_grow {g:Gh} {w:World} {b p:Nat} {o:Owner} {cur row:Array Value} {E:TypeId} (hb:w.heap[b]?=some (.cells cur E (0,0))) (hp:g.pre b≤p) (hrow:∀k,k<g.pre b→row[k]?=cur[k]?)
 {b' k:Nat} {v:Value} (hv:imm g w b' k=some v):imm (g.grow b p o) (w.setRow b row) b' k=some v:=by
 simp only[imm_eq]at hv ⊢
 by_cases e1:b'=b
 ·subst e1
  split at hv
  ·rename_i hk
   simp only[Gh.grow,if_true];rw[if_pos (by omega),cell?_of (setRow_heap _ _ _ _ _ _ hb),hrow k hk,←cell?_of hb];exact hv
  ·cases hv
 ·simp only[Gh.grow,if_neg e1]
  split at hv
  ·rename_i hk;rw[if_pos hk,cell_setRow_other _ _ _ _ e1];exact hv
  ·cases hv
theorem VRel.grow {g:Gh} {w:World} {dom:Nat→Prop} {b p:Nat} {o o0:Owner} {cur row:Array Value} {E:TypeId} (hb:w.heap[b]?=some (.cells cur E (0,0))) (hp:g.pre b≤p)
 (hrow:∀k,k<g.pre b→row[k]?=cur[k]?) (ho:g.own b=some o0) (hs:row.size=cur.size) {ow:Option Owner} (hne:ow≠some o0) {v:Value} {x:AV} (r:VRel g w dom ow v x):VRel (g.grow b p o) (w.setRow b row) dom ow v x:=by
 refine VRel.keep (g:=g) (g':=g.grow b p o) (w:=w) (w':=w.setRow b row) (fun _ _ _ hv=>imm_grow hb hp hrow hv) (fun k hk=>⟨hk,rfl⟩) (fun k cs F hk hc=>?_) (fun o1 b1 e1 h1=>?_) r
 ·by_cases hkl:g.ρ k=b
  ·rw[hkl]at hc ⊢
   rw[hb]at hc;cases hc;exact⟨row,E,setRow_heap _ _ _ _ _ _ hb,hs⟩
  ·exact⟨cs,F,by rw[setRow_other _ _ _ _ hkl];exact hc,rfl⟩
 ·have hbl:b1≠b:=fun eq=>by subst eq;rw[ho]at h1;cases h1;exact hne e1
  exact⟨by simp[Gh.grow,hbl,h1],by simp[Gh.grow,hbl],setRow_other _ _ _ _ hbl⟩
theorem HRel.grow {g:Gh} {w:World} {h:Heap} (r:HRel g w h) {b p t:Nat} {o:Owner} {cur row:Array Value} {E:TypeId} (hb:w.heap[b]?=some (.cells cur E (0,0))) (hp:g.pre b≤p)
 (hrow:∀k,k<g.pre b→row[k]?=cur[k]?) (ho:g.own b=some (.slot t)) (hs:row.size=cur.size):HRel (g.grow b p o) (w.setRow b row) h:=by
 have hne:∀l x,hget h l=some x→x.solid=true→g.ρ l≠b:=fun l x hx hq e=>by have:=r.own l x hx hq;rw[e,ho]at this;cases this
 refine⟨fun l x hx=>?_,fun l x hx hq=>?_,fun l x hx hq=>?_⟩
 ·have eo:x.solid=true→(w.setRow b row).heap[g.ρ l]?=w.heap[g.ρ l]?:=fun hq=>setRow_other _ _ _ _ (hne l x hx hq)
  cases r.obj l x hx with
  |cells cs vs E' hb' hl hx' h1=>exact .cells cs vs E' ((eo rfl).trans hb') hl (fun j v c q1 q2=>(hx' j v c q1 q2).grow hb hp hrow ho hs (by simp)) h1
  |arr xs vs E' hb' hl hx' h1=>exact .arr xs vs E' ((eo rfl).trans hb') hl (fun j v c q1 q2=>(hx' j v c q1 q2).mono fun _ _ _ hv=>imm_grow hb hp hrow hv) h1
  |map kd xs es clock hb' hx' hc=>exact .map kd xs es clock ((eo rfl).trans hb') ⟨hx'.1,fun j p1 p2 p3 p4=>⟨(hx'.2 j p1 p2 p3 p4).1.mono fun _ _ _ hv=>imm_grow hb hp hrow hv,(hx'.2 j p1 p2 p3 p4).2.mono fun _ _ _ hv=>imm_grow hb hp hrow hv⟩⟩ hc
  |gr st sz xs hg=>exact .gr st sz xs fun q=>(hg q).mono (fun _ _ _ hv=>imm_grow hb hp hrow hv) (fun _ _ hv=>(eo (gr_solid q)).trans hv)
  |dead=>exact .dead
  |glob gb gvs hgl=>exact ORel.globM hgl (fun h1 _ _=>by have hne:gb≠b:=(fun e=>by subst e;rw[ho]at h1;cases h1);exact⟨setRow_other _ _ _ _ hne,by simp[Gh.grow,hne,h1]⟩)
  |bld T E2 bs2 hbl=>exact ORel.bldM hbl rfl (eo rfl) (fun bb hb2=>by have hne:bb≠b:=(fun e=>by subst e;rw[ho]at hb2;cases hb2);exact⟨by simp[Gh.grow,hne,hb2],setRow_other _ _ _ _ hne,by simp[Gh.grow,hne]⟩)
  |store T3 o3 sp3 nx3 z3 M3 hst=>exact .store T3 o3 sp3 nx3 z3 M3 (hst.mono (fun _ _ _ hv=>imm_grow hb hp hrow hv) (fun bb hb2=>by have hne:bb≠b:=(fun e=>by subst e;rw[ho]at hb2;cases hb2);exact⟨by simp[Gh.grow,hne,hb2],setRow_other _ _ _ _ hne,by simp[Gh.grow,hne]⟩) hst.sown)
 ·show(g.grow b p o).own (g.ρ l)=_
  simp[Gh.grow,hne l x hx hq,r.own l x hx hq]
 ·show(g.grow b p o).pre (g.ρ l)=_
  simp[Gh.grow,hne l x hx hq,r.pre l x hx hq]
theorem Ext.grow {g:Gh} {w:World} {b p:Nat} {o o0:Owner} {cur row:Array Value} {E:TypeId} (hb:w.heap[b]?=some (.cells cur E (0,0))) (hp:g.pre b≤p)
 (hrow:∀k,k<g.pre b→row[k]?=cur[k]?) (ho:g.own b=some o0) (hsz:row.size=cur.size):Ext g w (g.grow b p o) (w.setRow b row):=by
 refine⟨by rw[setRow_size];exact Nat.le_refl _,rfl,rfl,fun b' k v hv=>imm_grow hb hp hrow hv,fun b' hbb hno=>?_,SgLe.of rfl rfl,fun a _=>frozen_setRow hb a,fun _ _=>rfl,fun b' cs E' hb'=>?_⟩
 ·have e1:b'≠b:=fun eq=>by subst eq;rw[ho]at hno;cases hno
  exact⟨setRow_other _ _ _ _ e1,by simp[Gh.grow,e1],by simp[Gh.grow,e1,hno]⟩
 ·by_cases hbl:b'=b
  ·subst hbl;rw[hb]at hb';cases hb';exact⟨row,E,setRow_heap _ _ _ _ _ _ hb,hsz⟩
  ·exact⟨cs,E',by rw[setRow_other _ _ _ _ hbl];exact hb',rfl⟩
theorem Sim.dropSlot {g:Gh} {w:World} {n:Nat} {a:Act} {e:Env} {h:Heap} (s:Sim g w n a e h) {t:Nat} {sz:Nat} {xs:List PV} (ht:eget e t=.so sz xs):Sim g w n a ((t,.p (.sl sz xs))::e) h:=by
 refine⟨s.defers,s.size,fun i=>?_,s.heap,s.bnd⟩
 by_cases hi:t=i
 ·subst hi;rw[eget_self];have:=s.env t;rw[ht]at this;exact this.copy
 ·rw[eget_ne hi];exact s.env i
theorem Sim.envEq {g:Gh} {w:World} {n:Nat} {a:Act} {e e':Env} {h:Heap} (s:Sim g w n a e h) (he:∀i,eget e' i=eget e i):Sim g w n a e' h:=
 ⟨s.defers,s.size,fun i=>by rw[he i];exact s.env i,s.heap,s.bnd⟩
theorem eget_swap {d s:Nat} (hne:d≠s) (x y:AV) (e:Env) (i:Nat):eget ((s,y)::(d,x)::e) i=eget ((d,x)::(s,y)::e) i:=by
 by_cases h1:s=i
 ·subst h1;rw[eget_self,eget_ne hne,eget_self]
 ·rw[eget_ne h1]
  by_cases h2:d=i
  ·subst h2;rw[eget_self,eget_self]
  ·rw[eget_ne h2,eget_ne h2,eget_ne h1]
theorem append_core (hty:TyOK P ty) {t t2 el el2:TypeId} {j:TI} (hu:P.underlying t=some (.slice el)) (hu2:P.underlying t2=some (.slice el2)) (hj:ty el=some j) (hs0:0<j.size) (hb0:j.bytes≠0)
 {g:Gh} {w:World} {a:Act} {e':Env} {h':Heap} (s:Sim g w n a e' h') {d sl:Nat} {ax:Option Addr} {cap:Nat} {xs ys:List PV} {v2:Value} {F2:Nat→Value} {a2:Option Addr} {cap2:Nat}
 (hv2:v2=.slice a2 ys.length cap2) (hF2:SlV (imm g w) a2 j.size ys F2) (hp:PRel (imm g w) (.slice ax xs.length cap) (.sl j.size xs))
 (hcap:cap=xs.length∨∃(ad:Addr) (cs:Array Value) (E:TypeId),ax=some ad∧g.own ad.block=some (.slot sl)∧g.pre ad.block=ad.off+xs.length*j.size∧w.heap[ad.block]?=some (.cells cs E (0,0))∧ad.off+cap*j.size≤cs.size)
 (hsl:∀sz zs,eget e' sl≠.so sz zs) (hroom:(xs.length+ys.length)*j.bytes≤140737488355328) (u:TypeId):
 ∃v' g' w',(Builtin.append_ #[t,t2] u #[.slice ax xs.length cap,v2]).run P w=.ok v' w'∧Sim g' w' n a e' h'∧Ext g w g' w'∧VRel g' w' (domOf h') (some (.slot d)) v' (.so j.size (xs++ys)):=by
 obtain⟨inf,z,i1,i2,i3,i4,i5,i6⟩:=(hty el j hj).inf;obtain⟨_,hlc,F,hF⟩:=hp.slv;subst hv2
 by_cases hfit:xs.length+ys.length≤cap
 ·by_cases hy0:ys=[]
  · -- nothing is appended
   subst hy0;have hy:=run_firstCells (P:=P) (len:=0) (cap:=cap2) hF2 rfl;have hrun:=run_append_fit hu hu2 i1 i2 (w:=w) (w':=w) (a:=ax) (len:=xs.length) (len2:=0) (cap:=cap) (by simpa using hfit) (by simpa using hy) (fun b hb=>by simp[storeCells]) (fun _=>rfl) u;simp only[List.length_nil,Nat.add_zero,List.append_nil]at hrun ⊢;rcases hcap with rfl|⟨ad,cs,E,rfl,ho,hpre,hb,hsz⟩
   ·exact⟨_,g,w,hrun,s,Ext.refl _ _,.full _ ax j.size xs hs0 hp⟩
   ·refine⟨_,g.relabel ad.block (.slot d),w,hrun,?_,Ext.relabel ho,.own (.slot d) ad cap j.size xs cs E hs0 hp (by simp[Gh.relabel]) hpre hb hsz⟩
    refine⟨s.defers,s.size,fun i=>?_,s.heap.relabel ho,fun b o2 hb2=>?_⟩
    ·by_cases hi:sl=i
     ·subst hi
      have:=s.env sl
      cases hc:eget e' sl with
      |so sz zs=>exact absurd hc (hsl sz zs)
      |_=>rw[hc]at this;exact(this.anyOwner (ow':=none) (fun _ _ q=>by cases q)).relabel (o':=.slot d) ho (by simp) |>.anyOwner (fun _ _ q=>by cases q)
     ·exact(s.env i).relabel ho (by simp;exact fun q=>hi q.symm)
    ·by_cases hbe:b=ad.block
     ·subst hbe;exact s.bnd _ _ ho
     ·simp only[Gh.relabel,if_neg hbe]at hb2;exact s.bnd _ _ hb2
  · -- in place
   have hly:0<ys.length:=List.length_pos_iff.2 hy0;rcases hcap with rfl|⟨ad,cs,E,rfl,ho,hpre,hb,hsz⟩
   ·omega
   ·have hspot:=hp.spot (by omega)
    have hy:=run_firstCells (P:=P) (len:=ys.length) (cap:=cap2) hF2 rfl;have hle1:(xs.length+ys.length)*j.size≤cap*j.size:=Nat.mul_le_mul_right _ hfit;have hmul:(xs.length+ys.length)*j.size=xs.length*j.size+ys.length*j.size:=Nat.add_mul _ _ _;have hlen2:((List.range (ys.length*j.size)).map F2).length=ys.length*j.size:=by simp
    have hone2:∀v∈(List.range (ys.length*j.size)).map F2,v.oneCell'=true:=by
     intro v hv;obtain⟨k,hk,rfl⟩:=List.mem_map.1 hv;obtain⟨b2,hb2⟩:=hF2.ad hy0;subst hb2;exact(hF2.all (by simpa using hk)).2
    have hst:=run_storeCells_at (P:=P) ad.block (ad.off+xs.length*j.size) E ((List.range (ys.length*j.size)).map F2) 0 cs w hb (by rw[hlen2];omega) hone2;simp only[Nat.add_zero]at hst;have hrun:=run_append_fit hu hu2 i1 i2 (w:=w) (a:=some ad) (cap:=cap) hfit hy (fun b q=>by cases q;rw[Addr.add_of_spot hspot];exact hst) (fun q=>by cases q) u;have hsl':=splice_length cs.toList ((List.range (ys.length*j.size)).map F2) (ad.off+xs.length*j.size) (by rw[hlen2];simp;omega);have hsg:=splice_get cs.toList ((List.range (ys.length*j.size)).map F2) (ad.off+xs.length*j.size) (by rw[hlen2];simp;omega);generalize hrow:(cs.toList.take (ad.off+xs.length*j.size)++(List.range (ys.length*j.size)).map F2++cs.toList.drop (ad.off+xs.length*j.size+((List.range (ys.length*j.size)).map F2).length))=row at hst hrun hsl' hsg;have hrows:row.toArray.size=cs.size:=by simpa using hsl'
    have hkeep:∀k,k<g.pre ad.block→row.toArray[k]?=cs[k]?:=by
     intro k hk;rw[hpre]at hk;rw[List.getElem?_toArray,hsg k,if_neg (by omega)];simp
    have hple:g.pre ad.block≤ad.off+(xs.length+ys.length)*j.size:=by rw[hpre];omega
    refine⟨_,g.grow ad.block (ad.off+(xs.length+ys.length)*j.size) (.slot d),w.setRow ad.block row.toArray,hrun,?_,Ext.grow hb hple hkeep ho hrows,?_⟩
    ·refine⟨s.defers,s.size,fun i=>?_,s.heap.grow hb hple hkeep ho hrows,fun b o2 hb2=>?_⟩
     ·by_cases hi:sl=i
      ·subst hi
       have:=s.env sl
       cases hc:eget e' sl with
       |so sz zs=>exact absurd hc (hsl sz zs)
       |_=>rw[hc]at this;exact(((this.anyOwner (ow':=none) (fun _ _ q=>by cases q)).grow hb hple hkeep ho hrows (by simp))).anyOwner (fun _ _ q=>by cases q)
      ·exact(s.env i).grow hb hple hkeep ho hrows (by simp;exact fun q=>hi q.symm)
     ·rw[setRow_size]
      by_cases hbe:b=ad.block
      ·subst hbe;exact s.bnd _ _ ho
      ·simp only[Gh.grow,if_neg hbe]at hb2;exact s.bnd _ _ hb2
    ·have himm:∀k,k<(xs.length+ys.length)*j.size→imm (g.grow ad.block (ad.off+(xs.length+ys.length)*j.size) (.slot d)) (w.setRow ad.block row.toArray) ad.block (ad.off+k)=row[ad.off+k]?:=by
      intro k hk;simp only[imm_eq];simp only[Gh.grow,if_true];rw[if_pos (by omega),cell?_of (setRow_heap _ _ _ _ _ _ hb)];simp
     have hS:SlV (imm (g.grow ad.block (ad.off+(xs.length+ys.length)*j.size) (.slot d)) (w.setRow ad.block row.toArray)) (some ad) j.size (xs++ys) (fun k=>if k<xs.length*j.size then F k else F2 (k-xs.length*j.size)):=by
      refine⟨fun x hx=>?_,fun _=>⟨ad,rfl⟩,fun b q _=>by cases q;exact hspot,fun b jj x i y q hx hi=>?_⟩
      ·rcases List.mem_append.1 hx with hx|hx
       ·exact hF.hz x hx
       ·exact hF2.hz x hx
      ·cases q
       by_cases hjj:jj<xs.length
       ·rw[List.getElem?_append_left hjj]at hx
        have hi':i<j.size:=by have:=(List.getElem?_eq_some_iff.1 hi).1;have:=hF.hz x (List.mem_of_getElem? hx);omega
        have hk:jj*j.size+i<xs.length*j.size:=by
         have:(jj+1)*j.size≤xs.length*j.size:=Nat.mul_le_mul_right _ hjj;rw[Nat.add_mul]at this;omega
        obtain⟨q1,q2,q3⟩:=hF.cell ad jj x i y rfl hx hi;simp only[if_pos hk];exact⟨imm_grow hb hple hkeep q1,q2,q3.mono fun _ _ _ hv=>imm_grow hb hple hkeep hv⟩
       ·have hjj:xs.length≤jj:=by omega
        rw[List.getElem?_append_right hjj]at hx;have hi':i<j.size:=by have:=(List.getElem?_eq_some_iff.1 hi).1;have:=hF2.hz x (List.mem_of_getElem? hx);omega
        have hjl:jj-xs.length<ys.length:=(List.getElem?_eq_some_iff.1 hx).1;have ek:jj*j.size=(jj-xs.length)*j.size+xs.length*j.size:=by rw[←Nat.add_mul];congr 1;omega
        have hk2:(jj-xs.length)*j.size+i<ys.length*j.size:=by
         have:(jj-xs.length+1)*j.size≤ys.length*j.size:=Nat.mul_le_mul_right _ hjl;rw[Nat.add_mul]at this;omega
        obtain⟨b2,hb2⟩:=hF2.ad hy0;subst hb2;obtain⟨q1,q2,q3⟩:=hF2.cell b2 (jj-xs.length) x i y rfl hx hi;have hnk:¬jj*j.size+i<xs.length*j.size:=by omega
        have ekk:jj*j.size+i-xs.length*j.size=(jj-xs.length)*j.size+i:=by omega
        simp only[if_neg hnk,ekk];refine⟨?_,q2,q3.mono fun _ _ _ hv=>imm_grow hb hple hkeep hv⟩;rw[himm _ (by omega),hsg,if_pos (by rw[hlen2];omega)];rw[show ad.off+(jj*j.size+i)-(ad.off+xs.length*j.size)=(jj-xs.length)*j.size+i by omega];simp[hk2]
     have hpp:=hS.prel (cap:=cap) (by simpa using hfit) (fun _=>hspot);have:=VRel.own (g:=g.grow ad.block (ad.off+(xs.length+ys.length)*j.size) (.slot d)) (w:=w.setRow ad.block row.toArray) (dom:=domOf h') (.slot d) ad cap j.size (xs++ys) row.toArray E hs0 hpp (by simp[Gh.grow]) (by simp[Gh.grow]) (setRow_heap _ _ _ _ _ _ hb) (by rw[hrows];exact hsz);simpa using this
 · -- a new block
  have hfit':cap<xs.length+ys.length:=by omega
  have sd:∀k,Sim g { w with drawn:=k } n a e' h':=fun k=>s.drew;have hxc:∀k,(Builtin.firstCells j.size xs.length (.slice ax xs.length cap)).run P { w with drawn:=k }=.ok ((List.range (xs.length*j.size)).map F).toArray { w with drawn:=k }:=fun k=>run_firstCells (g:=g) (w:={ w with drawn:=k }) hF rfl;have hy:∀k,(Builtin.firstCells j.size ys.length (.slice a2 ys.length cap2)).run P { w with drawn:=k }=.ok ((List.range (ys.length*j.size)).map F2).toArray { w with drawn:=k }:=fun k=>run_firstCells (g:=g) (w:={ w with drawn:=k }) hF2 rfl;obtain⟨c,hc,hrun⟩:=run_append_grow hu hu2 i1 i2 i4 hfit' hlc hxc hy (by rw[i3];exact hroom) (by rw[i3];exact hb0) u;generalize hcells:((List.range (xs.length*j.size)).map F).toArray++((List.range (ys.length*j.size)).map F2).toArray++Builtin.zeroCells z.cells (c-(xs.length+ys.length))=row at hrun;have hmul:(xs.length+ys.length)*j.size=xs.length*j.size+ys.length*j.size:=Nat.add_mul _ _ _;have hzs:z.cells.size=j.size:=by rw[←i6,←i5];simp
  have hsize:row.size=c*j.size:=by
   rw[←hcells];simp only[Array.size_append,List.size_toArray,List.length_map,List.length_range,zeroCells_size,hzs];rw[←hmul,←Nat.add_mul];congr 1;omega
  have hrow1:∀k,k<xs.length*j.size→row[k]?=some (F k):=by
   intro k hk;rw[←hcells,Array.append_assoc,Array.getElem?_append_left (by simpa using hk)];simp[hk]
  have hrow2:∀k,k<ys.length*j.size→row[xs.length*j.size+k]?=some (F2 k):=by
   intro k hk;rw[←hcells,Array.getElem?_append_left (by simp;omega),Array.getElem?_append_right (by simp)];simp[hk]
  have hext:Ext g w (g.new w.heap.size ((xs.length+ys.length)*j.size) (some (.slot d))) (World.push { w with drawn:=w.drawn+1 } (.cells row el (0,0))):=
   (Ext.drew (k:=w.drawn+1)).trans (Ext.push (w:={ w with drawn:=w.drawn+1 }) (fun b hb=>by simp[Gh.new,Nat.ne_of_lt (show b<w.heap.size from hb)]) (fun a=>frozen_push a) (fun _ _=>rfl))
  have hS:SlV (imm (g.new w.heap.size ((xs.length+ys.length)*j.size) (some (.slot d))) (World.push { w with drawn:=w.drawn+1 } (.cells row el (0,0)))) (some ⟨w.heap.size,0,none⟩) j.size (xs++ys) (fun k=>if k<xs.length*j.size then F k else F2 (k-xs.length*j.size)):=by
   have himm:∀k,k<(xs.length+ys.length)*j.size→imm (g.new w.heap.size ((xs.length+ys.length)*j.size) (some (.slot d))) (World.push { w with drawn:=w.drawn+1 } (.cells row el (0,0))) w.heap.size (0+k)=row[k]?:=by
    intro k hk;simp only[imm_eq];simp only[Gh.new,if_true,Nat.zero_add];rw[if_pos hk,cell?_of (push_new (w:={ w with drawn:=w.drawn+1 }))]
   refine⟨fun x hx=>?_,fun _=>⟨_,rfl⟩,fun b q _=>by cases q;rfl,fun b jj x i y q hx hi=>?_⟩
   ·rcases List.mem_append.1 hx with hx|hx
    ·exact hF.hz x hx
    ·exact hF2.hz x hx
   ·cases q
    by_cases hjj:jj<xs.length
    ·rw[List.getElem?_append_left hjj]at hx
     have hi':i<j.size:=by have:=(List.getElem?_eq_some_iff.1 hi).1;have:=hF.hz x (List.mem_of_getElem? hx);omega
     have hk:jj*j.size+i<xs.length*j.size:=by
      have:(jj+1)*j.size≤xs.length*j.size:=Nat.mul_le_mul_right _ hjj;rw[Nat.add_mul]at this;omega
     obtain⟨ad,had⟩:=hF.ad (fun q=>by subst q;simp at hjj);subst had;obtain⟨q1,q2,q3⟩:=hF.cell ad jj x i y rfl hx hi;simp only[if_pos hk];refine⟨by rw[himm _ (by omega)];exact hrow1 _ hk,q2,q3.mono fun _ _ _ hv=>hext.imm _ _ _ hv⟩
    ·have hjj:xs.length≤jj:=by omega
     rw[List.getElem?_append_right hjj]at hx;have hi':i<j.size:=by have:=(List.getElem?_eq_some_iff.1 hi).1;have:=hF2.hz x (List.mem_of_getElem? hx);omega
     have hjl:jj-xs.length<ys.length:=(List.getElem?_eq_some_iff.1 hx).1;have ek:jj*j.size=(jj-xs.length)*j.size+xs.length*j.size:=by rw[←Nat.add_mul];congr 1;omega
     have hk2:(jj-xs.length)*j.size+i<ys.length*j.size:=by
      have:(jj-xs.length+1)*j.size≤ys.length*j.size:=Nat.mul_le_mul_right _ hjl;rw[Nat.add_mul]at this;omega
     obtain⟨b2,hb2⟩:=hF2.ad (fun q=>by subst q;simp at hjl);subst hb2;obtain⟨q1,q2,q3⟩:=hF2.cell b2 (jj-xs.length) x i y rfl hx hi;have hnk:¬jj*j.size+i<xs.length*j.size:=by omega
     have ekk:jj*j.size+i-xs.length*j.size=(jj-xs.length)*j.size+i:=by omega
     simp only[if_neg hnk,ekk];refine⟨?_,q2,q3.mono fun _ _ _ hv=>hext.imm _ _ _ hv⟩;rw[himm _ (by omega),show jj*j.size+i=xs.length*j.size+((jj-xs.length)*j.size+i) by omega];exact hrow2 _ hk2
  refine⟨_,g.new w.heap.size ((xs.length+ys.length)*j.size) (some (.slot d)),_,hrun,(sd (w.drawn+1)).pushOwn _ _ _,hext,?_⟩;have hpp:=hS.prel (cap:=c) (by simpa using hc) (fun _=>rfl)
  have:=VRel.own (g:=g.new w.heap.size ((xs.length+ys.length)*j.size) (some (.slot d))) (w:=World.push { w with drawn:=w.drawn+1 } (.cells row el (0,0))) (dom:=domOf h') (.slot d) ⟨w.heap.size,0,none⟩ c j.size (xs++ys) row el hs0 hpp
   (by simp[Gh.new]) (by simp[Gh.new]) (push_new (w:={ w with drawn:=w.drawn+1 })) (by simp only[Nat.zero_add];rw[hsize];exact Nat.le_refl _)
  simpa using this
theorem rows_app {M:Mm} {sz:Nat} {xs ys:List PV} {F F2:Nat→Value} {row:Array Value}
 (h1:∀(j:Nat) (x:PV) (i:Nat) (y:PV),xs[j]?=some x→x.cells[i]?=some y→row[j*sz+i]?=some (F (j*sz+i))∧(F (j*sz+i)).oneCell'=true∧PRel M (F (j*sz+i)) y)
 (h2:∀(j:Nat) (x:PV) (i:Nat) (y:PV),ys[j]?=some x→x.cells[i]?=some y→row[xs.length*sz+(j*sz+i)]?=some (F2 (j*sz+i))∧(F2 (j*sz+i)).oneCell'=true∧PRel M (F2 (j*sz+i)) y):
 ∀(j:Nat) (x:PV),(xs++ys)[j]?=some x→∀(i:Nat) (y:PV),x.cells[i]?=some y→∃v,row[j*sz+i]?=some v∧v.oneCell'=true∧PRel M v y:=by
 intro j x hx i y hi
 by_cases hj:j<xs.length
 ·rw[List.getElem?_append_left hj]at hx
  exact⟨_,h1 j x i y hx hi⟩
 ·rw[List.getElem?_append_right (by omega)]at hx
  have:=h2 (j-xs.length) x i y hx hi;rw[show xs.length*sz+((j-xs.length)*sz+i)=j*sz+i by rw[←Nat.add_assoc,←Nat.add_mul];congr 2;omega]at this;exact⟨_,this⟩
theorem Sim.heapEq {g:Gh} {w:World} {n:Nat} {a:Act} {e:Env} {h h2:Heap} (s:Sim g w n a e h) (hh:∀l,hget h2 l=hget h l):Sim g w n a e h2:=by
 have hd:∀k,domOf h k→domOf h2 k:=fun k hk=>by unfold domOf at hk ⊢;rw[hh k];exact hk
 refine⟨s.defers,s.size,fun i=>(s.env i).domUp hd,⟨fun l x hx=>?_,fun l x hx=>s.heap.own l x (by rw[←hh l];exact hx),fun l x hx=>s.heap.pre l x (by rw[←hh l];exact hx)⟩,s.bnd⟩;rw[hh l]at hx
 cases s.heap.obj l x hx with
 |cells cs vs E hb hl hx' h1=>exact .cells cs vs E hb hl (fun j v c q1 q2=>(hx' j v c q1 q2).domUp hd) h1
 |arr xs vs E hb hl hx' h1=>exact .arr xs vs E hb hl hx' h1
 |map kd xs es clock hb hx' hc=>exact .map kd xs es clock hb hx' hc
 |gr st sz xs hg=>exact .gr st sz xs hg
 |dead=>exact .dead
 |glob gb gvs hgl=>exact .glob gb gvs hgl
 |bld T E2 bs2 hbl=>exact .bld T E2 bs2 hbl
 |store T3 o3 sp3 nx3 z3 M3 hst=>exact .store T3 o3 sp3 nx3 z3 M3 hst
theorem Sim.kill {g:Gh} {w:World} {n:Nat} {a:Act} {e:Env} {h:Heap} (s:Sim g w n a e h) {l:Nat} {x:AObj} (hl:hget h l=some x):Sim g w n a e ((l,.dead)::h):=by
 have hd:∀k,domOf h k→domOf ((l,AObj.dead)::h) k:=fun k hk=>(domOf_set hl k).2 hk;refine⟨s.defers,s.size,fun i=>(s.env i).domUp hd,⟨fun k y hy=>?_,fun k y hy hq=>?_,fun k y hy hq=>?_⟩,s.bnd⟩
 ·by_cases ek:l=k
  ·subst ek;rw[hget_self]at hy;cases hy;exact .dead
  ·rw[hget_ne ek]at hy
   cases s.heap.obj k y hy with
   |cells cs vs E hb hl hx' h1=>exact .cells cs vs E hb hl (fun j v c q1 q2=>(hx' j v c q1 q2).domUp hd) h1
   |arr xs vs E hb hl hx' h1=>exact .arr xs vs E hb hl hx' h1
   |map kd xs es clock hb hx' hc=>exact .map kd xs es clock hb hx' hc
   |gr st sz xs hg=>exact .gr st sz xs hg
   |dead=>exact .dead
   |glob gb gvs hgl=>exact .glob gb gvs hgl
   |bld T E2 bs2 hbl=>exact .bld T E2 bs2 hbl
   |store T3 o3 sp3 nx3 z3 M3 hst=>exact .store T3 o3 sp3 nx3 z3 M3 hst
 ·by_cases ek:l=k
  ·subst ek;rw[hget_self]at hy;cases hy;cases hq
  ·rw[hget_ne ek]at hy;exact s.heap.own k y hy hq
 ·by_cases ek:l=k
  ·subst ek;rw[hget_self]at hy;cases hy;cases hq
  ·rw[hget_ne ek]at hy;exact s.heap.pre k y hy hq
theorem Sim.nilObj {g:Gh} {w:World} {n:Nat} {a:Act} {e:Env} {h:Heap} (s:Sim g w n a e h) {d:Nat} (sz:Nat):Sim g w n a e ((d,.gr false sz [])::h):=by
 have hd:∀k,domOf h k→domOf ((d,AObj.gr false sz [])::h) k:=fun k hk=>by
  unfold domOf at hk ⊢
  by_cases ek:d=k
  ·subst ek;rw[hget_self];rfl
  ·rw[hget_ne ek];exact hk
 refine⟨s.defers,s.size,fun i=>(s.env i).domUp hd,⟨fun k y hy=>?_,fun k y hy hq=>?_,fun k y hy hq=>?_⟩,s.bnd⟩
 ·by_cases ek:d=k
  ·subst ek;rw[hget_self]at hy;cases hy;exact .gr false sz [] (fun q=>by rcases q with q|q;cases q;exact absurd rfl q)
  ·rw[hget_ne ek]at hy
   cases s.heap.obj k y hy with
   |cells cs vs E hb hl hx' h1=>exact .cells cs vs E hb hl (fun j v c q1 q2=>(hx' j v c q1 q2).domUp hd) h1
   |arr xs vs E hb hl hx' h1=>exact .arr xs vs E hb hl hx' h1
   |map kd xs es clock hb hx' hc=>exact .map kd xs es clock hb hx' hc
   |gr st sz xs hg=>exact .gr st sz xs hg
   |dead=>exact .dead
   |glob gb gvs hgl=>exact .glob gb gvs hgl
   |bld T E2 bs2 hbl=>exact .bld T E2 bs2 hbl
   |store T3 o3 sp3 nx3 z3 M3 hst=>exact .store T3 o3 sp3 nx3 z3 M3 hst
 ·by_cases ek:d=k
  ·subst ek;rw[hget_self]at hy;cases hy;cases hq
  ·rw[hget_ne ek]at hy;exact s.heap.own k y hy hq
 ·by_cases ek:d=k
  ·subst ek;rw[hget_self]at hy;cases hy;cases hq
  ·rw[hget_ne ek]at hy;exact s.heap.pre k y hy hq
def Gh.moveTo (g:Gh) (l d:Nat):Gh:={ pre:=g.pre,own:=fun b=>if b=g.ρ l then some (.obj d) else g.own b,ρ:=fun k=>if k=d then g.ρ l else g.ρ k,σ:=g.σ,sown:=g.sown }
theorem Sim.moveTo {g:Gh} {w:World} {n:Nat} {a:Act} {e:Env} {h:Heap} (s:Sim g w n a e h) {st:Bool} {l d sz:Nat} {xs:List PV} (hl:hget h l=some (.gr st sz xs)) (hne:st=true∨xs≠[]) (hd0:hget h d=none) (hdb:d<bigId):
 Sim (g.moveTo l d) w n a e ((d,.gr st sz xs)::(l,.dead)::h)∧Ext g w (g.moveTo l d) w:=by
 have hsol:(AObj.gr st sz xs).solid=true:=gr_solid hne;have hown:=s.heap.own l _ hl hsol;have hpre:=s.heap.pre l _ hl hsol;have hld:l≠d:=fun q=>by subst q;rw[hl]at hd0;cases hd0
 have hdm:∀k,domOf h k→domOf ((d,AObj.gr st sz xs)::(l,AObj.dead)::h) k:=fun k hk=>by
  unfold domOf at hk ⊢
  by_cases ek:d=k
  ·subst ek;rw[hget_self];rfl
  ·rw[hget_ne ek]
   by_cases ek2:l=k
   ·subst ek2;rw[hget_self];rfl
   ·rw[hget_ne ek2];exact hk
 have hρ:∀k,domOf h k→(g.moveTo l d).ρ k=g.ρ k:=fun k hk=>by
  have:k≠d:=fun q=>by subst q;simp[domOf,hd0]at hk
  simp[Gh.moveTo,this]
 have up:∀{ow v c},ow≠some (.obj l)→VRel g w (domOf h) ow v c→VRel (g.moveTo l d) w (domOf ((d,AObj.gr st sz xs)::(l,AObj.dead)::h)) ow v c:=fun {ow v c} ho r=>
  VRel.keep (g:=g) (g':=g.moveTo l d) (w:=w) (w':=w) (fun _ _ _ q=>q) (fun k hk=>⟨hdm k hk,hρ k hk⟩) (fun k ds F _ q=>⟨ds,F,q,rfl⟩) (fun o b e1 h1=>by
   have:b≠g.ρ l:=fun q=>by subst q;rw[hown]at h1;cases h1;exact ho e1
   exact⟨by simp[Gh.moveTo,this,h1],rfl,rfl⟩) r
 refine⟨⟨s.defers,s.size,fun i=>up (by simp) (s.env i),⟨fun k y hy=>?_,fun k y hy hq=>?_,fun k y hy hq=>?_⟩,fun b o2 hb2=>?_⟩,?_⟩
 ·by_cases ek:d=k
  ·subst ek;rw[hget_self]at hy;cases hy
   cases s.heap.obj l _ hl with
   |gr _ _ _ hg=>
    refine .gr st sz xs fun q=>?_;obtain⟨vs,E,hb,r⟩:=hg q;exact⟨vs,E,by simpa[Gh.moveTo] using hb,r⟩
  ·rw[hget_ne ek]at hy
   by_cases ek2:l=k
   ·subst ek2;rw[hget_self]at hy;cases hy;exact .dead
   ·rw[hget_ne ek2]at hy
    have hρk:=hρ k (by simp[domOf,hy])
    cases s.heap.obj k y hy with
    |cells cs vs E hb hl hx' h1=>exact .cells cs vs E (by rw[hρk];exact hb) hl (fun j v c q1 q2=>up (by simp) (hx' j v c q1 q2)) h1
    |arr xs vs E hb hl hx' h1=>exact .arr xs vs E (by rw[hρk];exact hb) hl hx' h1
    |map kd xs es clock hb hx' hc=>exact .map kd xs es clock (by rw[hρk];exact hb) hx' hc
    |gr st sz xs hg=>exact .gr st sz xs fun q=>(hg q).mono (fun _ _ _ hv=>hv) (fun _ _ hv=>by rw[hρk];exact hv)
    |dead=>exact .dead
    |glob gb gvs hgl=>exact ORel.globM hgl (fun h1 _ _=>⟨rfl,by have hne:gb≠g.ρ l:=(fun e=>by subst e;rw[hown]at h1;cases h1);simp[Gh.moveTo,hne,h1]⟩)
    |bld T E2 bs2 hbl=>exact ORel.bldM hbl hρk rfl (fun bb hb2=>⟨by have hne:bb≠g.ρ l:=(fun e=>by subst e;rw[hown]at hb2;cases hb2);simp[Gh.moveTo,hne,hb2],rfl,rfl⟩)
    |store T3 o3 sp3 nx3 z3 M3 hst=>exact .store T3 o3 sp3 nx3 z3 M3 (hst.mono (fun _ _ _ q=>q) (fun bb hb2=>⟨by have hne:bb≠g.ρ l:=(fun e=>by subst e;rw[hown]at hb2;cases hb2;exact ek2 rfl);simp[Gh.moveTo,hne,hb2],rfl,rfl⟩) hst.sown)
 ·by_cases ek:d=k
  ·subst ek;simp[Gh.moveTo]
  ·rw[hget_ne ek]at hy
   by_cases ek2:l=k
   ·subst ek2;rw[hget_self]at hy;cases hy;cases hq
   ·rw[hget_ne ek2]at hy
    have ho:=s.heap.own k y hy hq;rw[hρ k (by simp[domOf,hy])];have:g.ρ k≠g.ρ l:=fun q=>by rw[q,hown]at ho;cases ho;exact ek2 rfl
    simp[Gh.moveTo,this,ho]
 ·by_cases ek:d=k
  ·subst ek;simpa[Gh.moveTo] using hpre
  ·rw[hget_ne ek]at hy
   by_cases ek2:l=k
   ·subst ek2;rw[hget_self]at hy;cases hy;cases hq
   ·rw[hget_ne ek2]at hy
    rw[hρ k (by simp[domOf,hy])];exact s.heap.pre k y hy hq
 ·by_cases hb:b=g.ρ l
  ·subst hb;exact s.bnd _ _ hown
  ·simp only[Gh.moveTo,if_neg hb]at hb2;exact s.bnd _ _ hb2
 ·refine⟨Nat.le_refl _,rfl,rfl,fun _ _ _ q=>q,fun b _ hn=>⟨rfl,rfl,?_⟩,SgLe.of rfl rfl,fun _ _=>rfl,fun k hk=>?_,fun b cs E hb=>⟨cs,E,hb,rfl⟩⟩
  ·have:b≠g.ρ l:=fun q=>by subst q;rw[hown]at hn;cases hn
   simp[Gh.moveTo,this,hn]
  ·have:k≠d:=by omega
   simp[Gh.moveTo,this]
theorem append_fresh (hty:TyOK P ty) {t t2 el el2:TypeId} {j:TI} (hu:P.underlying t=some (.slice el)) (hu2:P.underlying t2=some (.slice el2)) (hj:ty el=some j) (hs0:0<j.size) (hb0:j.bytes≠0)
 {g:Gh} {w:World} {a:Act} {e':Env} {h1:Heap} (s:Sim g w n a e' h1) {st:Bool} {d:Nat} {xs ys:List PV} {F2:Nat→Value} {a2:Option Addr} {cap2:Nat}
 (hF2:SlV (imm g w) a2 j.size ys F2) (hd1:hget h1 d=none) (hdb:d<bigId)
 (hroom:(xs.length+ys.length)*j.bytes≤140737488355328) (u:TypeId) (ax:Option Addr) (cap:Nat) (F:Nat→Value) (hfit:cap<xs.length+ys.length) (hlc:xs.length≤cap) (hzx:∀x∈xs,x.cells.length=j.size)
   (hxc:∀k,(Builtin.firstCells j.size xs.length (.slice ax xs.length cap)).run P { w with drawn:=k }=.ok ((List.range (xs.length*j.size)).map F).toArray { w with drawn:=k })
   (hx2:∀(jj:Nat) (x:PV) (i:Nat) (y:PV),xs[jj]?=some x→x.cells[i]?=some y→jj*j.size+i<xs.length*j.size∧(F (jj*j.size+i)).oneCell'=true∧PRel (imm g w) (F (jj*j.size+i)) y):
   ∃v' g' w',(Builtin.append_ #[t,t2] u #[.slice ax xs.length cap,.slice a2 ys.length cap2]).run P w=.ok v' w'∧Sim g' w' n a e' ((d,.gr st j.size (xs++ys))::h1)∧Ext g w g' w'∧VRel g' w' (domOf ((d,AObj.gr st j.size (xs++ys))::h1)) (some (.slot d)) v' (.al st d j.size (xs.length+ys.length)):=by
 obtain⟨inf,z,i1,i2,i3,i4,i5,i6⟩:=(hty el j hj).inf;have hdd:domOf ((d,AObj.gr st j.size (xs++ys))::h1) d:=by simp[domOf,hget_self]
 have hzs:z.cells.size=j.size:=by rw[←i6,←i5];simp
 have hmul:(xs.length+ys.length)*j.size=xs.length*j.size+ys.length*j.size:=Nat.add_mul _ _ _;have hyc:∀k,(Builtin.firstCells j.size ys.length (.slice a2 ys.length cap2)).run P { w with drawn:=k }=.ok ((List.range (ys.length*j.size)).map F2).toArray { w with drawn:=k }:=fun k=>run_firstCells (g:=g) (w:={ w with drawn:=k }) hF2 rfl
 have hy2:∀(jj:Nat) (x:PV) (i:Nat) (y:PV),ys[jj]?=some x→x.cells[i]?=some y→jj*j.size+i<ys.length*j.size∧(F2 (jj*j.size+i)).oneCell'=true∧PRel (imm g w) (F2 (jj*j.size+i)) y:=by
  intro jj x i y hx hi;have hi':i<j.size:=by have:=(List.getElem?_eq_some_iff.1 hi).1;have:=hF2.hz x (List.mem_of_getElem? hx);omega
  have hjl:jj<ys.length:=(List.getElem?_eq_some_iff.1 hx).1;obtain⟨b2,hb2⟩:=hF2.ad (fun q=>by subst q;simp at hjl);subst hb2;obtain⟨q1,q2,q3⟩:=hF2.cell b2 jj x i y rfl hx hi;refine⟨?_,q2,q3⟩;have:(jj+1)*j.size≤ys.length*j.size:=Nat.mul_le_mul_right _ hjl;rw[Nat.add_mul]at this;omega
 obtain⟨c,hc,hrun⟩:=run_append_grow hu hu2 i1 i2 i4 hfit hlc hxc hyc (by rw[i3];exact hroom) (by rw[i3];exact hb0) u;generalize hcells:((List.range (xs.length*j.size)).map F).toArray++((List.range (ys.length*j.size)).map F2).toArray++Builtin.zeroCells z.cells (c-(xs.length+ys.length))=row at hrun
 have hsize:row.size=c*j.size:=by
  rw[←hcells];simp only[Array.size_append,List.size_toArray,List.length_map,List.length_range,zeroCells_size,hzs];rw[←hmul,←Nat.add_mul];congr 1;omega
 have hrow1:∀k,k<xs.length*j.size→row[k]?=some (F k):=by
  intro k hk;rw[←hcells,Array.append_assoc,Array.getElem?_append_left (by simpa using hk)];simp[hk]
 have hrow2:∀k,k<ys.length*j.size→row[xs.length*j.size+k]?=some (F2 k):=by
  intro k hk;rw[←hcells,Array.getElem?_append_left (by simp;omega),Array.getElem?_append_right (by simp)];simp[hk]
 have hext:Ext g w (g.newObj w.heap.size d) (World.push { w with drawn:=w.drawn+1 } (.cells row el (0,0))):=
  (Ext.drew (k:=w.drawn+1)).trans (Ext.push (w:={ w with drawn:=w.drawn+1 }) (fun b hb=>by simp[Gh.newObj,Nat.ne_of_lt (show b<w.heap.size from hb)]) (fun a=>frozen_push a) (fun l hl=>newObj_ρ hdb l hl))
 have hnew:(World.push { w with drawn:=w.drawn+1 } (.cells row el (0,0))).heap[(g.newObj w.heap.size d).ρ d]?=some (.cells row el (0,0)):=by
  simp only[Gh.newObj,if_true];exact push_new (w:={ w with drawn:=w.drawn+1 })
 have s1:Sim g { w with drawn:=w.drawn+1 } n a e' h1:=s.drew
 have s2:=s1.pushObj hd1 (.cells row el (0,0)) (.gr st j.size (xs++ys)) (fun dom' _ _=>.gr _ _ _ fun _=>⟨row,el,hnew,hs0,by rw[List.length_append,hsize];exact Nat.mul_le_mul_right _ hc,fun x hx=>by
  rcases List.mem_append.1 hx with hx|hx
  ·exact hzx x hx
  ·exact hF2.hz x hx,rows_app (F:=F) (F2:=F2) (fun jj x i y q1 q2=>?_) (fun jj x i y q1 q2=>?_)⟩)
 ·refine⟨_,_,_,hrun,s2,hext,?_⟩
  have:=VRel.al (g:=g.newObj w.heap.size d) (w:=World.push { w with drawn:=w.drawn+1 } (.cells row el (0,0))) (dom:=domOf ((d,AObj.gr st j.size (xs++ys))::h1)) (some (.slot d)) st d j.size (xs.length+ys.length) c hdd (.inr (by omega)) hc ⟨row,el,hnew,by rw[hsize];exact Nat.le_refl _⟩;simpa[Gh.newObj] using this
 ·obtain⟨k1,k2,k3⟩:=hx2 jj x i y q1 q2
  exact⟨hrow1 _ k1,k2,k3.mono fun _ _ _ hv=>hext.imm _ _ _ hv⟩
 ·obtain⟨k1,k2,k3⟩:=hy2 jj x i y q1 q2
  exact⟨hrow2 _ k1,k2,k3.mono fun _ _ _ hv=>hext.imm _ _ _ hv⟩
theorem append_gr (hty:TyOK P ty) {t t2 el el2:TypeId} {j:TI} (hu:P.underlying t=some (.slice el)) (hu2:P.underlying t2=some (.slice el2)) (hj:ty el=some j) (hs0:0<j.size) (hb0:j.bytes≠0)
 {g:Gh} {w:World} {a:Act} {e':Env} {h':Heap} (s:Sim g w n a e' h') {st:Bool} {l d:Nat} {ow:Option Owner} {v1:Value} {xs ys:List PV} {v2:Value} {F2:Nat→Value} {a2:Option Addr} {cap2:Nat}
 (hv2:v2=.slice a2 ys.length cap2) (hF2:SlV (imm g w) a2 j.size ys F2) (r1:VRel g w (domOf h') ow v1 (.al st l j.size xs.length)) (hl:hget h' l=some (.gr st j.size xs)) (hd0:hget h' d=none) (hdb:d<bigId)
 (hroom:(xs.length+ys.length)*j.bytes≤140737488355328) (u:TypeId):
 ∃v' g' w',(Builtin.append_ #[t,t2] u #[v1,v2]).run P w=.ok v' w'∧Sim g' w' n a e' ((d,.gr st j.size (xs++ys))::(l,.dead)::h')∧Ext g w g' w'∧VRel g' w' (domOf ((d,AObj.gr st j.size (xs++ys))::(l,.dead)::h')) (some (.slot d)) v' (.al st d j.size (xs.length+ys.length)):=by
 obtain⟨inf,z,i1,i2,i3,i4,i5,i6⟩:=(hty el j hj).inf;subst hv2;have hld:l≠d:=fun q=>by subst q;rw[hl]at hd0;cases hd0
 have hdd:domOf ((d,AObj.gr st j.size (xs++ys))::(l,.dead)::h') d:=by simp[domOf,hget_self]
 have hd1:hget ((l,AObj.dead)::h') d=none:=by rw[hget_ne hld];exact hd0
 have hzs:z.cells.size=j.size:=by rw[←i6,←i5];simp
 have hmul:(xs.length+ys.length)*j.size=xs.length*j.size+ys.length*j.size:=Nat.add_mul _ _ _;have hyc:∀k,(Builtin.firstCells j.size ys.length (.slice a2 ys.length cap2)).run P { w with drawn:=k }=.ok ((List.range (ys.length*j.size)).map F2).toArray { w with drawn:=k }:=fun k=>run_firstCells (g:=g) (w:={ w with drawn:=k }) hF2 rfl
 have hy2:∀(jj:Nat) (x:PV) (i:Nat) (y:PV),ys[jj]?=some x→x.cells[i]?=some y→jj*j.size+i<ys.length*j.size∧(F2 (jj*j.size+i)).oneCell'=true∧PRel (imm g w) (F2 (jj*j.size+i)) y:=by
  intro jj x i y hx hi;have hi':i<j.size:=by have:=(List.getElem?_eq_some_iff.1 hi).1;have:=hF2.hz x (List.mem_of_getElem? hx);omega
  have hjl:jj<ys.length:=(List.getElem?_eq_some_iff.1 hx).1;obtain⟨b2,hb2⟩:=hF2.ad (fun q=>by subst q;simp at hjl);subst hb2;obtain⟨q1,q2,q3⟩:=hF2.cell b2 jj x i y rfl hx hi;refine⟨?_,q2,q3⟩;have:(jj+1)*j.size≤ys.length*j.size:=Nat.mul_le_mul_right _ hjl;rw[Nat.add_mul]at this;omega
 have s0:=s.kill hl;have fresh:=fun ax cap F hfit hlc hzx hxc hx2=>append_fresh hty hu hu2 hj hs0 hb0 s0 (st:=st) (xs:=xs) (cap2:=cap2) hF2 hd1 hdb hroom u ax cap F hfit hlc hzx hxc hx2;generalize hxl:xs.length=m at r1
 cases r1 with
 |al0 _ _ _ hdm=>
  have hx0:xs=[]:=List.eq_nil_of_length_eq_zero hxl;subst hx0
  by_cases hy0:ys=[]
  ·subst hy0
   have hy:=hyc w.drawn;have hrun:=run_append_fit hu hu2 i1 i2 (w:=w) (w':=w) (a:=none) (len:=0) (len2:=0) (cap:=0) (cap2:=cap2) (a2:=a2) (by simp) (by simpa using hy) (fun b hb=>by cases hb) (fun _=>rfl) u;refine⟨_,g,w,by simpa using hrun,?_,Ext.refl _ _,by simpa using .al0 _ d j.size hdd⟩;exact(s.kill hl).nilObj j.size
  ·have:=fresh none 0 (fun _=>undef) (by have:=List.length_pos_iff.2 hy0;simp;omega) (by simp) (by simp) (fun k=>by simp[Builtin.firstCells]) (by simp)
   simpa using this
 |al _ _ _ _ _ cap hdm h0 hc hn=>
  subst hxl;have hne:st=true∨xs≠[]:=h0.imp id fun h0 q=>by subst q;simp at h0
  have hsol:(AObj.gr st j.size xs).solid=true:=gr_solid hne
  cases s.heap.obj l _ hl with
  |gr _ _ _ hg=>
   obtain⟨vs,E,hb,_,hlen,hzx,hxx⟩:=hg hne;obtain⟨cs,E',hb',hcap⟩:=hn;rw[hb]at hb';cases hb'
   have hcell:∀k,k<xs.length*j.size→vs[k]?=some ((vs[k]?).getD undef):=fun k hk=>by
    have:k<vs.size:=by omega
    simp[this]
   have hx2:∀(jj:Nat) (x:PV) (i:Nat) (y:PV),xs[jj]?=some x→x.cells[i]?=some y→jj*j.size+i<xs.length*j.size∧((vs[jj*j.size+i]?).getD undef).oneCell'=true∧PRel (imm g w) ((vs[jj*j.size+i]?).getD undef) y:=by
    intro jj x i y hx hi;have hi':i<j.size:=by have:=(List.getElem?_eq_some_iff.1 hi).1;have:=hzx x (List.mem_of_getElem? hx);omega
    have hjl:jj<xs.length:=(List.getElem?_eq_some_iff.1 hx).1;obtain⟨v,q1,q2,q3⟩:=hxx jj x hx i y hi;refine⟨?_,by rw[q1];exact q2,by rw[q1];exact q3⟩;have:(jj+1)*j.size≤xs.length*j.size:=Nat.mul_le_mul_right _ hjl;rw[Nat.add_mul]at this;omega
   by_cases hfit:xs.length+ys.length≤cap
   · -- in place
    have hy:=hyc w.drawn;have hle1:(xs.length+ys.length)*j.size≤cap*j.size:=Nat.mul_le_mul_right _ hfit;have hlen2:((List.range (ys.length*j.size)).map F2).length=ys.length*j.size:=by simp
    have hone2:∀v∈(List.range (ys.length*j.size)).map F2,v.oneCell'=true:=by
     intro v hv;obtain⟨k,hk,rfl⟩:=List.mem_map.1 hv;have hk:k<ys.length*j.size:=by simpa using hk
     obtain⟨b2,hb2⟩:=hF2.ad (fun q=>by subst q;simp at hk);subst hb2;exact(hF2.all hk).2
    have hst:=run_storeCells_at (P:=P) (g.ρ l) (xs.length*j.size) E ((List.range (ys.length*j.size)).map F2) 0 vs w hb (by rw[hlen2];omega) hone2;simp only[Nat.add_zero]at hst;have hrun:=run_append_fit hu hu2 i1 i2 (w:=w) (a:=some ⟨g.ρ l,0,none⟩) (cap:=cap) hfit hy (fun b q=>by cases q;rw[Addr.add_plain,Nat.zero_add];exact hst) (fun q=>by cases q) u;have hsl':=splice_length vs.toList ((List.range (ys.length*j.size)).map F2) (xs.length*j.size) (by rw[hlen2];simp;omega);have hsg:=splice_get vs.toList ((List.range (ys.length*j.size)).map F2) (xs.length*j.size) (by rw[hlen2];simp;omega);generalize hrow:(vs.toList.take (xs.length*j.size)++(List.range (ys.length*j.size)).map F2++vs.toList.drop (xs.length*j.size+((List.range (ys.length*j.size)).map F2).length))=row at hst hrun hsl' hsg;have hrows:row.toArray.size=vs.size:=by simpa using hsl'
    obtain⟨s1,hE1⟩:=s.moveTo hl hne hd0 hdb;have hρ:(g.moveTo l d).ρ d=g.ρ l:=by simp[Gh.moveTo]
    have hb1:w.heap[(g.moveTo l d).ρ d]?=some (.cells vs E (0,0)):=by rw[hρ];exact hb
    have hl1:hget ((d,AObj.gr st j.size xs)::(l,AObj.dead)::h') d=some (.gr st j.size xs):=hget_self ..;have hown1:=s1.heap.own d _ hl1 hsol;have hpre1:=s1.heap.pre d _ hl1 hsol;have hb2:(w.setRow (g.ρ l) row.toArray).heap[g.ρ l]?=some (.cells row.toArray E (0,0)):=setRow_heap _ _ _ _ _ _ hb
    have s2:=s1.setObj (x:=.gr st j.size (xs++ys)) hl1 hb1 hrows (.gr _ _ _ fun _=>⟨row.toArray,E,by rw[hρ];exact hb2,hs0,by rw[hrows,List.length_append];omega,fun x hx=>by
     rcases List.mem_append.1 hx with hx|hx
     ·exact hzx x hx
     ·exact hF2.hz x hx,rows_app (F:=fun k=>(vs[k]?).getD undef) (F2:=F2) (fun jj x i y q1 q2=>?_) (fun jj x i y q1 q2=>?_)⟩) hsol
    ·rw[hρ]at s2
     have hE2:=Ext.setRow (g:=g.moveTo l d) (l:=d) hown1 hpre1 hb1 hrows;rw[hρ]at hE2;refine⟨_,_,_,hrun,s2.heapEq (fun k=>?_),hE1.trans hE2,?_⟩
     ·by_cases ek:d=k
      ·subst ek;rw[hget_self,hget_self]
      ·rw[hget_ne ek,hget_ne ek,hget_ne ek]
     ·have:=VRel.al (g:=g.moveTo l d) (w:=w.setRow (g.ρ l) row.toArray) (dom:=domOf ((d,AObj.gr st j.size (xs++ys))::(l,.dead)::h')) (some (.slot d)) st d j.size (xs.length+ys.length) cap hdd (hne.imp id fun h=>by have:=List.length_pos_iff.2 h;omega) hfit ⟨row.toArray,E,by rw[hρ];exact hb2,by rw[hrows];exact hcap⟩
      rw[hρ]at this;exact this
    ·obtain⟨k1,k2,k3⟩:=hx2 jj x i y q1 q2
     refine⟨?_,k2,?_⟩
     ·rw[List.getElem?_toArray,hsg,if_neg (by omega)]
      simpa using hcell _ k1
     ·exact(PRel.setRow (g:=g.moveTo l d) (l:=d) hpre1 (show PRel (imm (g.moveTo l d) w) _ y from k3))
    ·obtain⟨k1,k2,k3⟩:=hy2 jj x i y q1 q2
     refine⟨?_,k2,?_⟩
     ·rw[List.getElem?_toArray,hsg,if_pos (by rw[hlen2];omega),show xs.length*j.size+(jj*j.size+i)-xs.length*j.size=jj*j.size+i by omega]
      simp[k1]
     ·exact(PRel.setRow (g:=g.moveTo l d) (l:=d) hpre1 (show PRel (imm (g.moveTo l d) w) _ y from k3))
   ·refine fresh (some ⟨g.ρ l,0,none⟩) cap (fun k=>(vs[k]?).getD undef) (by omega) hc hzx (fun k=>?_) hx2
    simp only[Builtin.firstCells];exact run_loadCells { w with drawn:=k } ⟨g.ρ l,0,none⟩ _ _ (fun q hq=>by rw[Addr.add_plain,Nat.zero_add];exact(cell?_of (w:={ w with drawn:=k }) hb q).trans (hcell q hq))
theorem append_nil (hty:TyOK P ty) {t t2 el el2:TypeId} {j:TI} (hu:P.underlying t=some (.slice el)) (hu2:P.underlying t2=some (.slice el2)) (hj:ty el=some j) (hs0:0<j.size) (hb0:j.bytes≠0)
 {g:Gh} {w:World} {a:Act} {e':Env} {h':Heap} (s:Sim g w n a e' h') {d:Nat} {ys:List PV} {v2:Value} {F2:Nat→Value} {a2:Option Addr} {cap2:Nat}
 (hv2:v2=.slice a2 ys.length cap2) (hF2:SlV (imm g w) a2 j.size ys F2) (hd0:hget h' d=none) (hdb:d<bigId)
 (hroom:ys.length*j.bytes≤140737488355328) (u:TypeId):
 ∃v' g' w',(Builtin.append_ #[t,t2] u #[.slice none 0 0,v2]).run P w=.ok v' w'∧Sim g' w' n a e' ((d,.gr false j.size ys)::h')∧Ext g w g' w'∧VRel g' w' (domOf ((d,AObj.gr false j.size ys)::h')) (some (.slot d)) v' (.al false d j.size ys.length):=by
 obtain⟨inf,z,i1,i2,i3,i4,i5,i6⟩:=(hty el j hj).inf;subst hv2
 by_cases hy0:ys=[]
 ·subst hy0
  have hy:=run_firstCells (P:=P) (len:=0) (cap:=cap2) hF2 rfl;have hrun:=run_append_fit hu hu2 i1 i2 (w:=w) (w':=w) (a:=none) (len:=0) (len2:=0) (cap:=0) (cap2:=cap2) (a2:=a2) (by simp) (by simpa using hy) (fun b hb=>by cases hb) (fun _=>rfl) u;exact⟨_,g,w,by simpa using hrun,s.nilObj j.size,Ext.refl _ _,by simpa using .al0 _ d j.size (by simp[domOf,hget_self])⟩
 ·have:=append_fresh hty hu hu2 hj hs0 hb0 s (st:=false) (xs:=[]) (cap2:=cap2) hF2 hd0 hdb (by simpa using hroom) u none 0 (fun _=>undef) (by have:=List.length_pos_iff.2 hy0;simp;omega) (by simp) (by simp) (fun k=>by simp[Builtin.firstCells]) (by simp)
  simpa using this
theorem aAppend_sound (hty:TyOK P ty) (hd:∀d,o.dst=some d→d<n) {x y:Operand} {t t2:Nat} (ho:o.op=.call { callee:=.builtin .append,args:=⟨[x,y]⟩,argTypes:=⟨[t,t2]⟩ })
 (hk:aAppend ty o e h t t2 x (ev e y) K):∃f,K f∧OpOK P n o e h f:=by
 have m1:x∈o.op.operands:=by simp[ho,Op.operands,Call.operands]
 have m2:y∈o.op.operands:=by simp[ho,Op.operands,Call.operands]
 have hrun:∀(a:Act) (w w':World) (v:Value),(∀u,(Builtin.append_ #[t,t2] u #[a.eval x,a.eval y]).run P w=.ok v w')→(execOp a.eval o).run P w=.ok (.value v) w':=by
  intro a w w' v hl;obtain⟨cs,hcs⟩:=run_builtin_call (P:=P) ho a w;rw[hcs];simp only[builtin,List.map_cons,List.map_nil,Sem.run_bind];rw[hl];rfl
 unfold aAppend at hk;split at hk
 ·rename_i i hi ht2
  obtain⟨el2,hu2⟩:=isSliceT_spec hty ht2;split at hk
  ·rename_i el hde
   have hu:=(hty t i hi).und;rw[hde]at hu;split at hk
   ·rename_i j hj
    split at hk
    ·rename_i ys d hnz hys hdd
     have hnz:j.size*j.bytes≠0:=fun q=>by rw[q]at hnz;cases hnz
     have hs0:0<j.size:=Nat.pos_of_ne_zero fun q=>hnz (by rw[q,Nat.zero_mul]);have hb0:j.bytes≠0:=fun q=>hnz (by rw[q,Nat.mul_zero]);split at hk
     ·rename_i x _ _ hx
      split at hk
      ·obtain⟨hroom,hk⟩:=hk
       refine⟨_,hk,fun e' h' he _ g w a s=>?_⟩;obtain⟨_,r1⟩:=s.evo he m1 hx;obtain⟨_,r2⟩:=s.evo he m2 rfl;obtain⟨a2,cap2,F2,hv2,hF2⟩:=aYs_rel r2 hys;generalize hv:a.eval x=v at r1
       cases r1 with
       |nilS=>
        have key:∀u,∃v' g' w',(Builtin.append_ #[t,t2] u #[.slice none ([]:List PV).length 0,a.eval y]).run P w=.ok v' w'∧Sim g' w' n a e' h'∧Ext g w g' w'∧VRel g' w' (domOf h') (some (.slot d)) v' (.so j.size ([]++ys)):=fun u=>
         append_core hty hu hu2 hj hs0 hb0 s (sl:=n) hv2 hF2 (.nil j.size) (.inl rfl) (fun sz zs q=>by
          have:=s.env n;rw[q,show a.tmps.getD n undef=undef by simp[s.size]]at this
          cases this) (by simpa using hroom) u
        obtain⟨v',g',w',q1,q2,q3,q4⟩:=key o.type;refine Oper.wp_value (v:=v') (w':=w') ?_ ⟨g',?_,q3⟩
        ·obtain⟨cs,hcs⟩:=run_builtin_call (P:=P) ho a w
         rw[hcs];simp only[builtin,List.map_cons,List.map_nil,Sem.run_bind,hv];simp only[List.length_nil]at q1;rw[q1];rfl
        ·rw[hdd];simpa using q2.put (hd d hdd) q4
      ·split at hk
       ·rename_i hfr
        obtain⟨hfr1,hfr2⟩:=freshId_spec hfr;obtain⟨hroom,hk⟩:=hk;refine⟨_,hk,fun e' h' he hl g w a s=>?_⟩;obtain⟨_,r1⟩:=s.evo he m1 hx;obtain⟨_,r2⟩:=s.evo he m2 rfl;obtain⟨a2,cap2,F2,hv2,hF2⟩:=aYs_rel r2 hys;generalize hv:a.eval x=v at r1
        cases r1 with
        |nilS=>
         obtain⟨v',g',w',q1,q2,q3,q4⟩:=append_nil hty hu hu2 hj hs0 hb0 s hv2 hF2 ((hl d (by simp)).trans hfr1) hfr2 hroom o.type;refine Oper.wp_value (v:=v') (w':=w') ?_ ⟨g',?_,q3⟩
         ·obtain⟨cs,hcs⟩:=run_builtin_call (P:=P) ho a w
          rw[hcs];simp only[builtin,List.map_cons,List.map_nil,Sem.run_bind,hv];rw[q1];rfl
         ·rw[hdd];exact q2.put (hd d hdd) q4
       ·exact hk.elim
     ·rename_i sz xs st hx
      split at hk
      ·rename_i hsz hne
       obtain rfl:sz=j.size:=Nat.eq_of_beq_eq_true hsz;have hne:d≠st:=fun q=>by rw[q,beq_self]at hne;cases hne
       obtain⟨hroom,hk⟩:=hk;refine⟨_,hk,fun e' h' he _ g w a s=>?_⟩;have hslot:st∈slotsOf o:=by simp[slotsOf,ho,Op.operands,Call.operands]
       have hst:eget e' st=.so j.size xs:=by rw[he st hslot];exact hx
       have r1:=s.env st;rw[hst]at r1;obtain⟨_,r2⟩:=s.evo he m2 rfl;obtain⟨a2,cap2,F2,hv2,hF2⟩:=aYs_rel r2 hys;have s1:=s.dropSlot hst
       have core:∀ax cap,a.eval (.tmp st)=.slice ax xs.length cap→PRel (imm g w) (.slice ax xs.length cap) (.sl j.size xs)→
        (cap=xs.length∨∃(ad:Addr) (cs:Array Value) (E:TypeId),ax=some ad∧g.own ad.block=some (.slot st)∧g.pre ad.block=ad.off+xs.length*j.size∧w.heap[ad.block]?=some (.cells cs E (0,0))∧ad.off+cap*j.size≤cs.size)→
        o.wp P a w (fun a' w'=>∃g',Sim g' w' n a' ([(d,AV.so j.size (xs++ys)),(st,AV.p (.sl j.size xs))].reverse++e') (([]:Heap).reverse++h')∧Ext g w g' w') (fun _ _ _=>False):=by
        intro ax cap hv hp hcap;obtain⟨v',g',w',q1,q2,q3,q4⟩:=append_core hty hu hu2 hj hs0 hb0 s1 (d:=d) (sl:=st) hv2 hF2 hp hcap (fun sz zs q=>by rw[eget_self]at q;cases q) hroom o.type;refine Oper.wp_value (v:=v') (w':=w') ?_ ⟨g',?_,q3⟩
        ·obtain⟨cs,hcs⟩:=run_builtin_call (P:=P) ho a w
         rw[hcs];simp only[builtin,List.map_cons,List.map_nil,Sem.run_bind,hv];rw[q1];rfl
        ·rw[hdd]
         exact(q2.put (hd d hdd) q4).envEq (fun i=>by simp only[List.reverse_cons,List.reverse_nil,List.nil_append,List.cons_append];exact eget_swap hne _ _ _ i)
       generalize hval:a.tmps.getD st undef=u at r1
       cases r1 with
       |full _ ad _ _ hz hp=>exact core ad xs.length hval hp (.inl rfl)
       |own _ ad cap _ _ cs E hz hp how hpre hb hs=>exact core (some ad) cap hval hp (.inr ⟨ad,cs,E,rfl,how,hpre,hb,hs⟩)
      ·exact hk.elim
     ·rename_i st l sz m hx
      split at hk
      ·rename_i st' sz' xs hh hsz hfr
       obtain rfl:sz=j.size:=Nat.eq_of_beq_eq_true hsz;split at hk
       ·rename_i hsz2 hst2
        obtain rfl:st=st':=by simpa using hst2
        obtain rfl:j.size=sz':=Nat.eq_of_beq_eq_true hsz2;obtain⟨⟨rfl,hroom⟩,hk⟩:=hk;obtain⟨hfr1,hfr2⟩:=freshId_spec hfr;refine⟨_,hk,fun e' h' he hl g w a s=>?_⟩;obtain⟨_,r1⟩:=s.evo he m1 hx;obtain⟨_,r2⟩:=s.evo he m2 rfl;obtain⟨a2,cap2,F2,hv2,hF2⟩:=aYs_rel r2 hys;obtain⟨v',g',w',q1,q2,q3,q4⟩:=append_gr hty hu hu2 hj hs0 hb0 s hv2 hF2 r1 ((hl l (by simp)).trans hh) ((hl d (by simp)).trans hfr1) hfr2 hroom o.type;refine Oper.wp_value (v:=v') (w':=w') ?_ ⟨g',?_,q3⟩
        ·obtain⟨cs,hcs⟩:=run_builtin_call (P:=P) ho a w
         rw[hcs];simp only[builtin,List.map_cons,List.map_nil,Sem.run_bind];rw[q1];rfl
        ·rw[hdd];exact q2.put (hd d hdd) q4
       ·exact hk.elim
      ·exact hk.elim
     ·exact hk.elim
    ·exact hk.elim
   ·exact hk.elim
  ·exact hk.elim
 ·exact hk.elim
end
end Go.AM
