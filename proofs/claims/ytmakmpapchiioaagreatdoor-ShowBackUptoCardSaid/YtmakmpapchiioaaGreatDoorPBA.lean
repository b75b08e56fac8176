/-
  DERIVED. Contracts of functions that the law reaches, and the law, for every input. No conditions.
-/
import Derived.Test.YtmakmpapchiioaaGreatDoorPRD
open Go Go.AM Go.Proofs TK TR
set_option maxRecDepth 100000
namespace PA
def readsL:Bs:=[109,111,100,117,108,101,32,109,32,49,59,32,102,117,110,32,102,40,120,58,32,105,110,116,41,58,32,105,110,116,32,61,32,40,120,32,43,32,49,41,59]
def okReads (x:LPg×Int×Int):Bool:=x.2.2==0&&(x.1.name.toList==(⟨#[109]⟩:ByteArray).toList&&match x.1.funcs with | [f]=>f.body.kind==8|_=>false)
theorem reads_ok:okReads (parseF readsL)=true:=by kernel_rfl
def okReads2:Bool:=match programF (readF readsL).1 readsL.length 0 with|.ok (pg,_)=>decide (wlPg pg≤1048576)|_=>true
theorem reads_ok2:okReads2=true:=by kernel_rfl
theorem reads_aux (ev:Value) (nm:ByteArray) (ver at_:Int) (us:List LUse) (ds:List LDt) (ts:List LTr) (is:List LIm) (acs:List LAc) (fn:ByteArray) (ps ns:List ByteArray) (tys:List Ty) (ok:Int) (on:ByteArray) (ol:List Ty) (bn:Int) (bt:ByteArray) (bns:List ByteArray) (bts:List Ty) (bxs:List Ex) (bms:List Arm) (bp:Int)
 (h:AMem Tryz.prog 8 [.p (.s (B readsL))] (hE ev) (vParse (⟨nm,ver,us,ds,ts,is,[⟨fn,ps,ns,tys,.mk ok on ol,.mk 8 bn bt bns bts bxs bms bp⟩],acs⟩,at_,0)) (hE ev)) (hn:(nm.toList==(⟨#[109]⟩:ByteArray).toList)=true):
 AMem Tryz.prog 7 [] (hE ev) (.p (.b true)) (hE ev):=by
 unfold hE at h ⊢
 refine AMem.intro (tyOf_ok Tryz.prog) hmix Tryz.func7 rfl (by rfl) (by kernel_rfl) (by show 0≤_;decide) rfl ?_
 conv=>whnf
 refine amc [1000000000] 500 h ?_
 conv=>whnf
 rw[hn]
 conv=>whnf
 refine⟨_,Int.le_refl _,rfl,?_⟩
 conv=>whnf
 exact⟨.inl rfl,⟨rfl,rfl⟩,trivial⟩
theorem reads_spec (ev:Value) (hev:ev=.nilIface∨∃te pe,ev=.iface te pe):AMem Tryz.prog 7 [] (hE ev) (.p (.b true)) (hE ev):=by
 have h:=parse_at ev hev readsL (fun pg b hq=>by
  have:=reads_ok2
  unfold okReads2 at this
  rw[hq]at this
  exact of_decide_eq_true this)
 have hq:=reads_ok
 generalize parseF readsL=x at h hq
 obtain⟨⟨nm,ver,us,ds,ts,is,fs,acs⟩,at_,e⟩:=x
 unfold okReads at hq
 simp only[Bool.and_eq_true,beq_iff_eq]at hq
 obtain⟨rfl,hn,hf⟩:=hq
 match fs,hf with
 | [⟨fn,ps,ns,tys,.mk ok on ol,.mk bk bn bt bns bts bxs bms bp⟩],hf=>
   have hf:bk=8:=by simpa[Ex.kind] using hf
   subst hf
   exact reads_aux ev nm ver at_ us ds ts is acs fn ps ns tys ok on ol bn bt bns bts bxs bms bp h (by simpa using hn)
end PA
