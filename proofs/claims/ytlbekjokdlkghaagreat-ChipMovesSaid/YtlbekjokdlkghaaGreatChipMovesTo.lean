import Derived.Test.YtlbekjokdlkghaaGreatChipMovesVb
import Derived.Test.YtlbekjokdlkghaaGreatChipMovesGa
import Derived.Test.YtlbekjokdlkghaaGreatChipMovesNeuron
import Derived.Test.YtlbekjokdlkghaaGreatChipMovesNa
import Derived.Deep.Slices
import Derived.Deep.Fields
import Derived.ChangeSame
import Derived.WalkKit
import Derived.ProofKit
import Derived.OpenShut
import Derived.Carry
import Derived.Lib.SmallJoins
import Derived.WideKeyArgs
import Derived.Test.YtlbekjokdlkghaaGreatRows
section
set_option linter.unusedVariables false
set_option linter.unusedSimpArgs false
set_option maxHeartbeats 4000000
namespace Go.Proofs
open Go Go.Vx Go.Gm Go.RowKit Go.WideShapes Go.ChangeShapes Go.Deep Go.Joins
section
variable {H : Type} {enc : TypeId × Value -> H} {P : Program} {w : World} {base : Nat} {spare : Nat -> Bool} {held : Bool}
theorem dH5 {n:Int}(h:(Lit.int .i64 n).wf=true):I64 n:=by
 simp [Lit.wf,IntKind.min,IntKind.max,IntKind.signed,IntKind.bits] at h
 unfold I64
 omega
theorem kS7 {cs:List Value}(h:∀v∈cs,∃n:Int,v=.int .i64 n/\I64 n):∃ns:List Int,cs=ns.map (Value.int .i64)/\∀n∈ns,I64 n:=by
 induction cs with
 |nil=>exact ⟨[],rfl,by simp⟩
 |cons v cs ih=>
  obtain ⟨n,hn,hw⟩:=h v oU
  obtain ⟨ns,h1,h2⟩:=ih fun v hv=>h v (by simp [hv])
  refine ⟨n::ns,by rw [hn,h1];rfl,?_⟩
  intro m hm
  rcases qQ.1 hm with rfl|hm
  ·exact hw
  ·exact h2 m hm
theorem hW8 {e:TypeId}{fs:Array Field}{n:Nat}{cs:List Value}{x:DataW H×List MemPlace}(he:P.underlying e=some (.struct fs))(hone:oneCellFields P fs=true)(hC:P.cellsOf e=fs.size)
  (hi:∀(j:Nat) (f:Field),fs[j]? =some f->P.underlying f.type=some (.int .i64)) (h:DataW.trod enc P w base spare held n e cs=some x):
  ∃ns:List Int,cs=ns.map (Value.int .i64)/\ns.length=fs.size/\∀n∈ns,I64 n:=by
 obtain ⟨xs,m,_,_,hlen,hxl,hf⟩:=DataW.trod_struct he h
 have hall:∀v∈cs,∃n:Int,v=.int .i64 n/\I64 n:=by
  intro v hv
  obtain ⟨j,hj,rfl⟩:=List.mem_iff_getElem.1 hv
  have hjf:j<fs.size:=by omega
  have hfj:fs[j]? =some fs[j]:=Array.getElem?_eq_getElem hjf
  obtain ⟨ho,hk⟩:=hone_of hone j _ hfj
  have h1:=hf j _ hfj
  rw [ho,hk] at h1
  have hone':(cs.drop j).take 1=[cs[j]]:=by
   rw [qG hj]
   rfl
  rw [hone',qq qZ] at h1
  obtain ⟨n,hn,_,hw⟩:=DataW.trod_int (hi j _ hfj) h1
  simp only [List.cons.injEq,and_true] at hn
  exact ⟨n,hn,dH5 hw⟩
 obtain ⟨ns,h1,h2⟩:=kS7 hall
 exact ⟨ns,h1,by rw [<-hC,<-hlen,h1,qv],h2⟩
theorem cS4 {α:Type}{f:α->List Value}{k b:Nat}:∀{rows:List α} {off:Nat},(∀x∈rows,(f x).length=k)->(∀(i:Nat) r,rows[i]? =some r->Cells w b (off+i*k) (f r))->Cells w b off (bQ1 f rows)
 |[],off,_,_=>by intro j v hj;simp [bQ1] at hj
 |x::xs,off,hk,h=>by
  intro j v hj
  have hx:=hk x oU
  simp only [bQ1,Qf] at hj
  by_cases hlt:j<k
  ·rw [QY qZ] at hj
   have:=h 0 x rfl j v hj
   simpa using this
  ·rw [Qr qZ,hx] at hj
   have:=cS4 (rows:=xs) (off:=off+k) (fun y hy=>hk y (by simp [hy])) (fun i r hr=>by
    have:=h (i+1) r (by simpa using hr)
    rw [Nat.succ_mul] at this
    rw [show off+k+i*k=off+(i*k+k) by omega]
    exact this) (j - k) v hj
   rw [show off+k+(j - k)=off+j by omega] at this
   exact this
theorem fL8 {α:Type}(p:Nat->α->Prop):∀n:Nat,(∀i,i<n->∃x,p i x)->∃l:List α,l.length=n/\∀i x,l[i]? =some x->p i x
 |0,_=>⟨[],rfl,by simp⟩
 |n+1,h=>by
  obtain ⟨l,hl,hp⟩:=fL8 p n fun i hi=>h i qZ
  obtain ⟨x,hx⟩:=h n qZ
  refine ⟨l++[x],by simp [hl],?_⟩
  intro i y hy
  by_cases hi:i<n
  ·rw [QY qZ] at hy
   exact hp i y hy
  ·rw [Qr qZ] at hy
   have:i - l.length=0:=by
    by_cases h0:i - l.length=0
    ·exact h0
    ·rw [qf (by simp;omega)] at hy
     cases hy
   rw [this] at hy
   cases hy
   have:i=n:=by omega
   subst this
   exact hx
theorem dG6 {t e:TypeId}{fs:Array Field}{n:Nat}{v:Value}{r:Reach}{b0:Nat}{x:DataW H×List MemPlace}(ht:P.underlying t=some (.slice e))(he:P.underlying e=some (.struct fs))(hone:oneCellFields P fs=true)
  (hC:P.cellsOf e=fs.size) (hpos:0<fs.size) (hi:∀(j:Nat) (f:Field),fs[j]? =some f->P.underlying f.type=some (.int .i64)) (h:DataW.trod enc P w base spare held n t [v]=some x) (hok:Cell.okWide P w r b0 t v):
  ∃(p:Option Addr) (c b off:Nat) (rows:List (List Int)),v=.slice p rows.length c/\rows.length<=c/\rows.length<=maxLen/\Sl w (fun r:List Int=>r.map (Value.int .i64)) fs.size rows p rows.length b off/\
   ∀r∈rows,r.length=fs.size/\∀n∈r,I64 n:=by
 rcases open_slice ht h with ⟨hcs,_⟩|⟨a,len,cap,m,n,D,Pl,hcs,hb,hl,hm,hmm,hx,hel⟩
 ·simp only [List.cons.injEq,and_true] at hcs
  exact ⟨none,0,0,0,[],hcs,by simp,by simp,Sl.nil (Or.inl rfl),by simp⟩
 ·simp only [List.cons.injEq,and_true] at hcs
  subst hcs
  have hsp:a.spot=none:=by
   simp only [Cell.okWide,ht,Cell.ok] at hok
   exact hok.2.2.2.1
  have hlm:len<=m:=by rw [hmm];split<;>omega
  obtain ⟨rows,hlen,hrows⟩:=fL8 (fun i (r:List Int)=>Cells w a.block (a.off+i*fs.size) (r.map (Value.int .i64))/\r.length=fs.size/\∀n∈r,I64 n) len (fun i hilt=>by
   obtain ⟨cs',hc,ht'⟩:=hel i qZ
   obtain ⟨ns,h1,h2,h3⟩:=hW8 he hone hC hi ht'
   refine ⟨ns,?_,h2,h3⟩
   obtain ⟨_,hcl,hat⟩:=World.cells?_some hc
   intro j v hj
   rw [<-h1] at hj
   have hjl:j<cs'.length:=(qx.1 hj).1
   have:=hat j qZ
   rw [hj] at this
   rw [<-this]
   congr 1
   rw [hC]
   unfold Addr.add
   obtain ⟨ab,ao,asp⟩:=a
   simp only at hsp
   subst hsp
   split<;>split<;>simp_all<;>omega)
  subst hlen
  refine ⟨some a,cap,a.block,a.off,rows,rfl,hl,by omega,⟨Or.inl ?_,rfl,?_⟩,?_⟩
  ·obtain ⟨ab,ao,asp⟩:=a
   simp only at hsp
   subst hsp
   rfl
  ·refine cS4 (fun x hx=>?_) (fun i r hr=>(hrows i r hr).1)
   obtain ⟨i,hi,rfl⟩:=List.mem_iff_getElem.1 hx
   rw [qv]
   exact (hrows i _ (qq hi)).2.1
  ·intro r hr
   obtain ⟨i,hi,rfl⟩:=List.mem_iff_getElem.1 hr
   exact (hrows i _ (qq hi)).2
theorem hC5 {α β:Type}{f:α->List Value}{g:β->List Value}{k:Nat}{l:List α}{p:Option Addr}{n b off:Nat}(h:Sl w f k l p n b off)(m:α->β)(hm:∀x∈l,g (m x)=f x):Sl w g k (l.map m) p n b off:=by
 refine ⟨h.base,by rw [qv];exact h.len,?_⟩
 have:bQ1 g (l.map m)=bQ1 f l:=by
  clear h
  induction l with
  |nil=>rfl
  |cons y l ih=>
   simp only [bQ1,qI,Qf] at ih ⊢
   rw [hm y oU,ih fun x hx=>hm x (by simp [hx])]
 rw [this]
 exact h.cells
end
end Go.Proofs
end
section
namespace Go.Proofs
open Go Go.Vx Go.Gm Go.RowKit Go.WideShapes Go.ChangeShapes Go.Deep Go.Joins
section
variable {H : Type} {enc : TypeId × Value -> H} {P : Program}
theorem gZ6 {W W':World}(h:St W [] [] W'):Below W.heap.size W W':=⟨h.os,h.tape,h.output,h.size,fun k hk=>h.old k hk oU⟩
theorem fN1 (hl:laidOutB P=true){W W':World}(hb:Below W.heap.size W W'){sp:Nat->Bool}:∀{ts:List TypeId} {vs:List Value} {ds:List (DataW H)} {ps:List MemPlace},
  (ts.all fun t=>P.readableRec t&&decide (t<P.types.size))=true->DataW.TrodAll enc P W 0 (fun _=>true) true ts vs ds ps->(∀x∈ps,x.block<W.heap.size)->(∀x∈ps,sp x.block=true)->
  DataW.TrodAll enc P W' 0 sp true ts vs ds ps
 |[],_,_,_,_,h,_,_=>by
  obtain ⟨rfl,rfl,rfl⟩:=trodAll_nil h
  rfl
 |t::ts,_,_,_,hr,h,hlt,hsp=>by
  obtain ⟨v,vs,d,ds,p,q,rfl,rfl,rfl,h1,h2⟩:=trodAll_cons h
  simp only [List.all_cons,Qd,jy] at hr
  refine trodAll_cons_mk (WideElems.Trod_stays hl hr.1.1 hr.1.2 h1 (fun x hx=>hb.same (hlt x (by simp [hx]))) (fun x hx=>hsp x (by simp [hx]))) ?_
  exact fN1 hl hb hr.2 h2 (fun x hx=>hlt x (by simp [hx])) (fun x hx=>hsp x (by simp [hx]))
theorem kK7 {f:Func}{s:ChangeSpec}{fresh handsOn:Bool}{W W':World}{args:Array Value}{ds gs:List (DataW H)}{before:List MemPlace}{t0:TypeId}
  (hl:laidOutB P=true) (hr:(f.params.toList.all fun t=>P.readableRec t&&decide (t<P.types.size))=true) (hsv:s.vars=[]) (hres:f.resultTypes=#[t0]) (ht0:P.underlying t0=some .bool)
  (hspec:s.fn H ds={results:=[.lit (.bool true)],args:=ds}) (hW:DataW.Whole enc P f.params.toList s.vars false W args.toList ds gs before) (hs:St W [] [] W'):
  s.post enc P f false fresh handsOn false W args (.bool true) W':=by
 have hb:=gZ6 hs
 have hlt:∀p∈before,p.block<W.heap.size:=fun p hp=>hW.lt p hp
 have hW':=hW
 obtain ⟨p,q,hA,hV,rfl,hz,hn⟩:=hW
 rw [hsv] at hV
 obtain ⟨rfl,rfl⟩:=trodVars_none hV
 have hargs:∀sp:Nat->Bool,(∀x∈p,sp x.block=true)->DataW.TrodAll enc P W' 0 sp true f.params.toList args.toList ds p:=fun sp hsp=>fN1 hl hb hr hA (fun x hx=>hlt x (by simp [hx])) hsp
 have hold:∀x∈p,(fun b=>decide (b<W.heap.size)) x.block=true:=fun x hx=>by simpa using hlt x (by simp [hx])
 have e:s.fn H (ds++[])={results:=[.lit (.bool true)],args:=ds}:=by rw [qC];exact hspec
 have hr1:∀(b:Nat) (sp:Nat->Bool) (hd:Bool),DataW.TrodAll enc P W' b sp hd f.resultTypes.toList ((Value.bool true).resultList f.resultTypes.size) [.lit (.bool true)] []:=fun b sp hd=>by
  rw [hres]
  exact trodAll_mk1 (shut_bool ht0 _)
 have hvars:∀sp:Nat->Bool,DataW.TrodVars enc P W' sp s.vars (s.fn H (ds++[])).vars []:=fun sp=>by rw [hsv,e];rfl
 refine ⟨ds,[],_,[],p,[],hW',by rw [e];exact hr1 _ _ _,by rw [e];exact hargs _ hold,hvars _,World.keptBut_mono (fun x hx=>?_) (hb.frame (fun _=>False)),fun h=>by cases h⟩
 exact hx.elim
end
end Go.Proofs
end
section
namespace Go.Proofs
open Go Go.Vx Go.Gm Go.RowKit Go.WideShapes Go.ChangeShapes Go.Deep Go.Joins
theorem Tryz.own0:ownKnob Tryz.prog.godebug=none:=by kernel_rfl
theorem Tryz.laid0:laidOutB Tryz.prog=true:=by kernel_rfl
def gN2:List Int->Par
 |[a,b,c,d,e,f,g,h]=>⟨a,b,c,d,e,f,g,h⟩
 |_=>⟨0,0,0,0,0,0,0,0⟩
def dL5:List Int->Syn
 |[a,b,c,d]=>⟨a,b,c,d⟩
 |_=>⟨0,0,0,0⟩
def gX5:List Int->Evt
 |[a,b]=>⟨a,b⟩
 |_=>⟨0,0⟩
theorem gY2 {r:List Int}(h:r.length=8)(hi:∀n∈r,I64 n):bH3 (gN2 r)=r.map (Value.int .i64)/\(gN2 r).wf:=by
 match r,h with
 |[a,b,c,d,e,f,g,i],_=>exact ⟨rfl,by constructor<;>exact hi _ (by simp [gN2])⟩
theorem gV3 {r:List Int}(h:r.length=4)(hi:∀n∈r,I64 n):bP1 (dL5 r)=r.map (Value.int .i64)/\(dL5 r).wf:=by
 match r,h with
 |[a,b,c,d],_=>exact ⟨rfl,hi _ (by simp [dL5]),hi _ (by simp [dL5]),hi _ (by simp [dL5]),hi _ (by simp [dL5])⟩
theorem gH0 {r:List Int}(h:r.length=2)(hi:∀n∈r,I64 n):cP1 (gX5 r)=r.map (Value.int .i64)/\(gX5 r).wf:=by
 match r,h with
 |[a,b],_=>exact ⟨rfl,hi _ (by simp [gX5]),hi _ (by simp [gX5])⟩
theorem cR8 {P:Program}{fs:Array Field}{t:TypeId}(ht:P.underlying t=some (.int .i64))(h:(fs.all fun f=>f.type==t)=true):∀(j:Nat) (f:Field),fs[j]? =some f->P.underlying f.type=some (.int .i64):=by
 intro j f hj
 have:=Array.all_eq_true_iff_forall_mem.1 h f (Array.mem_of_getElem? hj)
 simp only [beq_iff_eq] at this
 rw [this]
 exact ht
theorem bC9 {P:Program}{W:World}{r:Reach}{b0:Nat}{t:TypeId}{fs:Array Field}{vs:Array Value}{ts:List TypeId}(hs:P.underlying t=some (.struct fs))(hts:P.cellTypes P.depth t=some ts)(h:Value.okWide P W r b0 t (.agg vs))(j:Nat){v:Value}{u:TypeId}
  (hv:vs[j]? =some v) (hu:ts[j]? =some u) (hj:j<ts.length):Cell.okWide P W r b0 u v:=by
 simp only [Value.okWide,hs] at h
 obtain ⟨cs,h1,_,ts',h2,_,h3⟩:=h
 cases h1
 rw [hts] at h2
 cases h2
 obtain ⟨u',hu',hc⟩:=h3 j v hv
 rw [jv hj,hu] at hu'
 cases hu'
 exact hc
section
variable {H : Type} {enc : TypeId × Value -> H} {W : World} {base b0 : Nat} {spare : Nat -> Bool} {held : Bool} {r : Reach}
end
end Go.Proofs
end
section
namespace Go.Proofs
open Go Go.Vx Go.Gm Go.RowKit Go.WideShapes Go.ChangeShapes Go.Deep Go.Joins
section
variable {H : Type} {enc : TypeId × Value -> H} {W : World} {base b0 : Nat} {spare : Nat -> Bool} {held : Bool} {r : Reach}
theorem fJ4 {P:Program}{t e:TypeId}{v:Value}(ht:P.underlying t=some (.slice e))(hv:Value.okWide P W r b0 t v):Cell.okWide P W r b0 t v:=by
 simpa only [Value.okWide,ht] using hv
theorem dS7 {P:Program}{t e:TypeId}{v:Value}{d:DataW H}{p:List MemPlace}(ht:P.underlying t=some (.slice e))(hv:Value.okWide P W r b0 t v)(h:DataW.Trod enc P W base spare held t v d p):
  ∃n,DataW.trod enc P W base spare held n t [v]=some (d,p):=by
 obtain ⟨a,len,cap,rfl⟩:=okWide_slice ht hv
 obtain ⟨n,hn⟩:=h
 exact ⟨n,hn⟩
set_option maxRecDepth 100000 in
theorem kT6 {v:Value}{d:DataW H}{p:List MemPlace}(hv:Value.okWide Tryz.prog W r b0 5 v)(h:DataW.Trod enc Tryz.prog W base spare held 5 v d p):∃n:Nat,v=.int .u8 (n:Int)/\n<256:=by
 obtain ⟨n,rfl,_,_,hw⟩:=open_int Tryz.underlying5 hv h
 simp [Lit.wf,IntKind.min,IntKind.max,IntKind.signed,IntKind.bits] at hw
 exact ⟨n.toNat,by rw [Ql qZ],by omega⟩
theorem dG7 {P:Program}{t e:TypeId}{n:Nat}{v:Value}{x:DataW H×List MemPlace}(ht:P.underlying t=some (.slice e))(he:P.underlying e=some (.int .i64))(hC:P.cellsOf e=1)
  (h:DataW.trod enc P W base spare held n t [v]=some x) (hok:Cell.okWide P W r b0 t v):
  ∃(p:Option Addr) (c b off:Nat) (l:List Int),v=.slice p l.length c/\l.length<=c/\l.length<=maxLen/\Sl W bQ6 1 l p l.length b off/\∀n∈l,I64 n:=by
 rcases open_slice ht h with ⟨hcs,_⟩|⟨a,len,cap,m,n,D,Pl,hcs,hb,hl,hm,hmm,hx,hel⟩
 ·simp only [List.cons.injEq,and_true] at hcs
  exact ⟨none,0,0,0,[],hcs,by simp,by simp,Sl.nil (Or.inl rfl),by simp⟩
 ·simp only [List.cons.injEq,and_true] at hcs
  subst hcs
  have hsp:a.spot=none:=by
   simp only [Cell.okWide,ht,Cell.ok] at hok
   exact hok.2.2.2.1
  have hlm:len<=m:=by rw [hmm];split<;>omega
  obtain ⟨l,hlen,hrows⟩:=fL8 (fun i (z:Int)=>Cells W a.block (a.off+i*1) (bQ6 z)/\I64 z) len (fun i hilt=>by
   obtain ⟨cs',hc,ht'⟩:=hel i qZ
   obtain ⟨z,hz,_,hw⟩:=DataW.trod_int he ht'
   refine ⟨z,?_,dH5 hw⟩
   obtain ⟨_,hcl,hat⟩:=World.cells?_some hc
   intro j v hj
   have hj':cs'[j]? =some v:=by rw [hz];exact hj
   have hjl:j<cs'.length:=(qx.1 hj').1
   have:=hat j qZ
   rw [hj'] at this
   rw [<-this]
   congr 1
   rw [hC]
   unfold Addr.add
   obtain ⟨ab,ao,asp⟩:=a
   simp only at hsp
   subst hsp
   split<;>split<;>simp_all<;>omega)
  subst hlen
  refine ⟨some a,cap,a.block,a.off,l,rfl,hl,by omega,⟨Or.inl ?_,rfl,?_⟩,?_⟩
  ·obtain ⟨ab,ao,asp⟩:=a
   simp only at hsp
   subst hsp
   rfl
  ·exact cS4 (fun x hx=>rfl) (fun i r hr=>(hrows i r hr).1)
  ·intro r hr
   obtain ⟨i,hi,rfl⟩:=List.mem_iff_getElem.1 hr
   exact (hrows i _ (qq hi)).2
set_option maxRecDepth 100000 in
theorem kT7 {v:Value}{d:DataW H}{p:List MemPlace}(hv:Value.okWide Tryz.prog W r b0 28 v)(h:DataW.Trod enc Tryz.prog W base spare held 28 v d p):
  ∃(l:List Int) (pe:Option Addr) (ce be oe:Nat),v=.slice pe l.length ce/\(∀x∈l,I64 x)/\l.length<=ce/\l.length<=maxLen/\Sl W bQ6 1 l pe l.length be oe:=by
 obtain ⟨n,hn⟩:=dS7 Tryz.underlying28 hv h
 obtain ⟨pe,ce,be,oe,l,rfl,a1,a2,a3,a4⟩:=dG7 Tryz.underlying28 Tryz.underlying3 (by kernel_rfl) hn (fJ4 Tryz.underlying28 hv)
 exact ⟨l,pe,ce,be,oe,rfl,a4,a1,a2,a3⟩
end
end Go.Proofs
end
