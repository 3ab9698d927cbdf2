import Derived.Test.YtlbekjokdlkghaaGreatChipKnownPm
import Derived.Test.YtlbekjokdlkghaaGreatChipKnownNa
import Derived.Test.YtlbekjokdlkghaaGreatChipKnownPw
import Derived.DeepKeys4
import Derived.KernelRfl
set_option linter.unusedVariables false
set_option linter.unusedSimpArgs false
set_option maxHeartbeats 4000000
namespace Go.Proofs
open Go Go.Vx Go.Gm
structure KeyTy {α:Type} (T:TypeId) (A:α->Value) (wf:α->Prop):Prop where
 law:WideMaps.KeyLaw Tryz.prog T
 key:∀x,wf x->∃l,keyOf Tryz.prog T (A x)=some l
 inj:∀x y,A x=A y->x=y
structure MapF {α β:Type} (A:α->Value) (wf:α->Prop) (V:β->Value) (m:List (Value×Value)) (f:α->Option β):Prop where
 only:∀p∈m,∃x v,wf x/\f x=some v/\p=(A x,V v)
 has:∀x v,f x=some v->∃p∈m,p.1=A x
 nodup:(m.map (·.1)).Nodup
section
variable {α β : Type} {T : TypeId} {A : α -> Value} {wf : α -> Prop} {V : β -> Value} {m : List (Value × Value)} {f : α -> Option β} {H : HP} {b : Nat} {u : Ent -> HP} {r : HP}
theorem MapF.nil:MapF A wf V [] fun _=>none:=⟨by simp,fun x v h=>(by cases h),by simp⟩
theorem MapF.congr (h:MapF A wf V m f){g:α->Option β}(e:∀x,g x=f x):MapF A wf V m g:=by
 have:g=f:=funext e
 rw [this];exact h
theorem MapF.keys (K:KeyTy T A wf)(h:MapF A wf V m f):∀p∈m,∃l,keyOf Tryz.prog T p.1=some l:=by
 intro p hp
 obtain ⟨x,v,hx,_,rfl⟩:=h.only p hp
 exact K.key x hx
theorem MapF.at_ (K:KeyTy T A wf)(h:MapF A wf V m f){x:α}{j:Nat}{v:Value}(hj:m[j]? =some (A x,v)):∃y,f x=some y/\v=V y:=by
 obtain ⟨z,y,_,h1,h2⟩:=h.only _ (qz hj)
 simp only [Prod.mk.injEq] at h2
 rw [K.inj _ _ h2.1]
 exact ⟨y,h1,h2.2⟩
theorem MapF.absent (K:KeyTy T A wf)(h:MapF A wf V m f){x:α}(hn:∀p∈m,p.1≠A x):f x=none:=by
 cases he:f x with
 |none=>rfl
 |some v=>
  obtain ⟨p,hp,h1⟩:=h.has x v he
  exact absurd h1 (hn p hp)
theorem MapF.get (K:KeyTy T A wf)(hat:At H (.mapk b m) u r)(h:MapF A wf V m f)(x:α)(hx:wf x){k:Option Value->Prop}
  (h0:f x=none->k none) (h1:∀y,f x=some y->k (some (V y))):VLkK Tryz.prog T H b (A x) k:=
 .mk hat K.law (K.key x hx) (h.keys K) (fun hn=>h0 (h.absent K hn)) (fun j v hj=>by
  obtain ⟨y,h2,rfl⟩:=h.at_ K hj
  exact h1 y h2)
theorem MapF.push (K:KeyTy T A wf)(h:MapF A wf V m f)[DecidableEq α]{x:α}(hx:wf x)(y:β)(hn:∀p∈m,p.1≠A x):MapF A wf V (m++[(A x,V y)]) fun z=>if z=x then some y else f z:=by
 refine ⟨fun p hp=>?_,fun z v hz=>?_,?_⟩
 ·rcases qH.1 hp with hp|hp
  ·obtain ⟨z,v,h1,h2,rfl⟩:=h.only p hp
   have hne:¬z=x:=fun e=>hn _ hp (by rw [e])
   exact ⟨z,v,h1,by rw [jz hne];exact h2,rfl⟩
  ·rw [qt] at hp
   exact ⟨x,y,hx,by rw [jx rfl],hp⟩
 ·by_cases e:z=x
  ·exact ⟨(A x,V y),by simp,by rw [e]⟩
  ·rw [jz e] at hz
   obtain ⟨p,hp,h1⟩:=h.has z v hz
   exact ⟨p,QW _ hp,h1⟩
 ·rw [ql,Qe]
  refine ⟨h.nodup,by simp,fun a ha c hc=>?_⟩
  obtain ⟨p,hp,rfl⟩:=qo.1 ha
  simp only [qI,QL,qt] at hc
  rw [hc]
  exact hn p hp
theorem MapF.set (K:KeyTy T A wf)(h:MapF A wf V m f)[DecidableEq α]{x:α}(hx:wf x)(y:β){j:Nat}{v0:Value}(hj:m[j]? =some (A x,v0)):MapF A wf V (m.set j (A x,V y)) fun z=>if z=x then some y else f z:=by
 refine ⟨fun p hp=>?_,fun z v hz=>?_,?_⟩
 ·obtain ⟨i,hi⟩:=jy hp
  rw [qO] at hi
  by_cases hji:j=i
  ·rw [jx hji] at hi
   split at hi
   ·cases hi
    exact ⟨x,y,hx,by rw [jx rfl],rfl⟩
   ·cases hi
  ·rw [jz hji] at hi
   obtain ⟨z,v,h1,h2,rfl⟩:=h.only p (qz hi)
   by_cases e:z=x
   ·subst e
    have e1:(m.map (·.1))[j]? =some (A z):=by rw [qj,hj];rfl
    have e2:(m.map (·.1))[i]? =some (A z):=by rw [qj,hi];rfl
    exact absurd ((List.getElem?_inj (qx.1 e1).1 h.nodup).1 (e1.trans e2.symm)) hji
   ·exact ⟨z,v,h1,by rw [jz e];exact h2,rfl⟩
 ·by_cases e:z=x
  ·refine ⟨(A x,V y),qz (i:=j) ?_,by rw [e]⟩
   rw [qO,jx rfl,jx (qx.1 hj).1]
  ·rw [jz e] at hz
   obtain ⟨p,hp,h1⟩:=h.has z v hz
   obtain ⟨i,hi⟩:=jy hp
   have hji:¬j=i:=by
    intro hji
    subst hji
    rw [hj] at hi
    cases hi
    exact e (K.inj _ _ h1.symm)
   refine ⟨p,qz (i:=i) ?_,h1⟩
   rw [qO,jz hji,hi]
 ·have:(m.set j (A x,V y)).map (·.1)=m.map (·.1):=by
   rw [List.map_set]
   apply qp
   intro i
   rw [qO]
   by_cases hji:j=i
   ·subst hji
    have hlt:=(qx.1 hj).1
    rw [jx rfl,jx (by rw [qv];exact hlt),qj,hj];rfl
   ·rw [jz hji]
  rw [this]
  exact h.nodup
theorem MapF.put (K:KeyTy T A wf)[DecidableEq α](hat:At H (.mapk b m) u r)(h:MapF A wf V m f)(x:α)(hx:wf x)(y:β){k:HP->Prop}
  (hk:∀m',(MapF A wf V m' fun z=>if z=x then some y else f z)->k (u (.mapk b m'))):VUpK Tryz.prog T H b (A x) (V y) k:=
 .mk hat K.law (K.key x hx) (h.keys K) (fun hn=>hk _ (h.push K hx y hn)) (fun j v0 hj=>hk _ (h.set K hx y hj))
theorem MapF.erase (K:KeyTy T A wf)(h:MapF A wf V m f)[DecidableEq α]{x:α}{j:Nat}{v0:Value}(hj:m[j]? =some (A x,v0)):MapF A wf V (m.eraseIdx j) fun z=>if z=x then .none else f z:=by
 have hsub:(m.eraseIdx j).map (·.1)=(m.map (·.1)).eraseIdx j:=by
  have hme:∀{γ δ:Type} (g:γ->δ) (l:List γ) (i:Nat),(l.eraseIdx i).map g=(l.map g).eraseIdx i:=by
   intro γ δ g l
   induction l with
   |nil=>intro i;simp
   |cons x r ih=>intro i;cases i<;>simp [ih]
  exact hme ..
 have e1:(m.map (·.1))[j]? =some (A x):=by rw [qj,hj];rfl
 refine ⟨fun p hp=>?_,fun z v hz=>?_,?_⟩
 ·obtain ⟨i,hi⟩:=jy hp
  rw [List.getElem?_eraseIdx] at hi
  obtain ⟨q,hq,hne⟩:∃q,m[q]? =some p/\q≠j:=by
   split at hi
   ·exact ⟨i,hi,by omega⟩
   ·exact ⟨i+1,hi,by omega⟩
  obtain ⟨z,v,h1,h2,rfl⟩:=h.only p (qz hq)
  have e:¬z=x:=by
   intro e
   subst e
   have e2:(m.map (·.1))[q]? =some (A z):=by rw [qj,hq];rfl
   exact hne ((List.getElem?_inj (qx.1 e2).1 h.nodup).1 (e2.trans e1.symm))
  exact ⟨z,v,h1,by rw [jz e];exact h2,rfl⟩
 ·by_cases e:z=x
  ·rw [jx e] at hz;cases hz
  ·rw [jz e] at hz
   obtain ⟨p,hp,h1⟩:=h.has z v hz
   obtain ⟨i,hi⟩:=jy hp
   have hji:i≠j:=by
    intro hji
    subst hji
    rw [hj] at hi
    cases hi
    exact e (K.inj _ _ h1.symm)
   refine ⟨p,?_,h1⟩
   by_cases hlt:i<j
   ·exact qz (i:=i) (by rw [List.getElem?_eraseIdx,jx hlt];exact hi)
   ·exact qz (i:=i - 1) (by rw [List.getElem?_eraseIdx,jz (by omega),show i - 1+1=i by omega];exact hi)
 ·rw [hsub]
  exact h.nodup.sublist (List.eraseIdx_sublist ..)
theorem MapF.del (K:KeyTy T A wf)[DecidableEq α](hat:At H (.mapk b m) u r)(h:MapF A wf V m f)(x:α)(hx:wf x){k:HP->Prop}
  (hk:∀m',(MapF A wf V m' fun z=>if z=x then .none else f z)->k (u (.mapk b m'))):VDlK Tryz.prog T H b (A x) k:=
 .mk hat K.law (K.key x hx) (h.keys K) (fun hn=>hk _ (h.congr fun z=>by
  by_cases e:z=x
  ·rw [jx e,e,h.absent K hn]
  ·rw [jz e])) (fun j v0 hj=>hk _ (h.erase K hj))
structure Bare [DecidableEq α] (A:α->Value) (wf:α->Prop) (V:β->Value) (x:α) (z:β) (es:Array MapEntry) (clock st:Nat) (f:α->Option β):Prop where
 stamped:MapKept.Stamped es clock
 ok:∃(m:List (Value×Value)) (j:Nat) (v:Value) (e:MapEntry),es.toList.map (fun x=>(x.key,x.val))=m/\m[j]? =some (A x,v)/\es.toList[j]? =some e/\e.born=st/\MapF A wf V m (fun y=>if y=x then some ((f x).getD z) else f y)
theorem MapF.entry (K:KeyTy T A wf)[DecidableEq α](hat:At H (.mapk b m) u r)(h:MapF A wf V m f)(x:α)(hx:wf x)(z:β){k:Value->HP->Prop}
  (hk:∀es clock st,Bare A wf V x z es clock st f->k (.tuple #[V ((f x).getD z),.int .i64 (st:Int)]) (u (.obj b (.map es clock)))):VMpE Tryz.prog T (V z) H b (A x) k:=by
 refine .mk hat K.law (K.key x hx) (h.keys K) (fun hn es clock st h1 h2 ⟨e,h3,h4⟩=>?_) (fun j v hj es clock st h1 h2 ⟨e,h3,h4⟩=>?_)
 ·have h0:=h.absent K hn
  have:=hk es clock st ⟨h2,_,m.length,V z,e,h1,by simp,h3,h4,by rw [h0];exact h.push K hx z hn⟩
  rw [h0] at this
  exact this
 ·obtain ⟨y,h5,rfl⟩:=h.at_ K hj
  have:=hk es clock st ⟨h2,_,j,V y,e,h1,hj,h3,h4,h.congr fun q=>by
   by_cases e:q=x
   ·rw [jx e,e,h5];rfl
   ·rw [jz e]⟩
  rw [h5] at this
  exact this
theorem Bare.get (K:KeyTy T A wf)[DecidableEq α]{x:α}{z:β}{es:Array MapEntry}{clock st:Nat}(hat:At H (.obj b (.map es clock)) u r)(h:Bare A wf V x z es clock st f)(hx:wf x){k:Option Value->Prop}
  (hk:k (some (V ((f x).getD z)))):VLkK Tryz.prog T H b (A x) k:=by
 obtain ⟨hst,m,j,v,e,h1,h2,h3,h4,h5⟩:=h
 refine .obj hat h1 hst K.law (K.key x hx) (h5.keys K) (fun hn=>?_) (fun i v hi=>?_)
 ·have:=h5.absent K hn
  rw [jx rfl] at this
  cases this
 ·obtain ⟨y,h6,rfl⟩:=h5.at_ K hi
  rw [jx rfl] at h6
  cases h6
  exact hk
theorem Bare.store (K:KeyTy T A wf)[DecidableEq α]{x:α}{z:β}{es:Array MapEntry}{clock st:Nat}(hat:At H (.obj b (.map es clock)) u r)(h:Bare A wf V x z es clock st f)(hx:wf x)(y:β){k:HP->Prop}
  (hk:∀m',(MapF A wf V m' fun q=>if q=x then some y else f q)->k (u (.mapk b m'))):VEnS H b (st:Int) (V y) k:=by
 obtain ⟨hst,m,j,v,e,h1,h2,h3,h4,h5⟩:=h
 have hek:e.key=A x:=by
  have:=congrArg (fun l=>l[j]?) h1
  simp only [qj,h3,h2] at this
  simp only [qV,qK,Prod.mk.injEq] at this
  exact this.1
 refine .mk hat h1 hst h3 (by rw [h4]) (hk _ ?_)
 rw [hek]
 exact (h5.set K hx y h2).congr fun q=>by
  by_cases e:q=x
  ·rw [jx e,jx e]
  ·rw [jz e,jz e,jz e]
end
theorem Tryz.laidK:laidOutB Tryz.prog=true:=by kernel_rfl
theorem Tryz.cellsIK:Tryz.prog.cellsOf 3=1:=by kernel_rfl
theorem Tryz.undIK:Tryz.prog.underlying 3=some (.int .i64):=by kernel_rfl
theorem litIntK (n:Int)(hn:I64 n):(Lit.int .i64 n).wf=true:=by
 unfold I64 at hn
 simp only [Lit.wf,Qd,jv]
 exact hn
theorem keyLits_intK (d:Nat)(n:Int)(hn:I64 n):Tryz.prog.keyLits (d+1) 3 [.int .i64 n]=some [.int .i64 n]:=by
 unfold Program.keyLits
 rw [Tryz.undIK]
 simp only [true_and]
 rw [jx (litIntK n hn)]
def twoFields (fs:List (Nat×TypeId))(ok:Bool):Bool:=decide (fs=[(0,3),(1,3)])&&ok
theorem key_two {T : TypeId} (hrow : T < Tryz.prog.types.size) (hdeep : Tryz.prog.keyType T = true) (hf : (match Tryz.prog.underlying T with | some (.struct fs) => twoFields (fs.toList.map fun f => (f.offset, f.type)) (fs.all (·.name != "_")) | _ => false) = true)
  (hc:Tryz.prog.cellsOf T=2) (a b:Int) (ha:I64 a) (hb:I64 b):∃l,keyOf Tryz.prog T (.agg #[.int .i64 a,.int .i64 b])=some l:=by
 have hpos:∃d,Tryz.prog.types.size+1=d+2:=⟨Tryz.prog.types.size - 1,by have h:0<Tryz.prog.types.size:=Nat.lt_of_le_of_lt (qB _) hrow;omega⟩
 obtain ⟨d,hd⟩:=hpos
 unfold keyOf
 rw [hdeep,hd]
 cases hu:Tryz.prog.underlying T with
 |none=>rw [hu] at hf;cases hf
 |some td=>
  rw [hu] at hf
  cases td<;>try (cases hf;done)
  rename_i fs
  simp only [twoFields,Qd,jv] at hf
  obtain ⟨h1,h2⟩:=hf
  have hform:(Value.agg #[.int .i64 a,.int .i64 b]).formed Tryz.prog T=true:=by
   simp [Value.formed,hu,hc]
  simp only [hform,Bool.and_self,if_true]
  unfold Program.keyLits
  rw [hu]
  dsimp only
  have h3:(Value.agg #[.int .i64 a,.int .i64 b]).cells.toList=[.int .i64 a,.int .i64 b]:=rfl
  rw [h3,jx ⟨by rw [hc];rfl,h2⟩]
  obtain ⟨L,hL⟩:=gX (fs.toList)
  rw [hL] at h1 ⊢
  rcases L with _|⟨f,_|⟨g,_|⟨e,L⟩⟩⟩
  ·simp at h1
  ·simp at h1
  rotate_left
  ·simp at h1
  ·simp only [qI,QL,List.cons.injEq,Prod.mk.injEq,and_true] at h1
   obtain ⟨⟨f1,f2⟩,g1,g2⟩:=h1
   simp only [List.mapM_cons,List.mapM_nil,f1,f2,g1,g2,Tryz.cellsIK,List.drop_zero,List.drop_succ_cons,List.take_succ_cons,QO]
   rw [keyLits_intK d a ha,keyLits_intK d b hb]
   exact ⟨_,rfl⟩
def outA (o:Out):Value:=.agg #[.int .i64 o.1,.int .i64 o.2]
theorem outA_inj (x y:Out)(h:outA x=outA y):x=y:=by
 obtain ⟨a,b⟩:=x
 obtain ⟨c,d⟩:=y
 simp only [outA,Value.agg.injEq,Array.mk.injEq,List.cons.injEq,Value.int.injEq,true_and,and_true] at h
 rw [h.1,h.2]
def outW (o:Out):Prop:=isOutO o/\o.1<65536
theorem outW.i64 {o:Out}(h:outW o):I64 o.1/\I64 o.2:=by
 obtain ⟨⟨h1,h2⟩,h3⟩:=h
 unfold isOut at h2
 unfold I64
 omega
theorem Tryz.rowO:(243:TypeId)<Tryz.prog.types.size:=of_decide_eq_true (by kernel_rfl)
theorem Tryz.kindO:(match Tryz.prog.underlying 243 with|some (.array _ _)|some (.struct _)=>true|_=>false)=true:=by kernel_rfl
set_option maxRecDepth 100000 in
theorem Tryz.lawO:WideMaps.KeyLaw Tryz.prog 243:=deep_law_laid Tryz.laidK (m:=2) (by omega) Tryz.rowO (by kernel_rfl) Tryz.kindO
set_option maxRecDepth 100000 in
theorem Tryz.deepO:Tryz.prog.keyType 243=true:=by kernel_rfl
theorem Tryz.fldO : (match Tryz.prog.underlying 243 with | some (.struct fs) => twoFields (fs.toList.map fun f => (f.offset, f.type)) (fs.all (·.name != "_")) | _ => false) = true := by kernel_rfl
theorem Tryz.cellsO:Tryz.prog.cellsOf 243=2:=by kernel_rfl
theorem keyO:KeyTy 243 outA outW:=⟨Tryz.lawO,fun x hx=>key_two Tryz.rowO Tryz.deepO Tryz.fldO Tryz.cellsO x.1 x.2 hx.i64.1 hx.i64.2,outA_inj⟩
instance (o:Out):Decidable (isOutO o):=by unfold isOutO isOut;infer_instance
instance (o:Out):Decidable (outW o):=by unfold outW;infer_instance
def natV (n:Nat):Value:=.int .i64 (n:Int)
abbrev CntOf (m:List (Value×Value)) (c:Out->Nat):Prop:=MapF outA outW natV m fun o=>if outW o/\c o≠0 then some (c o) else none
theorem CntOf.nil:CntOf [] fun _=>0:=MapF.nil.congr fun o=>by simp
theorem CntOf.same {m:List (Value×Value)}{c d:Out->Nat}(h:CntOf m c)(e:∀o,outW o->d o=c o):CntOf m d:=MapF.congr h fun o=>by
 by_cases hw:outW o
 ·rw [e o hw]
 ·rw [jz (fun x=>hw x.1),jz (fun x=>hw x.1)]
theorem CntOf.bumped {m:List (Value×Value)}{c:Out->Nat}{o:Out}(hw:outW o)(h:MapF outA outW natV m fun q=>if q=o then some (c o+1) else if outW q/\c q≠0 then some (c q) else none):CntOf m fun q=>if q=o then c o+1 else c q:=
 MapF.congr h fun q=>by
  by_cases e:q=o
  ·subst e
   simp [hw]
  ·simp [e]
theorem CntOf.val {c:Out->Nat}{o:Out}(hw:outW o):(if outW o/\c o≠0 then some (c o) else none).getD 0=c o:=by
 by_cases h:c o=0
 ·rw [jz (fun x=>x.2 h),h];rfl
 ·rw [jx ⟨hw,h⟩];rfl
end Go.Proofs
