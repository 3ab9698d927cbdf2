import Derived.Test.YtlbekjokdlkghaaGreatChipMovesRud
set_option linter.unusedVariables false
set_option linter.unusedSimpArgs false
set_option maxHeartbeats 4000000
section
namespace Go.Gm
open Go.Proofs
structure QRep (qs:List QE) (q:Nat->Nat->List Nat):Prop where
 each:∀e∈qs,fV1 e.k/\e.s.ok/\e.s.cont=if e.k.c=0 then q e.k.r e.k.o else []
 none:∀r o,dD9 qs ⟨r,o,0⟩=none->q r o=[]
 keys:(qs.map (·.k)).Nodup
theorem QRep.nil:QRep [] (fun _ _=>[]):=⟨fun e he=>by simp at he,fun _ _ _=>rfl,by simp⟩
theorem QRep.more {qs qs':List QE}{q:Nat->Nat->List Nat}{k:Prt}{j:Nat}{e:QE}(h:QRep qs q)(hk:fV1 k)(hm:QMore qs qs' k j e):QRep qs' q:=by
 obtain ⟨h1,h2,h3⟩:=hm
 rcases h3 with rfl|⟨rfl,h4,h5⟩
 ·exact h
 ·have hn:dD9 qs k=Option.none:=by
   unfold dD9
   rw [Option.map_eq_none_iff,List.find?_eq_none]
   intro x hx
   simpa using h4 x hx
  refine ⟨?_,?_,?_⟩
  ·intro x hx
   rcases qH.1 hx with hx|hx
   ·exact h.each x hx
   ·rw [qt] at hx
    subst hx
    rw [h2,h5]
    refine ⟨hk,trivial,?_⟩
    show []=_
    split
    ·rename_i hc
     exact (h.none k.r k.o (by rw [<-hn];congr 1;cases k;simp_all)).symm
    ·rfl
  ·intro r o hr
   refine h.none r o ?_
   rw [fG5 (by rw [h2];exact hn)] at hr
   split at hr
   ·cases hr
   ·exact hr
  ·rw [ql,Qe]
   refine ⟨h.keys,by simp,?_⟩
   rintro a ha b hb rfl
   simp only [qI,QA,qt] at hb
   obtain ⟨x,hx,rfl⟩:=qo.1 ha
   exact h4 x hx (hb.trans h2)
theorem fF5 {α:Type}:∀(l:List α) {i j:Nat} {x:α},l.Nodup->l[i]? =some x->l[j]? =some x->i=j
 |[],i,j,x,_,h,_=>by cases h
 |a::l,0,0,x,_,_,_=>rfl
 |a::l,0,j+1,x,hn,h1,h2=>by
  rw [QC] at hn
  rw [Qv] at h2
  simp only [QX,qK] at h1
  subst h1
  exact absurd (qz h2) hn.1
 |a::l,i+1,0,x,hn,h1,h2=>by
  rw [QC] at hn
  rw [Qv] at h1
  simp only [QX,qK] at h2
  subst h2
  exact absurd (qz h1) hn.1
 |a::l,i+1,j+1,x,hn,h1,h2=>by
  rw [QC] at hn
  rw [Qv] at h1 h2
  rw [fF5 l hn.2 h1 h2]
theorem hY3 {qs:List QE}{i j:Nat}{x e:QE}(hn:(qs.map (·.k)).Nodup)(hx:qs[i]? =some x)(he:qs[j]? =some e)(hk:x.k=e.k):i=j:=by
 have h1:(qs.map (·.k))[i]? =some x.k:=by rw [qj,hx];rfl
 have h2:(qs.map (·.k))[j]? =some x.k:=by rw [qj,he,hk];rfl
 exact fF5 _ hn h1 h2
theorem QRep.set {qs:List QE}{q:Nat->Nat->List Nat}{j:Nat}{e:QE}{s':QSh}(h:QRep qs q)(hj:qs[j]? =some e)(hs:s'.ok)(hc:e.k.c=0):QRep (qs.set j ⟨e.k,e.b,s'⟩) (upQ q e.k.r e.k.o s'.cont):=by
 have hm:=qz hj
 refine ⟨?_,?_,?_⟩
 ·intro x hx
  obtain ⟨i,hi⟩:=jh hx
  rw [qO] at hi
  split at hi
  ·rename_i hji
   split at hi
   ·cases hi
    refine ⟨(h.each e hm).1,hs,?_⟩
    show s'.cont=if e.k.c=0 then upQ q e.k.r e.k.o s'.cont e.k.r e.k.o else []
    rw [jw hc]
    unfold upQ
    rw [jw ⟨rfl,rfl⟩]
   ·cases hi
  ·rename_i hji
   obtain ⟨a1,a2,a3⟩:=h.each x (qz hi)
   refine ⟨a1,a2,a3.trans ?_⟩
   split
   ·rename_i h0
    unfold upQ
    rw [jk]
    rintro ⟨b1,b2⟩
    refine hji (hY3 h.keys hi hj ?_).symm
    obtain ⟨⟨xr,xo,xc⟩,_,_⟩:=x
    obtain ⟨⟨er,eo,ec⟩,_,_⟩:=e
    simp_all
   ·rfl
 ·intro r o hr
  rw [dJ3 (e':=⟨e.k,e.b,s'⟩) hj rfl rfl] at hr
  have:=h.none r o hr
  unfold upQ
  rw [jk]
  ·exact this
  ·rintro ⟨rfl,rfl⟩
   refine fG6 hr e hm ?_
   obtain ⟨⟨er,eo,ec⟩,_,_⟩:=e
   simp_all
 ·have:(qs.set j ⟨e.k,e.b,s'⟩).map (·.k)=qs.map (·.k):=by
   apply qp
   intro i
   rw [qj,qj,qO]
   split
   ·rename_i hji
    subst hji
    have:=(qx.1 hj).1
    rw [jw this,hj];rfl
   ·rfl
  rw [this];exact h.keys
end Go.Gm
namespace Go.Proofs
open Go Go.Vx Go.Gm
theorem fG3 {A B:HP}(h:B.Perm A):HLe A B:=(HLe.refl _).permL h.symm
theorem dY6:∀{qs:List QE} {j:Nat} {e:QE},qs[j]? =some e->(qs.flatMap qeH).Perm (qeH e++(qs.eraseIdx j).flatMap qeH)
 |[],j,e,h=>by cases h
 |x::l,0,e,h=>by
  simp only [QX,qK] at h
  subst h
  simp
 |x::l,j+1,e,h=>by
  rw [Qv] at h
  rw [List.eraseIdx_cons_succ,Qf,Qf]
  have ih:=dY6 h
  refine (QN _ ih).trans ?_
  rw [<-qJ,<-qJ]
  exact List.perm_append_comm.append_right _
theorem dY5 {e e':QE}:∀{qs:List QE} {j:Nat},qs[j]? =some e->((qs.set j e').flatMap qeH).Perm (qeH e'++(qs.eraseIdx j).flatMap qeH)
 |[],j,h=>by cases h
 |x::l,0,h=>by
  rw [List.set_cons_zero,List.eraseIdx_cons_zero,Qf]
 |x::l,j+1,h=>by
  rw [Qv] at h
  rw [List.eraseIdx_cons_succ,List.set_cons_succ,Qf,Qf]
  have ih:=dY5 (e':=e') h
  refine (QN _ ih).trans ?_
  rw [<-qJ,<-qJ]
  exact List.perm_append_comm.append_right _
theorem _root_.Go.Vx.dP4 {P:Program}{w0:World}{M:List Nat}{H S:HP}{f:Nat}{args:List Value}{K:Value->HP->Prop}(hp:H.Perm S)(h:VCall P w0 M S f args K):VCall P w0 M H f args K:=by
 obtain ⟨h⟩:=h
 exact .mk fun w hw=>h w (hw.perm hp)
theorem kX2 {w0:World}{H R:HP}{K:Value->HP->Prop}{qs:List QE}{j:Nat}{e:QE}(hj:qs[j]? =some e)(he:e.s.ok){p:Nat}{l':List Nat}(hc:e.s.cont=p::l')(hT:Take H (qs.flatMap qeH) R)
  (hK:∀s':QSh,s'.ok->s'.cont=l'->K (.int .i64 (p:Int)) ((qs.set j ⟨e.k,e.b,s'⟩).flatMap qeH++R)):
  VCall Tryz.cx.P w0 [] H 243 [.pointer (some ⟨e.b,0,none⟩)] K:=by
 refine dP4 (hT.perm.trans ((dY6 hj).append_right R)) ?_
 rw [qJ]
 refine bF5 (kN3 e he hc (Take.last AtS.here) fun s' h1 h2=>⟨_,?_,hK s' h1 h2⟩)
 refine fG3 ?_
 show (qeH ⟨e.k,e.b,s'⟩++((qs.eraseIdx j).flatMap qeH++R)).Perm _
 rw [<-qJ]
 exact ((dY5 hj).symm).append_right R
theorem kC4 {w0:World}{H R:HP}{K:Value->HP->Prop}{qs:List QE}{j:Nat}{e:QE}(hj:qs[j]? =some e)(he:e.s.ok)(hl:e.s.cont.length<=65536)(p:Nat)(hT:Take H (qs.flatMap qeH) R)
  (hK:∀s':QSh,s'.ok->s'.cont=e.s.cont++[p]->K (.tuple #[]) ((qs.set j ⟨e.k,e.b,s'⟩).flatMap qeH++R)):
  VCall Tryz.cx.P w0 [] H 242 [.pointer (some ⟨e.b,0,none⟩),.int .i64 (p:Int)] K:=by
 refine dP4 (hT.perm.trans ((dY6 hj).append_right R)) ?_
 rw [qJ]
 refine bF5 (lK1 e he hl p (Take.last AtS.here) fun s' h1 h2=>⟨_,?_,hK s' h1 h2⟩)
 refine fG3 ?_
 show (qeH ⟨e.k,e.b,s'⟩++((qs.eraseIdx j).flatMap qeH++R)).Perm _
 rw [<-qJ]
 exact ((dY5 hj).symm).append_right R
theorem cS7 {s:QSh}(h:s.ok):∃p c,QSh.val s=.slice p s.cont.length c:=by
 cases s with
 |nil p=>exact ⟨p,0,rfl⟩
 |at_ g d cap l=>exact ⟨some ⟨g,d,none⟩,cap - d,by show Value.slice _ (l.length - d) _=Value.slice _ (l.drop d).length _;rw [Qs]⟩
theorem _root_.Go.Vx.bD0 {w0:World}{M:List Nat}{H:HP}{Z:HP->HP}{qs:List QE}{j:Nat}{e:QE}{off s:Nat}{k:List Value->Prop}(hat:AtS H (qs.flatMap qeH) Z)(hj:qs[j]? =some e)(ho:off=0)(hs:s=1)(hk:k [QSh.val e.s]):VLd w0 M H e.b off s k:=by
 subst ho;subst hs
 have hm:Ent.row e.b 377 [QSh.val e.s]∈H:=by
  refine hat.perm.symm.subset (QW _ ?_)
  rw [QG]
  exact ⟨e,qz hj,qg⟩
 have:∃u r,At H (Ent.row e.b 377 [QSh.val e.s]) u r:=by
  clear hat
  induction H with
  |nil=>cases hm
  |cons y H ih=>
   rcases qQ.1 hm with rfl|h
   ·exact ⟨_,_,.here⟩
   ·obtain ⟨u,r,hat⟩:=ih h
    exact ⟨_,_,.there hat⟩
 obtain ⟨u,r,hr⟩:=this
 exact .mk (.row hr rfl) hk
theorem fG2 {w0:World}{H R:HP}{K:Value->HP->Prop}(wb qb:Nat)(t1 t2 t3 t4 t5 t6 t8 t9 t10 t11 t12:Value)(hone:bK6 [t1,t2,t3,t4,t5,t6,t8,t9,t10,t11,t12]=true)(m:List (Value×Value))(qs:List QE)(hm:hC8 m qs)(q:Nat->Nat->List Nat)(hq:QRep qs q)(k:Prt)(hk:fV1 k)
  (hT:Take H (.row wb 369 [t1,t2,t3,t4,t5,t6,.map (some qb),t8,t9,t10,t11,t12]::.mapk qb m::qs.flatMap qeH) R)
  (hK:∀(m':List (Value×Value)) (qs':List QE) (j:Nat) (e:QE) (p:Option Addr) (c:Nat),hC8 m' qs'->QRep qs' q->qs'[j]? =some e->e.k=k->e.s.ok->(e.s.cont=if k.c=0 then q k.r k.o else [])->QSh.val e.s=.slice p e.s.cont.length c->K (.pointer (some ⟨e.b,0,none⟩)) (.row wb 369 [t1,t2,t3,t4,t5,t6,.map (some qb),t8,t9,t10,t11,t12]::.mapk qb m'::(qs'.flatMap qeH++R))):
  VCall Tryz.cx.P w0 [] H 241 [.pointer (some ⟨wb,0,none⟩),dY7 k] K:=by
 refine kX1 wb qb t1 t2 t3 t4 t5 t6 t8 t9 t10 t11 t12 hone m qs hm k hk hT fun m' qs' j e h1 h2=>?_
 have h3:=hq.more hk h2
 obtain ⟨a1,a2,a3⟩:=h3.each e (qz h2.at_)
 obtain ⟨p,c,hv⟩:=cS7 a2
 exact hK m' qs' j e p c h1 h3 h2.at_ h2.key a2 (by rw [a3,h2.key]) hv
theorem kH4 (o:Nat)(ho:o<4)(w:World):Calls Tryz.prog 244 #[.int .i64 (bK1 o)] w fun e w'=>e=.returned (.int .i64 (bK1 (cZ6 o)))/\St w [] [] w':=by
 refine enter (C:=Tryz.cx) (F:=lY3) (args:=[_]) Tryz.func244 rfl rfl rfl lT3 (St.start w []) ?_
 have h4:o=0\/o=1\/o=2\/o=3:=by omega
 rcases h4 with rfl|rfl|rfl|rfl
 ·have e1:bK1 0=1:=rfl
  have e2:bK1 (cZ6 0)=4:=rfl
  rw [e1,e2]
  repeat' (conv=>whnf);first|(refine VShL.is ?_;refine VShL.mk qZ ?_)|refine VSeq.go ?_|refine oY fun _=>?_
  all_goals (conv=>whnf)
  all_goals exact ⟨fun w' hw'=>⟨rfl,hw'.le .nil⟩⟩
 ·have e1:bK1 1=2:=rfl
  have e2:bK1 (cZ6 1)=8:=rfl
  rw [e1,e2]
  repeat' (conv=>whnf);first|(refine VShL.is ?_;refine VShL.mk qZ ?_)|refine VSeq.go ?_|refine oY fun _=>?_
  all_goals (conv=>whnf)
  all_goals exact ⟨fun w' hw'=>⟨rfl,hw'.le .nil⟩⟩
 ·have e1:bK1 2=4:=rfl
  have e2:bK1 (cZ6 2)=1:=rfl
  rw [e1,e2]
  repeat' (conv=>whnf);first|(apply Go.Vx.VShR.mk qZ)|refine VSeq.go ?_|refine oN fun _=>?_
  all_goals (conv=>whnf)
  all_goals exact ⟨fun w' hw'=>⟨rfl,hw'.le .nil⟩⟩
 ·have e1:bK1 3=8:=rfl
  have e2:bK1 (cZ6 3)=2:=rfl
  rw [e1,e2]
  repeat' (conv=>whnf);first|(apply Go.Vx.VShR.mk qZ)|refine VSeq.go ?_|refine oN fun _=>?_
  all_goals (conv=>whnf)
  all_goals exact ⟨fun w' hw'=>⟨rfl,hw'.le .nil⟩⟩
end Go.Proofs
end

section
namespace Go.Gm
theorem dF0 {W H r:Int}(hW:0<W)(hr:0<=r/\r<W*H){o:Nat}(ho:o<4)(hl:bS3 W H r (bK1 o)):0<=bZ8 W r (bK1 o)/\bZ8 W r (bK1 o)<W*H:=by
 obtain ⟨x,y,h1⟩:=at2 hW r
 have hy:=(bG7 h1).1 hr
 have hx0:=h1.x0
 have hx1:=h1.x1
 have heq:=h1.eq
 unfold bS3 at hl
 rw [h1.col,h1.row] at hl
 have key:∀a b:Int,0<=a->a<W->0<=b->b<H->bZ8 W r (bK1 o)=W*b+a->0<=bZ8 W r (bK1 o)/\bZ8 W r (bK1 o)<W*H:=fun a b h2 h3 h4 h5 h6=>by
  rw [h6];exact (bG7 (cH0 h2 h3)).2 ⟨h4,h5⟩
 have h4:o=0\/o=1\/o=2\/o=3:=by omega
 rcases h4 with rfl|rfl|rfl|rfl
 ·have e1:bK1 0=1:=rfl
  rw [e1] at hl key ⊢
  rw [jw rfl] at hl
  refine key (x+1) y qZ qZ qZ qZ ?_
  unfold bZ8;rw [jw rfl];omega
 ·have e1:bK1 1=2:=rfl
  rw [e1] at hl key ⊢
  rw [jk qZ,jw rfl] at hl
  refine key x (y+1) qZ qZ qZ qZ ?_
  have:W*(y+1)=W*y+W:=by rw [Int.mul_add,Int.mul_one]
  unfold bZ8;rw [jk qZ,jw rfl];omega
 ·have e1:bK1 2=4:=rfl
  rw [e1] at hl key ⊢
  rw [jk qZ,jk qZ,jw rfl] at hl
  refine key (x - 1) y qZ qZ qZ qZ ?_
  unfold bZ8;rw [jk qZ,jk qZ,jw rfl];omega
 ·have e1:bK1 3=8:=rfl
  rw [e1] at hl key ⊢
  rw [jk qZ,jk qZ,jk qZ,jw rfl] at hl
  refine key x (y - 1) qZ qZ qZ qZ ?_
  have:W*(y - 1)=W*y - W:=by rw [Int.mul_sub,Int.mul_one]
  unfold bZ8;rw [jk qZ,jk qZ,jk qZ,jw rfl];omega
theorem cD7 {s:Spc}(h:SpcOk s):1<=s.wide*s.high/\s.wide*s.high<=64:=by
 have h1:=h.wide
 have h2:=h.high
 have h3:s.wide*s.high<=8*8:=Int.mul_le_mul h1.2 h2.2 qZ qZ
 have h4:0<s.wide*s.high:=Int.mul_pos qZ qZ
 omega
theorem cV0 {o:Nat}(h:o<5):bC8 (bK1 o):=by
 unfold bC8
 have:o=0\/o=1\/o=2\/o=3\/o=4:=by omega
 rcases this with rfl|rfl|rfl|rfl|rfl<;>decide
theorem lQ8 {co:Nat->Nat->Option Nat}{a b p:Nat}(hb:b<4)(z:Prt):coF (upC co a b (some p)) z=if z=⟨a,b,0⟩ then some p else coF co z:=by
 obtain ⟨x,y,c⟩:=z
 unfold coF upC
 dsimp only
 by_cases h:(⟨x,y,c⟩:Prt)=⟨a,b,0⟩
 ·rw [jw h]
  cases h
  rw [jw ⟨rfl,hb⟩,jw ⟨rfl,rfl⟩]
 ·rw [jk h]
  by_cases hc:c=0/\y<4
  ·rw [jw hc,jw hc,jk]
   rintro ⟨rfl,rfl⟩
   exact h (by rw [hc.1])
  ·rw [jk hc,jk hc]
end Go.Gm
namespace Go.Proofs
open Go Go.Vx Go.Gm
structure RunX where
 m:List (Value×Value)
 qs:List QE
 cm:List (Value×Value)
 pa:Option Addr
 ca:Nat
 mo:List (Nat×Nat)
structure RunOk (x:RunX) (st:RunZ):Prop where
 qm:hC8 x.m x.qs
 qr:QRep x.qs st.q
 cm:MapF dY7 fV1 fL1 x.cm (coF st.co)
def arV (a:Nat×Nat×Nat):List Value:=[.int .i64 (a.1:Int),.int .i64 (a.2.1:Int),.int .i64 (a.2.2:Int)]
def moV (a:Nat×Nat):List Value:=[.int .i64 (a.1:Int),.int .i64 (a.2:Int)]
theorem kN9 {w0:World}{H R:HP}{K:Value->HP->Prop}(s:Spc)(hs:SpcOk s)(wb qb cb:Nat)(t4 t5 t6 t10 t11 t12:Value)(hone:bK6 [t4,t5,t6,t10,t11,t12]=true)(st:RunZ)(x:RunX)(hx:RunOk x st)(t r o:Nat)(hr:(r:Int)<s.wide*s.high)(ho:o<5)(ht:t<=10000)
  (hlead:o<4->st.q r o≠[]->bS3 s.wide s.high (r:Int) (bK1 o)) (hal:st.arr.length<=1000000)
  (hT:Take H (.row wb 369 [.int .i64 s.wide,.int .i64 s.high,.int .i64 s.room,t4,t5,t6,.map (some qb),.map (some cb),.slice x.pa (st).arr.length x.ca,t10,t11,t12]::.mapk qb x.m::(x.qs.flatMap qeH++(.mapk cb x.cm::.vec x.pa (st).arr.length x.ca 289 3 (bQ1 arV (st).arr)::[]))) R)
  (hK:∀x',RunOk x' (dW6 s t r st o)->x'.mo=x.mo->K (.tuple #[]) (.row wb 369 [.int .i64 s.wide,.int .i64 s.high,.int .i64 s.room,t4,t5,t6,.map (some qb),.map (some cb),.slice x'.pa (dW6 s t r st o).arr.length x'.ca,t10,t11,t12]::.mapk qb x'.m::(x'.qs.flatMap qeH++(.mapk cb x'.cm::.vec x'.pa (dW6 s t r st o).arr.length x'.ca 289 3 (bQ1 arV (dW6 s t r st o).arr)::R)))):
  VCall Tryz.cx.P w0 [] H 202 [.pointer (some ⟨wb,0,none⟩),.int .i64 (t:Int),.int .i64 (r:Int),.int .i64 (bK1 o)] K:=by
 refine bB3 hT (bF5 ?_)
 simp only [Qw,qJ,Qc]
 have ha:=cD7 hs
 have hp:=dY9 ho
 have hw:=hs.wide
 have hhh:=hs.high
 have hkw:∀c,c<2->fV1 ⟨r,o,c⟩:=fun c hc=>⟨by dsimp only;omega,ho,hc⟩
 have hone2:bK6 [.int .i64 s.wide,.int .i64 s.high,.int .i64 s.room,t4,t5,t6,.map (some cb),.slice x.pa st.arr.length x.ca,t10,t11,t12]=true:=by
  simp only [bK6,Value.oneCell'] at hone ⊢
  exact hone
 have hq1:=fun {H R:HP} {K:Value->HP->Prop} (m:List (Value×Value)) (qs:List QE) (hm:hC8 m qs) (hq:QRep qs st.q) (k:Prt) (hk:fV1 k)=>fG2 (w0:=w0) (H:=H) (R:=R) (K:=K) wb qb (.int .i64 s.wide) (.int .i64 s.high) (.int .i64 s.room) t4 t5 t6 (.map (some cb)) (.slice x.pa st.arr.length x.ca) t10 t11 t12 hone2 m qs hm st.q hq k hk
 refine VCall.inl (F:=lG5) Tryz.func202 rfl rfl rfl lR5 ?_
 unfold dW6 at hK
 by_cases hnil:st.q r o=[]
 ·rw [hnil] at hK
  dsimp only at hK
  repeat' (conv=>whnf);first|(refine bQ0 241 ?_;(first|(refine hq1 x.m x.qs hx.qm hx.qr ⟨r,o,1⟩ (hkw 1 qZ) (by repeat (first|exact Take.nil|(with_reducible apply Take.seg;(focus (exact aS)))|(apply Take.cons;(focus (exact aT)))|(apply Take.last;(focus (exact aS))))) fun m1 qs1 j1 e1 p1 c1 g1 g2 g3 g4 g5 g6 g7=>?_;dsimp only at g6;rw [if_neg qZ] at g6;rw [g6,List.length_nil] at g7)|(refine hq1 m1 qs1 g1 g2 ⟨r,o,0⟩ (hkw 0 qZ) (by repeat (first|exact Take.nil|(with_reducible apply Take.seg;(focus (exact aS)))|(apply Take.cons;(focus (exact aT)))|(apply Take.last;(focus (exact aS))))) fun m2 qs2 j2 e2 p2 c2 d1 d2 d3 d4 d5 d6 d7=>?_;dsimp only at d6;rw [if_pos rfl,hnil] at d6;rw [d6,List.length_nil] at d7)))|(refine VLd.is ?_;first|(refine bD0 aS g3 rfl rfl ?_;rw [g7])|(refine bD0 aS d3 rfl rfl ?_;rw [d7]))|refine VSeq.go ?_|refine oY fun _=>?_
  all_goals (conv=>whnf)
  exact ⟨_,by exact aH,hK ⟨m2,qs2,x.cm,x.pa,x.ca,x.mo⟩ ⟨d1,d2,hx.cm⟩ rfl⟩
 ·obtain ⟨p,l,hpl⟩:=List.exists_cons_of_ne_nil hnil
  rw [hpl] at hK
  dsimp only at hK
  have htk:∀{H R:HP} {K:Value->HP->Prop} {qs:List QE} {j:Nat} {e:QE} (hj:qs[j]? =some e) (he:e.s.ok) (hc:e.s.cont=p::l) (hT:Take H (qs.flatMap qeH) R) (hK:∀s':QSh,s'.ok->s'.cont=l->K (.int .i64 (p:Int)) ((qs.set j ⟨e.k,e.b,s'⟩).flatMap qeH++R)),VCall Tryz.cx.P w0 [] H 243 [.pointer (some ⟨e.b,0,none⟩)] K:=fun hj he hc hT hK=>kX2 hj he hc hT hK
  by_cases h4:o=4
  ·rw [jw h4] at hK
   have hp4:bK1 o=16:=by rw [h4];rfl
   repeat' (conv=>whnf);first|(refine bQ0 241 ?_;(first|(refine hq1 x.m x.qs hx.qm hx.qr ⟨r,o,1⟩ (hkw 1 qZ) (by repeat (first|exact Take.nil|(with_reducible apply Take.seg;(focus (exact aS)))|(apply Take.cons;(focus (exact aT)))|(apply Take.last;(focus (exact aS))))) fun m1 qs1 j1 e1 p1 c1 g1 g2 g3 g4 g5 g6 g7=>?_;dsimp only at g6;rw [if_neg qZ] at g6;rw [g6,List.length_nil] at g7)|(refine hq1 m1 qs1 g1 g2 ⟨r,o,0⟩ (hkw 0 qZ) (by repeat (first|exact Take.nil|(with_reducible apply Take.seg;(focus (exact aS)))|(apply Take.cons;(focus (exact aT)))|(apply Take.last;(focus (exact aS))))) fun m2 qs2 j2 e2 p2 c2 d1 d2 d3 d4 d5 d6 d7=>?_;dsimp only at d6;rw [if_pos rfl,hpl] at d6;rw [d6,List.length_cons] at d7)))|(refine VLd.is ?_;first|(refine bD0 aS g3 rfl rfl ?_;rw [g7])|(refine bD0 aS d3 rfl rfl ?_;rw [d7]))|(refine bQ0 243 ?_;(refine htk d3 d5 d6 (by repeat (first|exact Take.nil|(with_reducible apply Take.seg;(focus (exact aS)))|(apply Take.cons;(focus (exact aT)))|(apply Take.last;(focus (exact aS))))) fun s3 k1 k2=>?_))|(refine VNew.mk fun bn=>?_)|(refine VAp.is ?_;refine VAp.own aT (.at_ (.vec aT rfl)) (by simp [Value.oneCell']) (by (try dsimp only);omega) (by simp only [maxLen];omega) fun p' c' hp'=>?_)|refine VSeq.go ?_|refine oY fun _=>?_|refine oN fun _=>?_|refine oL ?_|refine oT ?_
   all_goals (conv=>whnf)
   have hqs:=d2.set (s':=s3) d3 k1 (by rw [d4])
   have er:e2.k.r=r:=by rw [d4]
   have eo:e2.k.o=o:=by rw [d4]
   rw [er,eo,k2] at hqs
   refine ⟨_,?_,hK ⟨m2,qs2.set j2 ⟨e2.k,e2.b,s3⟩,x.cm,p',c',x.mo⟩ ⟨d1.congr fun q=>dJ3 (e':=⟨e2.k,e2.b,s3⟩) d3 rfl rfl q,hqs,hx.cm⟩ rfl⟩
   dsimp only
   rw [bQ7,qw]
   exact aH
  ·rw [jk h4] at hK
   have hl:=hlead qZ hnil
   have hnx:=dF0 qZ ⟨by omega,hr⟩ (by omega:o<4) hl
   have hnm:=fun (w':World)=>cV4 s qZ qZ (r:Int) (bK1 o) ⟨by omega,hr⟩ (cV0 ho) w'
   have hbk:=kH4 o qZ
   obtain ⟨N,hN⟩:∃N:Nat,bZ8 s.wide (r:Int) (bK1 o)=(N:Int):=⟨_,(Ql hnx.1).symm⟩
   rw [hN] at hnx hnm
   rw [hN,jf] at hK
   unfold cK4 at hnm
   have hne16:bK1 o≠16:=fun h=>h4 (pow2_inj (h.trans (rfl:(16:Int)=bK1 4)))
   have hput:=fun {H:HP} {u:Ent->HP} {r':HP} {kk:HP->Prop} (hat:At H (.mapk cb x.cm) u r') hkk=>MapF.put (T:=374) (k:=kk) fB6 hat hx.cm ⟨N,cZ6 o,0⟩ ⟨by dsimp only;omega,by have:=dK3 o;dsimp only;omega,by dsimp only;omega⟩ p hkk
   unfold dY7 fL1 at hput
   dsimp only at hput
   repeat' (conv=>whnf);first|(refine bQ0 241 ?_;(first|(refine hq1 x.m x.qs hx.qm hx.qr ⟨r,o,1⟩ (hkw 1 qZ) (by repeat (first|exact Take.nil|(with_reducible apply Take.seg;(focus (exact aS)))|(apply Take.cons;(focus (exact aT)))|(apply Take.last;(focus (exact aS))))) fun m1 qs1 j1 e1 p1 c1 g1 g2 g3 g4 g5 g6 g7=>?_;dsimp only at g6;rw [if_neg qZ] at g6;rw [g6,List.length_nil] at g7)|(refine hq1 m1 qs1 g1 g2 ⟨r,o,0⟩ (hkw 0 qZ) (by repeat (first|exact Take.nil|(with_reducible apply Take.seg;(focus (exact aS)))|(apply Take.cons;(focus (exact aT)))|(apply Take.last;(focus (exact aS))))) fun m2 qs2 j2 e2 p2 c2 d1 d2 d3 d4 d5 d6 d7=>?_;dsimp only at d6;rw [if_pos rfl,hpl] at d6;rw [d6,List.length_cons] at d7)))|(refine VLd.is ?_;first|(refine bD0 aS g3 rfl rfl ?_;rw [g7])|(refine bD0 aS d3 rfl rfl ?_;rw [d7]))|(refine bQ0 243 ?_;(refine htk d3 d5 d6 (by repeat (first|exact Take.nil|(with_reducible apply Take.seg;(focus (exact aS)))|(apply Take.cons;(focus (exact aT)))|(apply Take.last;(focus (exact aS))))) fun s3 k1 k2=>?_))|(refine bQ0 128 ?_;(refine bQ2 (fun w' _=>hnm w') ?_;rintro b hb))|(refine bQ0 244 ?_;(refine bQ4 (fun w' _=>hbk w') ?_))|(refine VUpK.is ?_;refine hput aT fun m3 hm3=>?_)|refine VSeq.go ?_|refine oY fun _=>?_|refine oN fun _=>?_|refine oL ?_|refine oK ?_|refine oH ?_
   all_goals (conv=>whnf)
   have hqs:=d2.set (s':=s3) d3 k1 (by rw [d4])
   have er:e2.k.r=r:=by rw [d4]
   have eo:e2.k.o=o:=by rw [d4]
   rw [er,eo,k2] at hqs
   exact ⟨_,by exact aH,hK ⟨m2,qs2.set j2 ⟨e2.k,e2.b,s3⟩,m3,x.pa,x.ca,x.mo⟩ ⟨d1.congr fun q=>dJ3 (e':=⟨e2.k,e2.b,s3⟩) d3 rfl rfl q,hqs,hm3.congr fun z=>lQ8 (dK3 o) z⟩ rfl⟩
end Go.Proofs
end
