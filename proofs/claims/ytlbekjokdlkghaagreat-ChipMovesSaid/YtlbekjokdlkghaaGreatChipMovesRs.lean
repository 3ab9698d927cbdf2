import Derived.Test.YtlbekjokdlkghaaGreatChipMovesWk
import Derived.Test.YtlbekjokdlkghaaGreatChipMovesCc
set_option linter.unusedVariables false
set_option linter.unusedSimpArgs false
set_option maxHeartbeats 4000000
namespace Go.Vx
open Go
theorem VCp.full {w0:World}{M:List Nat}{H r:HP}{u:Ent->HP}{p q:Option Addr}{n m cap e size:Nat}{xs news:List Value}{K:Value->HP->Prop}(hat:At H (.vec p n cap e size xs) u r)(hmn:m=n)(hs:Src w0 M H q n size news)
  (h1:∀v∈news,v.oneCell'=true) (hl:xs.length=n*size) (hk:K (.int .i64 (n:Int)) (u (.vec p n cap e size news))):VCp w0 M H p n cap e size q m K:=by
 subst hmn
 refine .own hat (by rw [Nat.min_self];exact hs) h1 ?_
 rw [Nat.min_self,Qi qZ,qC]
 exact hk
theorem VCp.seg {α:Type}{w0:World}{M:List Nat}{H:HP}{l:List α}{f:α->Ent}{Z:HP->HP}{i:Nat}{x y:α}{p q:Option Addr}{n m cap e size:Nat}{xs news:List Value}{K:Value->HP->Prop}(h:AtS H (l.map f) Z)(hx:l[i]? =some x)
  (hf:f x=.vec p n cap e size xs) (hmn:m=n) (hs:Src w0 M H q n size news) (h1:∀v∈news,v.oneCell'=true) (hl:xs.length=n*size) (hy:f y=.vec p n cap e size news) (hk:K (.int .i64 (n:Int)) (Z ((l.set i y).map f))):VCp w0 M H p n cap e size q m K:=by
 obtain ⟨u,r,hat,hz,_⟩:=h.one hx
 rw [hf] at hat
 rw [<-hz,hy] at hk
 exact .full hat hmn hs h1 hl hk
end Go.Vx
namespace Go.Proofs
open Go Go.Vx Go.Gm
def lZ6 (k:Int):Prop:=¬(-268435456<=k/\k<=268435456)
instance (k:Int):Decidable (lZ6 k):=by unfold lZ6;infer_instance
def bN0 (N:Net)(tick:Int)(sts:List Sta)(rows:List (List Int)):Int:=
 if bG3 N≠0 then bG3 N
 else if¬(0<=tick/\tick<=10000) then 3
 else if sts.length≠N.ps.length\/rows.length≠16\/(∃r∈rows,r.length≠N.ps.length) then 13
 else if¬(∀x∈N.ps.zip sts,bD9 x.1 x.2) then 3
 else if∃r∈rows,∃k∈r,lZ6 k then 3 else 0
structure ResOk (N:Net) (tick:Int) (sts:List Sta) (rows:List (List Int)):Prop where
 net:NetOk N
 tick:0<=tick/\tick<=10000
 stl:sts.length=N.ps.length
 sixteen:rows.length=16
 row:∀r∈rows,r.length=N.ps.length
 sta:StaAll N sts
 big:∀r∈rows,∀k∈r, -268435456<=k/\k<=268435456
theorem cY7 {N:Net}{sts:List Sta}:(∀x∈N.ps.zip sts,bD9 x.1 x.2)<->StaAll N sts:=by
 constructor
 ·intro h i p s h1 h2
  refine h (p,s) (qz (i:=i) ?_)
  rw [List.getElem?_zip_eq_some]
  exact ⟨h1,h2⟩
 ·rintro h ⟨p,s⟩ hx
  obtain ⟨i,hi⟩:=jh hx
  rw [List.getElem?_zip_eq_some] at hi
  exact h i p s hi.1 hi.2
theorem dY0 {N:Net}{tick:Int}{sts:List Sta}{rows:List (List Int)}:bN0 N tick sts rows=0<->ResOk N tick sts rows:=by
 unfold bN0
 constructor
 ·intro h
  split at h
  ·contradiction
  ·split at h
   ·cases h
   ·split at h
    ·cases h
    ·split at h
     ·cases h
     ·split at h
      ·cases h
      ·rename_i h1 h2 h3 h4 h5
       refine ⟨bJ4.1 qZ,by omega,?_,?_,fun r hr=>?_,cY7.1 (Classical.not_not.1 h4),fun r hr k hk=>?_⟩
       ·exact Classical.not_not.1 fun e=>h3 (.inl e)
       ·exact Classical.not_not.1 fun e=>h3 (.inr (.inl e))
       ·exact Classical.not_not.1 fun e=>h3 (.inr (.inr ⟨r,hr,e⟩))
       ·exact Classical.not_not.1 fun e=>h5 ⟨r,hr,k,hk,e⟩
 ·rintro ⟨h1,h2,h3,h4,h5,h6,h7⟩
  rw [jk (by rw [bJ4.2 h1];simp),jk qZ,jk,jk (Classical.not_not.2 (cY7.2 h6)),jk]
  ·rintro ⟨r,hr,k,hk,e⟩;exact e (h7 r hr k hk)
  ·rintro (h|h|⟨r,hr,h⟩)
   ·exact h h3
   ·exact h h4
   ·exact h (h5 r hr)
structure ResSim (N:Net) (tick:Int) (sts:List Sta) (rows:List (List Int)) (x:SimM):Prop where
 run:SimRun x
 net:x.N=N
 tick:(x.tick:Int)=tick
 sts:x.sts=sts
 due:rot x.tick (x.D.map (·.l))=rows
def mV4:Option SimM->Value
 |none=>.pointer none
 |some x=>.pointer (some ⟨x.b,0,none⟩)
def mV6:Option SimM->HP
 |none=>[]
 |some x=>kB8 x
def mV5 (N:Net)(tick:Int)(sts:List Sta)(rows:List (List Int)):Option SimM->Prop
 |none=>bN0 N tick sts rows≠0
 |some x=>bN0 N tick sts rows=0/\ResSim N tick sts rows x
def bD2 (Ls:List (SlD Int)):List (List Int):=Ls.map (·.l)
theorem gS5 (N:Net)(hN:N.wf)(tick:Int)(htk:I64 tick)(sts:List Sta)(hsw:∀s∈sts,s.wf)(hsl:sts.length<9223372036854775807)(Ls:List (SlD Int))(hLl:Ls.length<9223372036854775807)(hLi:∀d∈Ls,(∀k∈d.l,I64 k)/\d.l.length<9223372036854775807)
  (pn:Option Addr) (cn bn on:Nat) (qs:Option Addr) (cs bs os:Nat) (pst:Option Addr) (cst bst ost:Nat) (pd:Option Addr) (cd bd od:Nat) (w:World)
  (h1:Sl w bH3 8 N.ps pn N.ps.length bn on) (h2:Sl w bP1 4 N.syns qs N.syns.length bs os) (h3:Sl w cJ6 2 sts pst sts.length bst ost) (h4:Sl w fR2 1 Ls pd Ls.length bd od) (h5:∀d∈Ls,∃b off,Sl w bQ6 1 d.l d.p d.l.length b off):
  Calls Tryz.prog 94 #[.agg #[.slice pn N.ps.length cn,.int .i64 N.inputs,.slice qs N.syns.length cs],.agg #[.int .i64 tick,.slice pst sts.length cst,.slice pd Ls.length cd]] w fun e w'=>∃y:Option SimM,
   e=.returned (.tuple #[mV4 y,.int .i64 (bN0 N tick sts (bD2 Ls))])/\mV5 N tick sts (bD2 Ls) y/\St w [] (mV6 y) w':=by
 have hnz:=@bJ4 N
 have hfin:∀(e:Int) w' H,St w [] H w'->e≠0->bN0 N tick sts (bD2 Ls)=e->∃y:Option SimM,
   Ending.returned (.tuple #[.pointer none,.int .i64 e])=.returned (.tuple #[mV4 y,.int .i64 (bN0 N tick sts (bD2 Ls))])/\mV5 N tick sts (bD2 Ls) y/\St w [] (mV6 y) w':=by
  intro e w' H hw' h0 he
  refine ⟨none,by rw [he];rfl,?_,hw'.le .nil⟩
  show bN0 N tick sts (bD2 Ls)≠0
  rw [he];exact h0
 refine enter (C:=Tryz.cx) (F:=mG0) (args:=[_,_]) Tryz.func94 rfl rfl rfl ok94 (St.start w []) ?_
 refine VSeq.go ?_
 repeat' (conv=>whnf);first|refine oV fun _=>?_
 all_goals (conv=>whnf)
 rename_i b2 b3
 repeat' (conv=>whnf);first|(refine bQ0 78 ?_;refine bQ4 (fun w' hw'=>bT4 N hN _ _ _ _ _ _ _ _ _ (h1.keep hw' oU) (h2.keep hw' oU)) ?_)|(refine VCall.is ?_;refine VCall.bool (bF9 _ _ _) ?_)|(refine bQ0 140 ?_;refine VCall.inl (F:=lB5) Tryz.func140 rfl rfl rfl mQ6 ?_)|(refine bQ0 193 ?_;refine VCall.inl (F:=lF3) Tryz.func193 rfl rfl rfl lS4 ?_)|refine VSeq.go ?_|refine oS (fun _=>?_) fun _=>?_|refine oL ?_
 all_goals (conv=>whnf)
 ·exact ⟨fun w' hw'=>hfin _ w' _ hw' qZ (by unfold bN0;rw [jw qZ])⟩
 ·exact ⟨fun w' hw'=>hfin _ w' _ hw' qZ (by unfold bN0;rw [jk qZ,jk qZ,jw (.inl qZ)])⟩
 ·exact ⟨fun w' hw'=>hfin _ w' _ hw' qZ (by unfold bN0;rw [jk qZ,jk qZ,jw (.inr (.inl (by simp only [bD2,qv];omega)))])⟩
 rotate_left
 ·exact ⟨fun w' hw'=>hfin _ w' _ hw' qZ (by unfold bN0;rw [jk qZ,jw qZ])⟩
 have hz:bG3 N=0:=by omega
 have hNok:=hnz.1 hz
 have hfew:=hNok.few
 have hpos:=hNok.some
 have hst:sts.length=N.ps.length:=by omega
 have h16:Ls.length=16:=by omega
 have hin:=hNok.inputs
 refine bF2 (α:=Nat) [1000000,0,1,4,7] rfl (fun i=>i<=Ls.length/\∀d∈Ls.take i,d.l.length=N.ps.length) (fun i K=>(8,.int .i64 (i:Int))::K)
  (fun _=>[.row b2 25 [.slice pn N.ps.length cn,.int .i64 N.inputs,.slice qs N.syns.length cs],.row b3 94 [.int .i64 tick,.slice pst sts.length cst,.slice pd Ls.length cd]]) (fun i=>Ls.length - i) 0 ⟨by omega,by simp⟩ aE aH ?_
 rintro i ⟨hi,hall⟩
 rcases qy i Ls.length with hlt|hge
 ·obtain ⟨d,hd⟩:=h4.get hlt
  have hdb:=(hLi d (qz hd)).2
  repeat' (conv=>whnf);first|(refine VIx.is ?_;refine VIx.mk (h4.ptr qZ) qZ qZ ?_)|(refine VLd.is ?_;refine oC (h4.rd0 oU oR hd rfl) ?_)|(refine bQ0 141 ?_;refine VCall.inl (F:=lB4) Tryz.func141 rfl rfl rfl mQ5 ?_)|refine VSeq.go ?_|refine oY fun _=>?_|refine oS (fun _=>?_) fun _=>?_|refine oL ?_|refine oA ?_
  all_goals (conv=>whnf)
  ·refine ⟨fun w' hw'=>hfin _ w' _ hw' qZ ?_⟩
   unfold bN0
   rw [jk qZ,jk qZ,jw]
   exact .inr (.inr ⟨d.l,qN (qz hd),by omega⟩)
  ·refine VNext.mk (i+1) ⟨by omega,?_⟩ qZ aE aH
   rw [qi,hd,qW]
   intro f hf
   rcases qH.1 hf with h|h
   ·exact hall f h
   ·simp only [qt] at h;subst h;omega
 rw [qe hge] at hall
 repeat' (conv=>whnf);first|refine VSeq.go ?_|refine oN fun _=>?_|refine oL ?_
 all_goals (conv=>whnf)
 have hn13:¬(sts.length≠N.ps.length\/(bD2 Ls).length≠16\/(∃r∈bD2 Ls,r.length≠N.ps.length)):=by
  rintro (h|h|⟨r,hr,h⟩)
  ·exact h hst
  ·simp only [bD2,qv] at h;exact h h16
  ·obtain ⟨d,hd,rfl⟩:=qo.1 hr
   exact h (hall d hd)
 refine bF2 (α:=Nat) [1000000,2,3,4,5,45,46] rfl (fun i=>i<=sts.length/\∀(j:Nat) p s,j<i->N.ps[j]? =some p->sts[j]? =some s->bD9 p s) (fun i K=>(47,.int .i64 (i:Int))::K)
  (fun _=>[.row b2 25 [.slice pn N.ps.length cn,.int .i64 N.inputs,.slice qs N.syns.length cs],.row b3 94 [.int .i64 tick,.slice pst sts.length cst,.slice pd Ls.length cd]]) (fun i=>sts.length - i) 0 ⟨by omega,by omega⟩ aE aH ?_
 rintro i ⟨hi,hok⟩
 rcases qy i sts.length with hlt|hge
 ·obtain ⟨p,hp⟩:=h1.get (i:=i) qZ
  obtain ⟨s,hs⟩:=h3.get hlt
  have hpk:=hNok.ps p (qz hp)
  have hck:kD2 p s=if bD9 p s then 0 else 3:=by unfold kD2;rw [jw (dJ7.2 hpk)]
  by_cases hso:bD9 p s
  ·rw [jw hso] at hck
   repeat' (conv=>whnf);first|(refine VIx.is ?_;refine VIx.mk (h3.ptr qZ) qZ qZ ?_)|(refine VIx.is ?_;refine VIx.mk (h1.ptr qZ) qZ qZ ?_)|(refine VLd.is ?_;refine oC (h1.rd0 oU oR hp rfl) ?_)|(refine VLd.is ?_;refine oC (h3.rd0 oU oR hs rfl) ?_)|(refine bQ0 142 ?_;(refine VCall.val (dV2 p hpk.wf s) ?_;rw [hck]))|refine VSeq.go ?_|refine oY fun _=>?_|refine oN fun _=>?_|refine oL ?_|refine oT ?_|refine oV fun _=>?_|refine oA ?_|refine oH ?_
   all_goals (conv=>whnf)
   refine VNext.mk (i+1) ⟨by omega,fun j p' s' hj hp' hs'=>?_⟩ qZ aE aH
   rcases qy j i with h|h
   ·exact hok j p' s' h hp' hs'
   ·obtain rfl:j=i:=by omega
    rw [hp] at hp';rw [hs] at hs';cases hp';cases hs';exact hso
  ·rw [jk hso] at hck
   repeat' (conv=>whnf);first|(refine VIx.is ?_;refine VIx.mk (h3.ptr qZ) qZ qZ ?_)|(refine VIx.is ?_;refine VIx.mk (h1.ptr qZ) qZ qZ ?_)|(refine VLd.is ?_;refine oC (h1.rd0 oU oR hp rfl) ?_)|(refine VLd.is ?_;refine oC (h3.rd0 oU oR hs rfl) ?_)|(refine bQ0 142 ?_;(refine VCall.val (dV2 p hpk.wf s) ?_;rw [hck]))|refine VSeq.go ?_|refine oY fun _=>?_|refine oN fun _=>?_|refine oL ?_|refine oT ?_|refine oV fun _=>?_|refine oA ?_|refine oH ?_
   all_goals (conv=>whnf)
   refine ⟨fun w' hw'=>hfin _ w' _ hw' qZ ?_⟩
   unfold bN0
   rw [jk qZ,jk qZ,jk hn13,jw]
   exact fun h=>hso (cY7.1 h i p s hp hs)
 have hsta:StaAll N sts:=fun j p s g1 g2=>hok j p s (by have:=(qx.1 g2).1;omega) g1 g2
 have hcat:(cat Ls).length<=16384:=by
  have:∀(L:List (SlD Int)),(∀d∈L,d.l.length<=1024)->(cat L).length<=L.length*1024:=by
   intro L
   induction L with
   |nil=>intro _;simp [cat]
   |cons d L ih=>
    intro h
    have e1:=ih fun x hx=>h x (qu _ hx)
    have e2:=h d qg
    unfold cat at e1 ⊢
    rw [Qf,qw,qR]
    omega
  have:=this Ls fun d hd=>by have:=hall d hd;omega
  omega
 repeat' (conv=>whnf);first|(refine bQ0 52 ?_;(refine bQ2 (fun w' hw'=>cC2 Ls qZ qZ _ _ _ _ w' (h4.keep hw' (by simp)) (fun d hd=>by obtain ⟨g1,g2,g3⟩:=h5 d hd;exact ⟨g1,g2,g3.keep hw' (by simp)⟩)) ?_;rintro ⟨p1,c1⟩ hp1;dsimp only at hp1))|(refine bQ0 51 ?_;refine VCall.inl (F:=lY1) Tryz.func51 rfl rfl rfl lN9 ?_)|(refine bQ0 106 ?_;refine VCall.inl (F:=hB7) Tryz.func106 rfl rfl rfl kZ6 ?_)|refine VSeq.go ?_|refine oN fun _=>?_|refine oL ?_
 all_goals (conv=>whnf)
 obtain ⟨C,hC⟩:=gX (cat Ls)
 have hrowC:∀r∈bD2 Ls,∀k∈r,k∈C:=by
  intro r hr k hk
  obtain ⟨d,hd,rfl⟩:=qo.1 hr
  rw [<-hC]
  exact QG.2 ⟨d,hd,hk⟩
 have hCrow:∀k∈C,I64 k/\∃r∈bD2 Ls,k∈r:=by
  intro k hk
  rw [<-hC] at hk
  obtain ⟨d,hd,hk⟩:=QG.1 hk
  exact ⟨(hLi d hd).1 k hk,d.l,qN hd,hk⟩
 rw [hC] at hp1 hcat ⊢
 dsimp only
 refine bF2 (α:=Nat) [1000000,0,1,4,7] rfl (fun j=>j<=C.length/\∀k∈C.take j,¬lZ6 k) (fun i K=>(8,.int .i64 (i:Int))::K)
  (fun _=>[.row b2 25 [.slice pn N.ps.length cn,.int .i64 N.inputs,.slice qs N.syns.length cs],.row b3 94 [.int .i64 tick,.slice pst sts.length cst,.slice pd Ls.length cd],.vec p1 C.length c1 3 1 (bQ1 bQ6 C)]) (fun i=>C.length - i) 0 ⟨by omega,by simp⟩ aE aH ?_
 rintro j ⟨hj,hjall⟩
 rcases qy j C.length with hltj|hgej
 ·obtain ⟨k,hk⟩:∃k,C[j]? =some k:=⟨C[j],qq _⟩
  obtain ⟨hk64,r,hr,hkr⟩:=hCrow k (qz hk)
  unfold I64 at hk64
  obtain ⟨g1,hg1⟩:=hp1 qZ
  subst hg1
  repeat' (conv=>whnf);first|refine oI ?_|(refine VLd.is ?_;refine oC (.vec aT (bQ8 (f:=bQ6) (k:=1) oR hk rfl)) ?_)|(refine bQ0 143 ?_;refine VCall.inl (F:=lB2) Tryz.func143 rfl rfl rfl mQ3 ?_)|(refine VCall.is ?_;refine VCall.bool (bF9 _ _ _) ?_)|refine VSeq.go ?_|refine oY fun _=>?_|refine oS (fun _=>?_) fun _=>?_|refine oA ?_
  all_goals (conv=>whnf)
  ·refine VNext.mk (j+1) ⟨by omega,?_⟩ qZ aE aH
   rw [qi,hk,qW]
   intro f hf
   rcases qH.1 hf with h|h
   ·exact hjall f h
   ·simp only [qt] at h;subst h;unfold lZ6;omega
  ·refine ⟨fun w' hw'=>hfin _ w' _ hw' qZ ?_⟩
   unfold bN0
   rw [jk qZ,jk qZ,jk hn13,jk (Classical.not_not.2 (cY7.2 hsta)),jw ⟨r,hr,k,hkr,by unfold lZ6;omega⟩]
 rw [qe hgej] at hjall
 have hzero:bN0 N tick sts (bD2 Ls)=0:=by
  rw [dY0]
  refine ⟨hNok,by omega,hst,by simp only [bD2,qv];exact h16,fun r hr=>?_,hsta,fun r hr k hk=>?_⟩
  ·obtain ⟨d,hd,rfl⟩:=qo.1 hr
   exact hall d hd
  ·exact Classical.not_not.1 (hjall k (hrowC r hr k hk))
 repeat' (conv=>whnf);first|(refine VCall.is ?_;refine bQ0 86 ?_;refine bQ2 (fun w' hw'=>dW0 N hNok _ _ _ _ _ _ _ _ _ (h1.keep hw' oU) (h2.keep hw' oU)) ?_;rintro x ⟨hx,hxN,hxt,hxs,hxD⟩)|(refine VSeq.is ?_;refine VSeq.cut (at_:=18) (α:=SimM) (fun x=>SimOk x/\x.N=N/\x.tick=0) (fun x=>[(1000000,.tuple #[]),(3,.pointer (some ⟨b3,0,none⟩)),(10,.pointer (some ⟨x.b,0,none⟩)),(4,.pointer none),(5,.int .i64 0)]) (fun x=>.row b3 94 [.int .i64 tick,.slice pst sts.length cst,.slice pd Ls.length cd]::(bM7 x++dW4 x)) ?_ ?_)|refine VSeq.go ?_|refine oN fun _=>?_|refine oL ?_
 all_goals (conv=>whnf)
 ·refine VMid.mk x ⟨hx,hxN,hxt⟩ aE ?_
  unfold kB8
  rw [qJ]
  exact aH
 rintro x ⟨hx,hxN,hxt⟩
 obtain ⟨b,N',pb,pc,sv,bw,R,tk,sb,sc,sts0,D⟩:=x
 dsimp only at hxN hxt
 subst hxN hxt
 obtain ⟨n,hn⟩:∃n:Nat,tick=(n:Int):=⟨tick.toNat,by omega⟩
 subst hn
 have hs0:sts0.length=sts.length:=hx.sts.trans hst.symm
 have hup:upd (dJ0 ⟨b,N',pb,pc,sv,bw,R,0,sb,sc,sts0,D⟩) 4 [.int .i64 (n:Int)]=some (dJ0 ⟨b,N',pb,pc,sv,bw,R,n,sb,sc,sts,D⟩):=by
  unfold dJ0
  dsimp only
  rw [hs0]
  rfl
 have h53:sub (dJ0 ⟨b,N',pb,pc,sv,bw,R,n,sb,sc,sts,D⟩) 5 1=some [.slice (some ⟨sb,0,none⟩) sts.length sc]:=by
  rw [cJ0 _ _ _ (by simp [dJ0])];rfl
 obtain ⟨c0,hc0⟩:=gX (dJ0 ⟨b,N',pb,pc,sv,bw,R,0,sb,sc,sts0,D⟩)
 obtain ⟨c1,hc1⟩:=gX (dJ0 ⟨b,N',pb,pc,sv,bw,R,n,sb,sc,sts,D⟩)
 rw [hc0,hc1] at hup
 rw [hc1] at h53
 have eH:bM7 ⟨b,N',pb,pc,sv,bw,R,0,sb,sc,sts0,D⟩++dW4 ⟨b,N',pb,pc,sv,bw,R,0,sb,sc,sts0,D⟩=.row b 206 c0::.vec (some ⟨sb,0,none⟩) sts.length sc 126 2 (bQ1 cJ6 sts0)::(D.map bY9++dW4 ⟨b,N',pb,pc,sv,bw,R,0,sb,sc,sts0,D⟩):=by
  rw [<-hc0,<-hs0];rfl
 obtain ⟨SH,hSH⟩:=gX (dW4 ⟨b,N',pb,pc,sv,bw,R,0,sb,sc,sts0,D⟩)
 rw [eH,hSH]
 dsimp only
 repeat' (conv=>whnf);first|(refine VSt.is ?_;refine VSt.cast (off':=4) (by first|omega|(dsimp only;omega)) (VSt.row aT hup rfl ?_))|(refine VLd.is ?_;refine oC (.row aT (h53)) ?_)|(refine VCp.is ?_;refine VCp.full aT rfl (h3.src (by simp) (fun _=>rfl)) (bZ5 (by simp [cJ6,Value.oneCell'])) ((bX9 (k:=2) (fun _=>rfl)).trans (by rw [hs0])) ?_)|(refine VHs.is ?_;refine VHs.mk [.row b3 94 [.int .i64 (n:Int),.slice pst sts.length cst,.slice pd Ls.length cd],.row b 206 c1,.vec (some ⟨sb,0,none⟩) sts.length sc 126 2 (bQ1 cJ6 sts0)] aH ?_)|refine VSeq.go ?_|refine oL ?_
 all_goals (conv=>whnf)
 have h43:sub c1 4 1=some [.int .i64 (n:Int)]:=by rw [<-hc1];rfl
 have hD16:D.length=16:=hx.due
 have hDc:∀d∈D,d.l.length=N'.ps.length:=hx.cells
 refine bF2 (α:=Nat×List DRow) [1000000,4,5,10,82,83] rfl (fun y=>y.1<=16/\y.2.map bJ9=D.map bJ9/\∀(j:Nat) s d,j<y.1->Ls[j]? =some s->y.2[(n+j)%16]? =some d->d.l=s.l) (fun y K=>(84,.int .i64 (y.1:Int))::K)
  (fun y=>.row b 206 c1::.vec (some ⟨sb,0,none⟩) sts.length sc 126 2 (bQ1 cJ6 sts)::(y.2.map bY9++SH)) (fun y=>16 - y.1) (0,D) ⟨by simp,rfl,by simp⟩ aE aH ?_
 rintro ⟨i,D1⟩ ⟨hi1,hV1,hD1⟩
 dsimp only at hi1 hV1 hD1 ⊢
 have hl1:D1.length=16:=by have:=congrArg List.length hV1;simp only [qv] at this;omega
 rcases qy i 16 with hlt1|hge1
 ·obtain ⟨s,hs⟩:=h4.get (i:=i) qZ
  have hsl1:=hall s (qz hs)
  obtain ⟨sg,so,hss⟩:=h5 s (qz hs)
  obtain ⟨d,hd⟩:∃d,D1[(n+i)%16]? =some d:=⟨D1[(n+i)%16]'qZ,qq _⟩
  obtain ⟨d0,hd0,hd0l⟩:=cC1 hV1 hd
  have hdl:s.l.length=d.l.length:=by rw [hsl1,<-hd0l,hDc d0 (qz hd0)]
  have hrow1:sub c1 (6+(((n:Int)+(i:Int))%16).toNat) 1=some [bJ9 d]:=by
   have:=dL6 (x:=⟨b,N',pb,pc,sv,bw,R,n,sb,sc,sts,D⟩) hV1 hd
   rw [hc1] at this
   rw [show (((n:Int)+(i:Int))%16).toNat=(n+i)%16 by omega];exact this
  have hyd:bY9 ⟨d.g,d.cap,s.l⟩=.vec (some ⟨d.g,0,none⟩) d.l.length d.cap 3 1 (bQ1 bQ6 s.l):=by unfold bY9;rw [hdl]
  repeat' (conv=>whnf);first|(refine VIx.is ?_;refine VIx.mk (h4.ptr qZ) qZ qZ ?_)|(refine VLd.is ?_;refine oC (h4.rd0 oU oR hs rfl) ?_)|(refine bQ0 93 ?_;refine VCall.inl (F:=lW9) Tryz.func93 rfl rfl rfl lN7 ?_)|(refine VLd.is ?_;refine oC (.row aT (h43)) ?_)|(refine VLd.is ?_;refine oC (.row aT (hrow1)) ?_)|(refine VCp.is ?_;refine VCp.seg (f:=bY9) (l:=D1) (y:=⟨d.g,d.cap,s.l⟩) aS hd rfl hdl (by rw [<-hdl];exact hss.src oU oR) (bZ5 (by simp [bQ6,Value.oneCell'])) (bX9 (k:=1) oR) hyd ?_)|refine VSeq.go ?_|refine oY fun _=>?_|refine oA ?_|refine oI ?_|refine oH ?_|refine oM ?_
  all_goals (conv=>whnf)
  refine VNext.mk (i+1,D1.set ((n+i)%16) ⟨d.g,d.cap,s.l⟩) ⟨by dsimp only;omega,?_,fun j s' d' hj hs' hd'=>?_⟩ (by dsimp only;omega) aE aH
  ·dsimp only
   rw [List.map_set]
   refine (bJ5 ?_).trans hV1
   rw [qj,hd]
   simp [bJ9,hdl]
  ·dsimp only at hd' hj
   rw [qO] at hd'
   by_cases hji:j=i
   ·subst hji
    rw [jw rfl,jw qZ] at hd'
    cases hd'
    rw [hs] at hs';cases hs';rfl
   ·have hj16:j<16:=by omega
    rw [jk qZ] at hd'
    exact hD1 j s' d' qZ hs' hd'
 ·obtain rfl:i=16:=by omega
  repeat' (conv=>whnf);first|refine VSeq.go ?_|refine oN fun _=>?_|refine oL ?_
  all_goals (conv=>whnf)
  refine ⟨fun w' hw'=>⟨some ⟨b,N',pb,pc,sv,bw,R,n,sb,sc,sts,D1⟩,by rw [hzero];rfl,⟨hzero,⟨⟨⟨hNok,hx.rows,hx.wired,hst,hl1,fun d hd=>?_,hx.sv⟩,hsta,by dsimp only;omega⟩,rfl,rfl,rfl,?_⟩⟩,hw'.le ?_⟩⟩
  ·obtain ⟨k,hk⟩:=jh hd
   obtain ⟨d0,g1,g2⟩:=cC1 hV1 hk
   rw [<-g2]
   exact hDc d0 (qz g1)
  ·dsimp only
   apply qp
   intro j
   rw [fR7]
   by_cases hj:j<16
   ·obtain ⟨s,hs⟩:=h4.get (i:=j) qZ
    obtain ⟨d,hd⟩:∃d,D1[(n+j)%16]? =some d:=⟨D1[(n+j)%16]'qZ,qq _⟩
    rw [jw hj,qj,hd,bD2,qj,hs]
    simp [hD1 j s d hj hs hd]
   ·rw [jk hj,bD2,qf (by simp;omega)]
  ·show HLe (bM7 ⟨b,N',pb,pc,sv,bw,R,n,sb,sc,sts,D1⟩++dW4 ⟨b,N',pb,pc,sv,bw,R,n,sb,sc,sts,D1⟩) _
   have e1:dJ0 ⟨b,N',pb,pc,sv,bw,R,n,sb,sc,sts,D1⟩=c1:=by rw [<-hc1];unfold dJ0;dsimp only;rw [hV1]
   have e2:bM7 ⟨b,N',pb,pc,sv,bw,R,n,sb,sc,sts,D1⟩++dW4 ⟨b,N',pb,pc,sv,bw,R,n,sb,sc,sts,D1⟩=.row b 206 c1::.vec (some ⟨sb,0,none⟩) sts.length sc 126 2 (bQ1 cJ6 sts)::(D1.map bY9++SH):=by
    rw [<-e1,<-hSH];rfl
   rw [e2]
   exact aH
end Go.Proofs
