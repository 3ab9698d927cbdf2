import Derived.Test.YtlbekjokdlkghaaGreatChipMovesYg
import Derived.Test.YtlbekjokdlkghaaGreatChipMovesYj
set_option linter.unusedVariables false
set_option linter.unusedSimpArgs false
set_option maxHeartbeats 4000000
namespace Go.Proofs
open Go Go.Vx Go.Gm
structure NewZ where
 y:MapP
 bm:Nat
 kb:Nat
 np:Option Addr
 nc:Nat
 K:List CorM
 cs:List CelM
 cb:Nat
 cc:Nat
 sp:Option Addr
 sc:Nat
def hyR (N:Net)(C:Chp)(cores:List Int)(y:MapP):HP:=
 .vec y.pc N.ps.length y.cc 3 1 (bQ1 bQ6 cores)::.vec y.ps N.ps.length y.cs 3 1 (bQ1 bQ6 (bM0 cores))::.vec y.pt (bX1 C) y.ct 178 1 (bQ1 erV y.tt)::.vec y.pw (bV2 N) y.cw 3 1 (bQ1 bQ6 (hS0 N C cores))::
 .vec y.y.pp N.ps.length y.y.cp 140 8 (bQ1 bH3 N.ps)::.vec y.y.ps N.syns.length y.y.cs 154 4 (bQ1 bP1 (bJ6 N C))::.vec y.y.pq N.syns.length y.y.cq 3 1 (bQ1 bQ6 (bQ9 N C.bits).quots)::.vec y.y.pe N.ps.length y.y.ce 3 1 (bQ1 bQ6 (bQ9 N C.bits).errs)::y.tt.map erE
theorem kK2 (N:Net)(C:Chp)(cores:List Int)(y:MapP):HLe (.vec y.pr (bX1 C) y.cr 155 1 (bQ1 rrV y.rr)::.vec y.y.pz N.ps.length y.y.cz 3 1 (bQ1 bQ6 (bX2 N (bW6 C.bits)))::(y.rr.map rrE++hyR N C cores y)) (fX1 N C cores y):=by
 unfold fX1 hyR
 exact aH
def bC3 (N:Net)(C:Chp)(cores:List Int)(z:NewZ):MacX:=
 ⟨z.bm,z.kb,z.cb,z.cc,z.sp,z.sc,.slice z.np N.ps.length z.nc,.int .i64 N.inputs,.slice none 0 0,
  .slice z.y.pc N.ps.length z.y.cc,.slice z.y.ps N.ps.length z.y.cs,.slice z.y.y.pp N.ps.length z.y.y.cp,.int .i64 N.inputs,.slice z.y.y.ps N.syns.length z.y.y.cs,.slice z.y.y.pz N.ps.length z.y.y.cz,.slice z.y.y.pq N.syns.length z.y.y.cq,.slice z.y.y.pe N.ps.length z.y.y.ce,.bool (bQ9 N C.bits).exact,
  .slice z.y.pr (bX1 C) z.y.cr,z.y.pt,z.y.ct,z.y.tt,z.y.pw,z.y.cw,.int .i64 (bM9 N C cores:Int),.int .i64 (bJ7 ((bX0 N).map (bQ5 N C cores)):Int),z.cs.map (·.b)⟩
def cM7 (N:Net)(C:Chp)(cores:List Int)(z:NewZ):HP:=.map z.kb (kmF 0 (z.K.map (·.b)))::.vec (some ⟨z.cb,0,none⟩) N.ps.length z.cc 212 1 (bQ1 cpV (z.cs.map (·.b)))::.vec z.sp (bX0 N).length z.sc 217 3 (bQ1 kB4 (dD3 N C cores))::.vec z.np N.ps.length z.nc 140 8 (bQ1 bH3 N.ps)::.vec z.y.pr (bX1 C) z.y.cr 155 1 (bQ1 rrV z.y.rr)::.vec z.y.y.pz N.ps.length z.y.y.cz 3 1 (bQ1 bQ6 (bX2 N (bW6 C.bits)))::(z.y.rr.map rrE++(z.K.map fV4++(z.K.map fV3++(z.K.map fV5++(z.K.flatMap fD0++hyR N C cores z.y)))))
def lC0 (z:NewZ):Mac:=⟨0,z.cs,hR6⟩
structure NewIs (N:Net) (C:Chp) (cores:List Int) (z:NewZ):Prop where
 map:Map8 N C cores z.y
 len:z.K.length=bX1 C
 core:∀(r:Nat) (K:CorM),z.K[r]? =some K->K.l=(bH5 cores (r:Int)).map (fun i=>((z.cs.map (·.b))[i]?).getD 0)/\(∀key,kl K.R key=bS8 N C cores (r:Int) key)/\(0<K.l.length->∃g,K.p=some ⟨g,0,none⟩)/\∀x∈K.R,∃g,x.p=some ⟨g,0,none⟩
 cl:z.cs.length=N.ps.length
 cell:∀(i:Nat) (c:CelM),z.cs[i]? =some c->c=⟨c.b,(i:Int),(N.ps[i]?).getD ⟨0,0,0,0,0,0,0,0⟩,((bX2 N (bW6 C.bits))[i]?).getD 0,⟨0,0⟩,List.replicate 16 0⟩
theorem hC9 (X:PlnX)(w:World)(hX:PlnRd X w)(cores:List Int)(hcw:∀k∈cores,I64 k)(hlc:cores.length<=1000000)(p:Option Addr)(c b o:Nat)(h1:Sl w bQ6 1 cores p cores.length b o)(he:bV5 X.N X.C cores≠0):
  Calls Tryz.prog 32 #[.agg X.net.toArray,.agg (bD5 X.C X.pd X.cd).toArray,.slice p cores.length c] w fun e w'=>e=.returned (.tuple #[.pointer none,.int .i64 (bV5 X.N X.C cores)])/\St w [] [] w':=by
 have g1:=fun (w':World) h=>cL8 X w' h cores hcw hlc p c b o
 obtain ⟨R,hR⟩:=gX (bC5 X.N X.C cores)
 obtain ⟨E,hE⟩:=gX (bV5 X.N X.C cores)
 rw [hR,hE] at g1
 rw [hE] at he ⊢
 simp only [kR8,cF6,Qw,Qc] at g1
 unfold PlnX.net bD5 at g1
 unfold PlnX.net bD5
 refine enter (C:=Tryz.cx) (F:=mK1) (args:=[_,_,_]) Tryz.func32 rfl rfl rfl mY3 (St.start w []) ?_
 repeat' (conv=>whnf);first|(refine VNew.mk fun bb=>?_)|(refine bQ0 20 ?_;(refine bQ2 (fun w' hw'=>g1 w' (hX.keep hw') (h1.keep hw' (by simp))) ?_;rintro y hy))|(refine VSeq.go ?_)|(refine VB.is ?_;refine bX5 (by omega) fun _=>?_)|(refine VLd.is ?_;refine VLd.mk (.row aT (by rfl)) ?_)|(refine VSt.is ?_;refine VSt.row aT (by rfl) (by first|rfl|assumption) ?_)
 all_goals (conv=>whnf)
 all_goals exact ⟨fun w' hw'=>⟨rfl,hw'.le .nil⟩⟩
set_option maxHeartbeats 8000000 in
theorem dK5 (X:PlnX)(w:World)(hX:PlnRd X w)(cores:List Int)(hcw:∀k∈cores,I64 k)(p:Option Addr)(c b o:Nat)(h1:Sl w bQ6 1 cores p cores.length b o)(he:bV5 X.N X.C cores=0):
  Calls Tryz.prog 32 #[.agg X.net.toArray,.agg (bD5 X.C X.pd X.cd).toArray,.slice p cores.length c] w fun e w'=>∃z:NewZ,e=.returned (.tuple #[.pointer (some ⟨z.bm,0,none⟩),.int .i64 0])/\NewIs X.N X.C cores z/\St w [] (.row z.bm 135 (bV1 X.N X.C cores (bC3 X.N X.C cores z) 0 hR6)::(z.cs.map bB6++cM7 X.N X.C cores z)) w':=by
 have hg:∀(w':World),PlnRd X w'->Sl w' bQ6 1 cores p cores.length b o->Calls Tryz.prog 20 #[.agg X.net.toArray,.agg (bD5 X.C X.pd X.cd).toArray,.slice p cores.length c] w' fun e w''=>∃y:MapP,e=.returned (.tuple #[.agg (hG4 X.N X.C cores y).toArray,.int .i64 0])/\Map8 X.N X.C cores y/\St w' [] (.vec y.pr (bX1 X.C) y.cr 155 1 (bQ1 rrV y.rr)::.vec y.y.pz X.N.ps.length y.y.cz 3 1 (bQ1 bQ6 (bX2 X.N (bW6 X.C.bits)))::(y.rr.map rrE++hyR X.N X.C cores y)) w'':=fun w' h h'=>(hV8 X w' h cores hcw p c b o h' he).mono fun e w'' ⟨y,e1,e2,e3⟩=>⟨y,e1,e2,e3.le (kK2 _ _ _ _)⟩
 obtain ⟨hA,htabs⟩:=bN5 he
 have hN:=hX.net
 obtain ⟨bp,op,hps⟩:=hX.ps
 have hcl:=hA.len
 have hnf:=hA.plan.net.few
 have hsome:=hA.plan.net.some
 have hinp:=hA.plan.net.inputs
 have hfew:=hA.plan.few
 have hcln:=fun (w':World) h=>cW8 X.N.ps X.pn X.cn bp op w' h (by omega)
 obtain ⟨n,hn⟩:=gX (bX1 X.C)
 obtain ⟨ns,hns⟩:=gX (bV2 X.N)
 obtain ⟨Z,hZ⟩:=gX (bX2 X.N (bW6 X.C.bits))
 obtain ⟨hcells,hn1,hn64⟩:=bX6 hA.plan.chip
 have hZl:Z.length=X.N.ps.length:=by rw [<-hZ];unfold bX2;simp
 rw [hn] at hcells hn1 hn64
 unfold hG4 at hg
 rw [hn,hns,hZ] at hg
 unfold PlnX.net bD5 at hg
 unfold PlnX.net bD5
 refine enter (C:=Tryz.cx) (F:=mK1) (args:=[_,_,_]) Tryz.func32 rfl rfl rfl mY3 (St.start w []) ?_
 refine VSeq.go ?_
 repeat' (conv=>whnf);first|(refine VNew.mk fun b4=>?_)
 all_goals (conv=>whnf)
 rename_i b3
 repeat' (conv=>whnf);first|(refine bQ0 20 ?_;(refine bQ2 (fun w' hw'=>hg w' (hX.keep hw') (h1.keep hw' (by simp))) ?_;rintro y hy))|(refine bQ0 80 ?_;(refine bQ2 (fun w' hw'=>hcln w' (hps.keep hw' (by simp))) ?_;rintro ⟨np,nc⟩ hnp;dsimp only at hnp))|(refine VSeq.go ?_)|(refine VB.is ?_;refine bZ2 (by omega) fun _=>?_)|(refine VLd.is ?_;refine VLd.mk (.row aT (by rfl)) ?_)|(refine VSt.is ?_;refine VSt.row aT (by rfl) (by first|rfl|assumption) ?_)|(refine VNew.mk fun _=>?_)|(refine VKeep.is ?_;refine VKeep.mk aH ?_)|(refine VHs.mk _ (.refl _) ?_)
 all_goals (conv=>whnf)
 rename_i b8 _ bm kb
 obtain ⟨hrows,htb,hokR,hokT,⟨gr,hgr⟩,⟨gt,hgt⟩,⟨gw,hgw⟩,⟨gz,hgz⟩⟩:=hy
 obtain ⟨HY,hHY⟩:=gX (hyR X.N X.C cores y)
 rw [hHY,hgr,hgw,hgz]
 have hrl:y.rr.length=n:=by
  have:=congrArg List.length hrows
  rw [qv,fY7,hn] at this
  exact this
 have hrow:∀{r:Nat} {q:RRow},y.rr[r]? =some q->q.l=bM1 X.N cores (cJ5 X.N (bQ9 X.N X.C.bits).quots) (r:Int):=fun {r q} hq=>by
  have h2:=congrArg (fun l=>l[r]?) hrows
  rw [qj,hq,cK8 (by rw [hn,<-hrl];exact (qx.1 hq).1)] at h2
  simpa using h2
 have hrlen:∀{r:Nat} {q:RRow},y.rr[r]? =some q->q.l.length<=8192:=fun {r q} hq=>by
  rw [hrow hq,dJ2 hA,qv]
  have:=qD (fun s:Syn=>decide (cores[s.to.toNat]? =some (r:Int))) X.N.syns
  have:=hA.plan.net.fewS
  omega
 refine VLoop.mk (α:=List CorM) (fun K=>K.length<=n/\∀(r:Nat) (k:CorM),K[r]? =some k->(k.l=[]/\k.p=none/\k.c=0)/\(∀key,kl k.R key=bS8 X.N X.C cores (r:Int) key)/\∀x∈k.R,∃g,x.p=some ⟨g,0,none⟩)
  (fun K=>[(1000000,.tuple #[]),(2,.slice p cores.length c),(3,.pointer (some ⟨b3,0,none⟩)),(4,.pointer (some ⟨b4,0,none⟩)),(6,.pointer none),(7,.int .i64 0),(8,.pointer (some ⟨b8,0,none⟩)),(10,.pointer (some ⟨bm,0,none⟩)),(58,.slice (some ⟨gr,0,none⟩) n y.cr),(59,.int .i64 (n:Int)),(60,.int .i64 (K.length:Int))])
  (fun K=>.row b3 25 [.slice X.pn X.N.ps.length X.cn,.int .i64 X.N.inputs,.slice X.qs X.N.syns.length X.cs]::.row b4 30 [.int .i64 X.C.mesh.wide,.int .i64 X.C.mesh.high,.int .i64 X.C.mesh.room,.int .i64 X.C.nr,.int .i64 X.C.sy,.int .i64 X.C.en,.int .i64 X.C.bits,.slice X.pd X.C.dead.length X.cd]::.row b8 61 [.slice y.pc X.N.ps.length y.cc,.slice y.ps X.N.ps.length y.cs,.slice y.y.pp X.N.ps.length y.y.cp,.int .i64 X.N.inputs,.slice y.y.ps X.N.syns.length y.y.cs,.slice (some ⟨gz,0,none⟩) X.N.ps.length y.y.cz,.slice y.y.pq X.N.syns.length y.y.cq,.slice y.y.pe X.N.ps.length y.y.ce,.bool (bQ9 X.N X.C.bits).exact,.slice (some ⟨gr,0,none⟩) n y.cr,.slice y.pt n y.ct,.slice (some ⟨gw,0,none⟩) ns y.cw,.int .i64 (bM9 X.N X.C cores:Int),.int .i64 (bJ7 ((bX0 X.N).map (bQ5 X.N X.C cores)):Int),.int .i64 (bW4 X.N X.C cores:Int)]::.row bm 135 [.int .i64 0,.map (some kb),.slice none 0 0,.slice none 0 0,.slice np X.N.ps.length nc,.int .i64 X.N.inputs,.slice none 0 0,.int .i64 X.C.mesh.wide,.int .i64 X.C.mesh.high,.int .i64 X.C.mesh.room,.slice y.pc X.N.ps.length y.cc,.slice y.ps X.N.ps.length y.cs,.slice y.y.pp X.N.ps.length y.y.cp,.int .i64 X.N.inputs,.slice y.y.ps X.N.syns.length y.y.cs,.slice (some ⟨gz,0,none⟩) X.N.ps.length y.y.cz,.slice y.y.pq X.N.syns.length y.y.cq,.slice y.y.pe X.N.ps.length y.y.ce,.bool (bQ9 X.N X.C.bits).exact,.slice (some ⟨gr,0,none⟩) n y.cr,.slice y.pt n y.ct,.slice (some ⟨gw,0,none⟩) ns y.cw,.int .i64 (bM9 X.N X.C cores:Int),.int .i64 (bJ7 ((bX0 X.N).map (bQ5 X.N X.C cores)):Int),.int .i64 (bW4 X.N X.C cores:Int),.int .i64 0,.int .i64 0,.int .i64 0,.int .i64 0,.int .i64 0,.int .i64 0,.int .i64 0,.int .i64 0,.int .i64 0]::.map kb (kmF 0 (K.map (·.b)))::.vec np X.N.ps.length nc 140 8 (bQ1 bH3 X.N.ps)::.vec (some ⟨gr,0,none⟩) n y.cr 155 1 (bQ1 rrV y.rr)::.vec (some ⟨gz,0,none⟩) X.N.ps.length y.y.cz 3 1 (bQ1 bQ6 Z)::(y.rr.map rrE++((K).map fV4++((K).map fV3++((K).map fV5++((K).flatMap fD0++HY)))))) (fun K=>n - K.length) [] ⟨qB _,by simp⟩ aE ?_ ?_
 ·dsimp only
  simp only [QA,List.flatMap_nil,Qc,List.append_eq,qC]
  exact aH
 rintro K ⟨hKn,hK⟩
 dsimp only at hKn hK ⊢
 rcases qy K.length n with hlt|hge
 ·-- cut<
  obtain ⟨⟨rp,rc,rl⟩,hrw⟩:∃q,y.rr[K.length]? =some q:=⟨_,qq (by omega)⟩
  have hrE:=hrow hrw
  have hrL:=hrlen hrw
  have hrO:=hokR _ (qz hrw)
  dsimp only at hrE hrL
  have hv:sub (rrV ⟨rp,rc,rl⟩) 0 1=some [.slice rp rl.length rc]:=rfl
  repeat' (conv=>whnf);first|(refine VIx.is ?_;refine VIx.mk rfl (by omega) (by omega) ?_)|(refine VLd.is ?_;refine oC (.vec aT (bQ8 (f:=rrV) (k:=1) (fun _=>rfl) hrw hv)) ?_)|(refine VSeq.go ?_)|(refine VB.is ?_;refine bX5 (by omega) fun _=>?_)|(refine VNew.mk fun _=>?_)
  all_goals (conv=>whnf)
  rename_i mb bk
  refine VLoop.mk (α:=Nat×List KRow) (fun z=>z.1<=rl.length/\(∀key,kl z.2 key=(rl.take z.1).filter fun q=>decide (q.key=key))/\(∀x∈z.2,∃g,x.p=some ⟨g,0,none⟩)/\∀x∈z.2,x.l.length<=z.1)
   (fun z=>[(1000000,.tuple #[]),(2,.slice p cores.length c),(3,.pointer (some ⟨b3,0,none⟩)),(4,.pointer (some ⟨b4,0,none⟩)),(6,.pointer none),(7,.int .i64 0),(8,.pointer (some ⟨b8,0,none⟩)),(10,.pointer (some ⟨bm,0,none⟩)),(11,.int .i64 (K.length:Int)),(13,.pointer (some ⟨bk,0,none⟩)),(58,.slice (some ⟨gr,0,none⟩) n y.cr),(59,.int .i64 (n:Int)),(60,.int .i64 (K.length:Int)),(68,.slice rp rl.length rc),(69,.int .i64 (rl.length:Int)),(70,.int .i64 (z.1:Int))])
   (fun z=>.row bk 211 [.slice none 0 0,.map (some mb)]::.map mb (z.2.map krM)::.row b3 25 [.slice X.pn X.N.ps.length X.cn,.int .i64 X.N.inputs,.slice X.qs X.N.syns.length X.cs]::.row b4 30 [.int .i64 X.C.mesh.wide,.int .i64 X.C.mesh.high,.int .i64 X.C.mesh.room,.int .i64 X.C.nr,.int .i64 X.C.sy,.int .i64 X.C.en,.int .i64 X.C.bits,.slice X.pd X.C.dead.length X.cd]::.row b8 61 [.slice y.pc X.N.ps.length y.cc,.slice y.ps X.N.ps.length y.cs,.slice y.y.pp X.N.ps.length y.y.cp,.int .i64 X.N.inputs,.slice y.y.ps X.N.syns.length y.y.cs,.slice (some ⟨gz,0,none⟩) X.N.ps.length y.y.cz,.slice y.y.pq X.N.syns.length y.y.cq,.slice y.y.pe X.N.ps.length y.y.ce,.bool (bQ9 X.N X.C.bits).exact,.slice (some ⟨gr,0,none⟩) n y.cr,.slice y.pt n y.ct,.slice (some ⟨gw,0,none⟩) ns y.cw,.int .i64 (bM9 X.N X.C cores:Int),.int .i64 (bJ7 ((bX0 X.N).map (bQ5 X.N X.C cores)):Int),.int .i64 (bW4 X.N X.C cores:Int)]::.row bm 135 [.int .i64 0,.map (some kb),.slice none 0 0,.slice none 0 0,.slice np X.N.ps.length nc,.int .i64 X.N.inputs,.slice none 0 0,.int .i64 X.C.mesh.wide,.int .i64 X.C.mesh.high,.int .i64 X.C.mesh.room,.slice y.pc X.N.ps.length y.cc,.slice y.ps X.N.ps.length y.cs,.slice y.y.pp X.N.ps.length y.y.cp,.int .i64 X.N.inputs,.slice y.y.ps X.N.syns.length y.y.cs,.slice (some ⟨gz,0,none⟩) X.N.ps.length y.y.cz,.slice y.y.pq X.N.syns.length y.y.cq,.slice y.y.pe X.N.ps.length y.y.ce,.bool (bQ9 X.N X.C.bits).exact,.slice (some ⟨gr,0,none⟩) n y.cr,.slice y.pt n y.ct,.slice (some ⟨gw,0,none⟩) ns y.cw,.int .i64 (bM9 X.N X.C cores:Int),.int .i64 (bJ7 ((bX0 X.N).map (bQ5 X.N X.C cores)):Int),.int .i64 (bW4 X.N X.C cores:Int),.int .i64 0,.int .i64 0,.int .i64 0,.int .i64 0,.int .i64 0,.int .i64 0,.int .i64 0,.int .i64 0,.int .i64 0]::.map kb (kmF 0 (K.map (·.b)))::.vec np X.N.ps.length nc 140 8 (bQ1 bH3 X.N.ps)::.vec (some ⟨gr,0,none⟩) n y.cr 155 1 (bQ1 rrV y.rr)::.vec (some ⟨gz,0,none⟩) X.N.ps.length y.y.cz 3 1 (bQ1 bQ6 Z)::(z.2.map krE++(y.rr.map rrE++((K).map fV4++((K).map fV3++((K).map fV5++((K).flatMap fD0++HY))))))) (fun z=>rl.length - z.1) (0,[]) ⟨qB _,fun key=>rfl,by simp,by simp⟩ aE aH ?_
  rintro ⟨j,R⟩ ⟨hj,hR,hRp,hRl⟩
  dsimp only at hj hR hRp hRl ⊢
  rcases qy j rl.length with hjl|hjg
  ·obtain ⟨g,rfl⟩:=hrO (by dsimp only;omega)
   obtain ⟨q,hq⟩:∃q,rl[j]? =some q:=⟨_,qq hjl⟩
   have hqv:sub (rwV q) 0 4=some [.int .i64 q.key,.int .i64 q.slot,.int .i64 q.wt,.int .i64 q.dl]:=rfl
   have hnx:∀key,(rl.take (j+1)).filter (fun x=>decide (x.key=key))=((rl.take j).filter fun x=>decide (x.key=key))++if q.key=key then [q] else []:=fun key=>by
    rw [qi,hq,qW,Qa]
    congr 1
    by_cases h:q.key=key<;>simp [h]
   rcases gC7 R q with ⟨jj,r,hjj,hm,hkl,hrk,hset⟩|⟨hm,hkl,hset⟩
   ·have hrl2:=hRl r (qz hjj)
    repeat' (conv=>whnf);first|(refine VIx.is ?_;refine VIx.mk rfl (by omega) (by omega) ?_)|(refine VLd.is ?_;refine oC (Rd.seg (f:=rrE) (l:=y.rr) aS hrw rfl (bQ8 (f:=rwV) (k:=4) (fun _=>rfl) hq hqv)) ?_)|(refine VHs.is ?_;refine VHs.is ?_;refine VHs.mk [.row _ 158 [.int .i64 q.key,.int .i64 q.slot,.int .i64 q.wt,.int .i64 q.dl],.row bk 211 [.slice none 0 0,.map (some mb)],.map mb (R.map krM)] aH ?_)|(refine VMp.is ?_;refine VMp.is ?_;refine VMp.mk aT ?_)|(refine VLk.is ?_;refine VLk.is ?_;refine VLk.has hm ?_)|(refine VAp.is ?_;refine VAp.seg (f:=krE) (l:=R) aS hjj rfl (.at_ (.vec aT rfl)) (by simp [Value.oneCell']) (by (try dsimp only);omega) (by simp only [maxLen];omega) fun p1 c1 hp1=>?_)|(refine VMpU.is ?_;refine VMpU.is ?_;refine VMpU.mk aT ?_)|(refine VSeq.go ?_)|(refine VB.is ?_;refine bX5 (by omega) fun _=>?_)|(refine VLd.is ?_;refine VLd.mk (.row aT (by rfl)) ?_)|(refine VSt.is ?_;refine VSt.row aT (by rfl) (by first|rfl|assumption) ?_)|(refine VNew.mk fun _=>?_)|(refine VAr.is ?_;refine oA ?_)|(refine VKeep.is ?_;refine VKeep.mk aH ?_)
    all_goals (conv=>whnf)
    have hz:=hset ⟨q.key,p1,c1,r.l++[q]⟩ rfl
    rw [kK8] at hz
    refine VNext.mk (j+1,R.set jj ⟨q.key,p1,c1,r.l++[q]⟩) ⟨by dsimp only;omega,fun key=>?_,fun x hx=>?_,fun x hx=>?_⟩ (by dsimp only;omega) aE ?_
    ·dsimp only
     rw [hz.2 key,hnx key,<-hR]
     by_cases h:q.key=key
     ·subst h;rw [jw rfl,jw rfl,hkl]
     ·rw [jk h,jk h,qC]
    ·rcases Qq hx with h|rfl
     ·exact hRp x h
     ·exact hp1 (by omega)
    ·rcases Qq hx with h|rfl
     ·have:=hRl x h
      dsimp only;omega
     ·dsimp only
      rw [qw,qM];omega
    ·dsimp only
     rw [<-hz.1]
     refine HLe.permL ?_ (cH8 (f:=krE) aS (qx.1 hjj).1)
     rw [kK9]
     exact aH
   ·repeat' (conv=>whnf);first|(refine VIx.is ?_;refine VIx.mk rfl (by omega) (by omega) ?_)|(refine VLd.is ?_;refine oC (Rd.seg (f:=rrE) (l:=y.rr) aS hrw rfl (bQ8 (f:=rwV) (k:=4) (fun _=>rfl) hq hqv)) ?_)|(refine VHs.is ?_;refine VHs.is ?_;refine VHs.mk [.row _ 158 [.int .i64 q.key,.int .i64 q.slot,.int .i64 q.wt,.int .i64 q.dl],.row bk 211 [.slice none 0 0,.map (some mb)],.map mb (R.map krM)] aH ?_)|(refine VMp.is ?_;refine VMp.is ?_;refine VMp.mk aT ?_)|(refine VLk.is ?_;refine VLk.is ?_;refine VLk.lacks hm ?_)|(refine VAp.is ?_;refine VAp.nil rfl rfl rfl (.at_ (.vec aT rfl)) (by simp [Value.oneCell']) (by (try dsimp only);omega) (by simp only [maxLen];omega) fun p1 c1 hp1=>?_)|(refine VMpU.is ?_;refine VMpU.is ?_;refine VMpU.mk aT ?_)|(refine VSeq.go ?_)|(refine VB.is ?_;refine bX5 (by omega) fun _=>?_)|(refine VLd.is ?_;refine VLd.mk (.row aT (by rfl)) ?_)|(refine VSt.is ?_;refine VSt.row aT (by rfl) (by first|rfl|assumption) ?_)|(refine VNew.mk fun _=>?_)|(refine VAr.is ?_;refine oA ?_)|(refine VKeep.is ?_;refine VKeep.mk aH ?_)
    all_goals (conv=>whnf)
    have hz:=hset ⟨q.key,p1,c1,[q]⟩ rfl
    have hkv:krV ⟨q.key,p1,c1,[q]⟩=.slice p1 1 c1:=rfl
    rw [hkv] at hz
    refine VNext.mk (j+1,R++[⟨q.key,p1,c1,[q]⟩]) ⟨by dsimp only;omega,fun key=>?_,fun x hx=>?_,fun x hx=>?_⟩ (by dsimp only;omega) aE ?_
    ·dsimp only
     rw [hz.2 key,hnx key,<-hR]
     by_cases h:q.key=key
     ·subst h;rw [jw rfl,jw rfl,hkl];rfl
     ·rw [jk h,jk h,qC]
    ·rcases qH.1 hx with h|h
     ·exact hRp x h
     ·rw [qt] at h;subst h
      exact hp1 (by omega)
    ·rcases qH.1 hx with h|h
     ·have:=hRl x h
      dsimp only;omega
     ·rw [qt] at h;subst h
      show 1<=j+1
      omega
    ·dsimp only
     rw [<-hz.1,ql,qU,kS1,qJ,List.singleton_append]
     exact aH
  have hje:j=rl.length:=by omega
  subst hje
  have hkm:=kS2 (K.map (·.b)) bk
  rw [qv] at hkm
  rw [Qk] at hR
  repeat' (conv=>whnf);first|(refine VMpU.is ?_;refine VMpU.is ?_;refine VMpU.mk aT ?_)|(refine VSeq.go ?_)|(refine VB.is ?_;refine bZ2 (by omega) fun _=>?_)|(refine VLd.is ?_;refine VLd.mk (.row aT (by rfl)) ?_)|(refine VAr.is ?_;refine oA ?_)
  all_goals (conv=>whnf)
  refine VNext.mk (K++[⟨bk,mb,none,0,[],R⟩]) ⟨by rw [qw,qM];omega,fun r k hk=>?_⟩ (by rw [qw,qM];omega) (by rw [qw,qM];exact aE) ?_
  ·rcases qy r K.length with h|h
   ·rw [QY h] at hk
    exact hK r k hk
   ·rw [Qr h] at hk
    obtain ⟨h2,h3⟩:=qx.1 hk
    rw [qM] at h2
    have h4:r=K.length:=by omega
    subst h4
    simp only [jx,List.getElem_cons_zero] at h3
    subst h3
    exact ⟨⟨rfl,rfl,rfl⟩,fun key=>by dsimp only;unfold bS8;rw [<-hrE];exact hR key,hRp⟩
  ·dsimp only
   simp only [ql,qI,QA,QK,Qf,List.flatMap_nil,qC,hM3,hM2,lQ5,lQ6,qJ,Qw,Qc,List.length_nil,cN6]
   rw [<-hkm]
   refine HLe.trans ?_ (HLe.nilv (e:=212) (size:=1) (.refl _))
   exact aH
  -- >cut
 have hKl:K.length=n:=by omega
 have hcore:∀{i:Nat} {k:Int},cores[i]? =some k->∃r:Nat,k=(r:Int)/\r<n:=fun {i k} hk=>by
  have:=(hA.core k (qz hk)).1
  exact ⟨k.toNat,by omega,by omega⟩
 clear hrlen hge hKn
 repeat' (conv=>whnf);first|(refine VSeq.go ?_)|(refine VB.is ?_;refine bZ2 (by omega) fun _=>?_)|(refine VAr.is ?_;refine oA ?_)
 all_goals (conv=>whnf)
 refine VLoop.mk (α:=List CelM×List CorM×Option Addr×Nat) (fun z=>z.1.length<=cores.length/\(∀(i:Nat) (c:CelM),z.1[i]? =some c->c=⟨c.b,(i:Int),(X.N.ps[i]?).getD ⟨0,0,0,0,0,0,0,0⟩,(Z[i]?).getD 0,⟨0,0⟩,List.replicate 16 0⟩)/\z.2.1.length=n/\
   (∀(r:Nat) (k:CorM),z.2.1[r]? =some k->k.l=(bP8 cores z.1.length (r:Int)).map (fun i=>((z.1.map (·.b))[i]?).getD 0)/\(∀key,kl k.R key=bS8 X.N X.C cores (r:Int) key)/\(0<k.l.length->∃g,k.p=some ⟨g,0,none⟩)/\∀x∈k.R,∃g,x.p=some ⟨g,0,none⟩)/\(0<z.1.length->∃g,z.2.2.1=some ⟨g,0,none⟩))
  (fun z=>[(1000000,.tuple #[]),(2,.slice p cores.length c),(3,.pointer (some ⟨b3,0,none⟩)),(4,.pointer (some ⟨b4,0,none⟩)),(6,.pointer none),(7,.int .i64 0),(8,.pointer (some ⟨b8,0,none⟩)),(10,.pointer (some ⟨bm,0,none⟩)),(99,.slice p cores.length c),(100,.int .i64 (cores.length:Int)),(101,.int .i64 (z.1.length:Int))])
  (fun z=>.row b3 25 [.slice X.pn X.N.ps.length X.cn,.int .i64 X.N.inputs,.slice X.qs X.N.syns.length X.cs]::.row b4 30 [.int .i64 X.C.mesh.wide,.int .i64 X.C.mesh.high,.int .i64 X.C.mesh.room,.int .i64 X.C.nr,.int .i64 X.C.sy,.int .i64 X.C.en,.int .i64 X.C.bits,.slice X.pd X.C.dead.length X.cd]::.row b8 61 [.slice y.pc X.N.ps.length y.cc,.slice y.ps X.N.ps.length y.cs,.slice y.y.pp X.N.ps.length y.y.cp,.int .i64 X.N.inputs,.slice y.y.ps X.N.syns.length y.y.cs,.slice (some ⟨gz,0,none⟩) X.N.ps.length y.y.cz,.slice y.y.pq X.N.syns.length y.y.cq,.slice y.y.pe X.N.ps.length y.y.ce,.bool (bQ9 X.N X.C.bits).exact,.slice (some ⟨gr,0,none⟩) n y.cr,.slice y.pt n y.ct,.slice (some ⟨gw,0,none⟩) ns y.cw,.int .i64 (bM9 X.N X.C cores:Int),.int .i64 (bJ7 ((bX0 X.N).map (bQ5 X.N X.C cores)):Int),.int .i64 (bW4 X.N X.C cores:Int)]::.row bm 135 [.int .i64 0,.map (some kb),.slice z.2.2.1 z.1.length z.2.2.2,.slice none 0 0,.slice np X.N.ps.length nc,.int .i64 X.N.inputs,.slice none 0 0,.int .i64 X.C.mesh.wide,.int .i64 X.C.mesh.high,.int .i64 X.C.mesh.room,.slice y.pc X.N.ps.length y.cc,.slice y.ps X.N.ps.length y.cs,.slice y.y.pp X.N.ps.length y.y.cp,.int .i64 X.N.inputs,.slice y.y.ps X.N.syns.length y.y.cs,.slice (some ⟨gz,0,none⟩) X.N.ps.length y.y.cz,.slice y.y.pq X.N.syns.length y.y.cq,.slice y.y.pe X.N.ps.length y.y.ce,.bool (bQ9 X.N X.C.bits).exact,.slice (some ⟨gr,0,none⟩) n y.cr,.slice y.pt n y.ct,.slice (some ⟨gw,0,none⟩) ns y.cw,.int .i64 (bM9 X.N X.C cores:Int),.int .i64 (bJ7 ((bX0 X.N).map (bQ5 X.N X.C cores)):Int),.int .i64 (bW4 X.N X.C cores:Int),.int .i64 0,.int .i64 0,.int .i64 0,.int .i64 0,.int .i64 0,.int .i64 0,.int .i64 0,.int .i64 0,.int .i64 0]::.map kb (kmF 0 (z.2.1.map (·.b)))::.vec np X.N.ps.length nc 140 8 (bQ1 bH3 X.N.ps)::.vec (some ⟨gr,0,none⟩) n y.cr 155 1 (bQ1 rrV y.rr)::.vec (some ⟨gz,0,none⟩) X.N.ps.length y.y.cz 3 1 (bQ1 bQ6 Z)::.vec z.2.2.1 z.1.length z.2.2.2 212 1 (bQ1 cpV (z.1.map (·.b)))::(z.1.map bB6++(y.rr.map rrE++((z.2.1).map fV4++((z.2.1).map fV3++((z.2.1).map fV5++((z.2.1).flatMap fD0++HY))))))) (fun z=>cores.length - z.1.length) ([],K,none,0) ⟨qB _,by simp,hKl,fun r k hk=>by
   obtain ⟨⟨e1,e2,e3⟩,e4,e5⟩:=hK r k hk
   exact ⟨(by rw [e1];rfl),e4,(by rw [e1];intro h;cases h),e5⟩,fun h=>absurd h (by simp)⟩ aE ?_ ?_
 ·dsimp only
  refine HLe.trans ?_ (HLe.nilv (e:=212) (size:=1) (.refl _))
  exact aH
 clear hK hKl
 rintro ⟨cs,K2,cp,cc⟩ ⟨hcs,hcel,hK2l,hK2,hcp⟩
 dsimp only at hcs hcel hK2l hK2 hcp ⊢
 rcases qy cs.length cores.length with hlt|hge
 ·-- cut<
  obtain ⟨k0,hk0⟩:=h1.get hlt
  obtain ⟨kr,rfl,hkr⟩:=hcore hk0
  obtain ⟨Kk,hKk⟩:∃q,K2[kr]? =some q:=⟨_,qq (by omega)⟩
  obtain ⟨e1,e2,e3,e4⟩:=hK2 kr Kk hKk
  obtain ⟨q,hq⟩:=hps.get (by omega:cs.length<X.N.ps.length)
  obtain ⟨zz,hzz⟩:∃zz,Z[cs.length]? =some zz:=⟨_,qq (by omega)⟩
  have hqv:sub (bH3 q) 0 8=some [.int .i64 q.lk,.int .i64 q.lv,.int .i64 q.bias,.int .i64 q.th,.int .i64 q.rk,.int .i64 q.rs,.int .i64 q.fl,.int .i64 q.rest]:=rfl
  have hmk:=gQ3 (K2.map (·.b)) 0 kr Kk.b (by rw [qj,hKk];rfl)
  rw [Qo] at hmk
  have hlk:Kk.l.length<=cores.length:=by
   rw [e1,qv]
   unfold bP8
   have:=qD (fun i=>decide (cores[i]? =some (kr:Int))) (List.range cs.length)
   rw [Qg] at this
   omega
  repeat' (conv=>whnf);first|(refine VSeq.is ?_;refine bF1 21 rfl ?_;refine VSeq.cut (at_:=21) (α:=Nat) (fun _=>True) (fun bc=>[(1000000,.tuple #[]),(2,.slice p cores.length c),(3,.pointer (some ⟨b3,0,none⟩)),(4,.pointer (some ⟨b4,0,none⟩)),(6,.pointer none),(7,.int .i64 0),(8,.pointer (some ⟨b8,0,none⟩)),(10,.pointer (some ⟨bm,0,none⟩)),(16,.int .i64 (cs.length:Int)),(17,.int .i64 (kr:Int)),(18,.pointer (some ⟨bc,0,none⟩)),(99,.slice p cores.length c),(100,.int .i64 (cores.length:Int)),(101,.int .i64 (cs.length:Int))]) (fun bc=>.row bc 215 [.int .i64 (cs.length:Int),.int .i64 q.lk,.int .i64 q.lv,.int .i64 q.bias,.int .i64 q.th,.int .i64 q.rk,.int .i64 q.rs,.int .i64 q.fl,.int .i64 q.rest,.int .i64 zz,.int .i64 0,.int .i64 0,.int .i64 0,.int .i64 0,.int .i64 0,.int .i64 0,.int .i64 0,.int .i64 0,.int .i64 0,.int .i64 0,.int .i64 0,.int .i64 0,.int .i64 0,.int .i64 0,.int .i64 0,.int .i64 0,.int .i64 0,.int .i64 0]::.row Kk.b 211 [.slice Kk.p Kk.l.length Kk.c,.map (some Kk.mb)]::.vec Kk.p Kk.l.length Kk.c 212 1 (bQ1 cpV Kk.l)::.row b3 25 [.slice X.pn X.N.ps.length X.cn,.int .i64 X.N.inputs,.slice X.qs X.N.syns.length X.cs]::.row b4 30 [.int .i64 X.C.mesh.wide,.int .i64 X.C.mesh.high,.int .i64 X.C.mesh.room,.int .i64 X.C.nr,.int .i64 X.C.sy,.int .i64 X.C.en,.int .i64 X.C.bits,.slice X.pd X.C.dead.length X.cd]::.row b8 61 [.slice y.pc X.N.ps.length y.cc,.slice y.ps X.N.ps.length y.cs,.slice y.y.pp X.N.ps.length y.y.cp,.int .i64 X.N.inputs,.slice y.y.ps X.N.syns.length y.y.cs,.slice (some ⟨gz,0,none⟩) X.N.ps.length y.y.cz,.slice y.y.pq X.N.syns.length y.y.cq,.slice y.y.pe X.N.ps.length y.y.ce,.bool (bQ9 X.N X.C.bits).exact,.slice (some ⟨gr,0,none⟩) n y.cr,.slice y.pt n y.ct,.slice (some ⟨gw,0,none⟩) ns y.cw,.int .i64 (bM9 X.N X.C cores:Int),.int .i64 (bJ7 ((bX0 X.N).map (bQ5 X.N X.C cores)):Int),.int .i64 (bW4 X.N X.C cores:Int)]::.row bm 135 [.int .i64 0,.map (some kb),.slice cp cs.length cc,.slice none 0 0,.slice np X.N.ps.length nc,.int .i64 X.N.inputs,.slice none 0 0,.int .i64 X.C.mesh.wide,.int .i64 X.C.mesh.high,.int .i64 X.C.mesh.room,.slice y.pc X.N.ps.length y.cc,.slice y.ps X.N.ps.length y.cs,.slice y.y.pp X.N.ps.length y.y.cp,.int .i64 X.N.inputs,.slice y.y.ps X.N.syns.length y.y.cs,.slice (some ⟨gz,0,none⟩) X.N.ps.length y.y.cz,.slice y.y.pq X.N.syns.length y.y.cq,.slice y.y.pe X.N.ps.length y.y.ce,.bool (bQ9 X.N X.C.bits).exact,.slice (some ⟨gr,0,none⟩) n y.cr,.slice y.pt n y.ct,.slice (some ⟨gw,0,none⟩) ns y.cw,.int .i64 (bM9 X.N X.C cores:Int),.int .i64 (bJ7 ((bX0 X.N).map (bQ5 X.N X.C cores)):Int),.int .i64 (bW4 X.N X.C cores:Int),.int .i64 0,.int .i64 0,.int .i64 0,.int .i64 0,.int .i64 0,.int .i64 0,.int .i64 0,.int .i64 0,.int .i64 0]::.map kb (kmF 0 (K2.map (·.b)))::.vec np X.N.ps.length nc 140 8 (bQ1 bH3 X.N.ps)::.vec (some ⟨gr,0,none⟩) n y.cr 155 1 (bQ1 rrV y.rr)::.vec (some ⟨gz,0,none⟩) X.N.ps.length y.y.cz 3 1 (bQ1 bQ6 Z)::.vec cp cs.length cc 212 1 (bQ1 cpV (cs.map (·.b)))::(cs.map bB6++(y.rr.map rrE++((K2.eraseIdx kr).map fV4++((K2.eraseIdx kr).map fV3++(K2.map fV5++(K2.flatMap fD0++HY))))))) ?_ ?_)|(refine VIx.is ?_;refine VIx.mk (h1.ptr (by omega)) (by omega) (by omega) ?_)|(refine VLd.is ?_;refine oC (h1.rd0 (by simp) (fun _=>rfl) hk0 rfl) ?_)|(refine VIx.is ?_;refine VIx.mk (hps.ptr (by omega)) (by omega) (by omega) ?_)|(refine VLd.is ?_;refine oC (hps.rd0 (by simp) (fun _=>rfl) hq hqv) ?_)|(refine VIx.is ?_;refine VIx.mk rfl (by omega) (by omega) ?_)|(refine VLd.is ?_;refine oC (.vec aT (bQ8 (f:=bQ6) (k:=1) (fun _=>rfl) hzz rfl)) ?_)|(refine VHs.is ?_;refine VHs.is ?_;refine VHs.mk [.row b3 25 [.slice X.pn X.N.ps.length X.cn,.int .i64 X.N.inputs,.slice X.qs X.N.syns.length X.cs],.row b8 61 [.slice y.pc X.N.ps.length y.cc,.slice y.ps X.N.ps.length y.cs,.slice y.y.pp X.N.ps.length y.y.cp,.int .i64 X.N.inputs,.slice y.y.ps X.N.syns.length y.y.cs,.slice (some ⟨gz,0,none⟩) X.N.ps.length y.y.cz,.slice y.y.pq X.N.syns.length y.y.cq,.slice y.y.pe X.N.ps.length y.y.ce,.bool (bQ9 X.N X.C.bits).exact,.slice (some ⟨gr,0,none⟩) n y.cr,.slice y.pt n y.ct,.slice (some ⟨gw,0,none⟩) ns y.cw,.int .i64 (bM9 X.N X.C cores:Int),.int .i64 (bJ7 ((bX0 X.N).map (bQ5 X.N X.C cores)):Int),.int .i64 (bW4 X.N X.C cores:Int)],.vec (some ⟨gz,0,none⟩) X.N.ps.length y.y.cz 3 1 (bQ1 bQ6 Z)] aH ?_)|(refine VSeq.go ?_)|(refine VB.is ?_;refine bX5 (by omega) fun _=>?_)|(refine VLd.is ?_;refine VLd.mk (.row aT (by rfl)) ?_)|(refine VNew.mk fun _=>?_)
  all_goals (conv=>whnf)
  ·refine VMid.mk _ trivial aE ?_
   have hcR:fV4 Kk=.row Kk.b 211 [.slice Kk.p Kk.l.length Kk.c,.map (some Kk.mb)]:=rfl
   have hcV:fV3 Kk=.vec Kk.p Kk.l.length Kk.c 212 1 (bQ1 cpV Kk.l):=rfl
   refine HLe.trans ?_ (dL4 (f:=fV4) aS hKk)
   refine HLe.trans ?_ (dL4 (f:=fV3) aS hKk)
   rw [hcR,hcV]
   exact aH
  rintro bc _
  dsimp only
  repeat' (conv=>whnf);first|(refine VHs.is ?_;refine VHs.is ?_;refine VHs.mk [.row bm 135 [.int .i64 0,.map (some kb),.slice cp cs.length cc,.slice none 0 0,.slice np X.N.ps.length nc,.int .i64 X.N.inputs,.slice none 0 0,.int .i64 X.C.mesh.wide,.int .i64 X.C.mesh.high,.int .i64 X.C.mesh.room,.slice y.pc X.N.ps.length y.cc,.slice y.ps X.N.ps.length y.cs,.slice y.y.pp X.N.ps.length y.y.cp,.int .i64 X.N.inputs,.slice y.y.ps X.N.syns.length y.y.cs,.slice (some ⟨gz,0,none⟩) X.N.ps.length y.y.cz,.slice y.y.pq X.N.syns.length y.y.cq,.slice y.y.pe X.N.ps.length y.y.ce,.bool (bQ9 X.N X.C.bits).exact,.slice (some ⟨gr,0,none⟩) n y.cr,.slice y.pt n y.ct,.slice (some ⟨gw,0,none⟩) ns y.cw,.int .i64 (bM9 X.N X.C cores:Int),.int .i64 (bJ7 ((bX0 X.N).map (bQ5 X.N X.C cores)):Int),.int .i64 (bW4 X.N X.C cores:Int),.int .i64 0,.int .i64 0,.int .i64 0,.int .i64 0,.int .i64 0,.int .i64 0,.int .i64 0,.int .i64 0,.int .i64 0],.map kb (kmF 0 (K2.map (·.b))),.row Kk.b 211 [.slice Kk.p Kk.l.length Kk.c,.map (some Kk.mb)]] aH ?_)|(refine VMp.is ?_;refine VMp.is ?_;refine VMp.mk aT ?_)|(refine VLk.is ?_;refine VLk.is ?_;refine VLk.has hmk ?_)|(refine VAp.is ?_;refine VAp.is ?_;refine VAp.own aT (.at_ (.vec aT rfl)) (by simp [Value.oneCell']) (by (try dsimp only);omega) (by simp only [maxLen];omega) fun p1 c1 hp1=>?_)|(refine VSeq.go ?_)|(refine VLd.is ?_;refine VLd.mk (.row aT (by rfl)) ?_)|(refine VSt.is ?_;refine VSt.row aT (by rfl) (by first|rfl|assumption) ?_)|(refine VNew.mk fun _=>?_)|(refine VAr.is ?_;refine oA ?_)|(refine VKeep.is ?_;refine VKeep.mk aH ?_)
  all_goals (conv=>whnf)
  rename_i q1 d1 hq1 _
  have hsn:=gR9 (bs:=cs.map (·.b)) (b:=bc) (cores:=cores) (k:=(kr:Int)) (by rw [qv];exact hk0)
  rw [qv] at hsn
  refine VNext.mk (cs++[⟨bc,(cs.length:Int),q,zz,⟨0,0⟩,List.replicate 16 0⟩],K2.set kr ⟨Kk.b,Kk.mb,q1,d1,Kk.l++[bc],Kk.R⟩,p1,c1) ⟨by rw [List.length_append,List.length_singleton];omega,fun i c hc=>?_,by rw [List.length_set];exact hK2l,fun r k hk=>?_,fun _=>hp1 (by omega)⟩ (by dsimp only;rw [List.length_append,List.length_singleton];omega) (by dsimp only;rw [List.length_append,List.length_singleton];exact aE) ?_
  ·rcases qy i cs.length with h|h
   ·rw [QY h] at hc
    exact hcel i c hc
   ·rw [Qr h] at hc
    obtain ⟨h2,h3⟩:=qx.1 hc
    rw [qM] at h2
    have h4:i=cs.length:=by omega
    subst h4
    simp only [jx,List.getElem_cons_zero] at h3
    subst h3
    rw [hq,hzz,qY,qY]
  ·rw [qw,qM,ql,qU,hsn]
   rw [qO] at hk
   by_cases hr:kr=r
   ·subst hr
    rw [jw rfl,jw (by omega)] at hk
    cases hk
    rw [jw rfl]
    exact ⟨(by dsimp only;rw [e1]),e2,fun _=>hq1 (by omega),e4⟩
   ·rw [jk hr] at hk
    rw [jk (by omega),qC]
    exact hK2 r k hk
  ·have hlr:kr<K2.length:=by omega
   dsimp only
   have hb1:=kG5 (k':=⟨Kk.b,Kk.mb,q1,d1,Kk.l++[bc],Kk.R⟩) hKk rfl
   have hb2:=kG3 (k':=⟨Kk.b,Kk.mb,q1,d1,Kk.l++[bc],Kk.R⟩) hKk rfl rfl
   have hb3:=kG4 (k':=⟨Kk.b,Kk.mb,q1,d1,Kk.l++[bc],Kk.R⟩) hKk rfl
   rw [hb1,hb2,hb3,ql,ql,qU,qU,kF5,bQ7,qw,qM]
   refine HLe.permL ?_ (cH8 (f:=fV4) aS hlr)
   refine HLe.permL ?_ (cH8 (f:=fV3) aS hlr)
   rw [hM3,hM2,qw,qM,bQ7]
   simp only [qJ,Qw,Qc]
   exact aH
  -- >cut
 have hcse:cs.length=X.N.ps.length:=by omega
 obtain ⟨gc,rfl⟩:=hcp (by omega)
 have hns2:(ns:Int)=X.N.ps.length+X.N.inputs:=by rw [<-hns];unfold bV2;omega
 have hkeyr:∀{r:Nat} {q:RowE},q∈bM1 X.N cores (cJ5 X.N (bQ9 X.N X.C.bits).quots) (r:Int)->∃kn:Nat,q.key=(kn:Int)/\kn<ns:=fun {r q} hq=>by
  obtain ⟨s,hs,_,rfl⟩:=fY6 hA hq
  have:=bL5 hA.plan.net hs
  rw [hns] at this
  exact ⟨(bG1 X.N s.frm).toNat,by show bG1 X.N s.frm=_;omega,by omega⟩
 have hrg:∀{r:Nat},r<n->(cQ9 X.N X.C cores)[r]? =some (bM1 X.N cores (cJ5 X.N (bQ9 X.N X.C.bits).quots) (r:Int)):=fun h=>cK8 (by rw [hn];exact h)
 have hpl:=fun {k j:Nat} (hk:k<=n)=>fS3 hA (k:=k) (j:=j) (by rw [hn];exact hk)
 have hfs:=hA.plan.net.fewS
 have htm:=fun (t key:Int)=>fW7 hA (t:=t) (key:=key)
 have htn:=lJ3 hA
 have htt:=fun (k:Int) hk=>kN1 hA (k:=k) hk
 rw [hn] at htm htn htt
 obtain ⟨RW,hRW⟩:=gX (cQ9 X.N X.C cores)
 rw [hRW] at hrg hpl htm htn htt
 clear hcp hge hcs
 rw [hcse]
 have hrE:bQ1 srV (List.replicate ns (⟨none,0,[]⟩:SRow))=bB1 [.slice none 0 0] ns:=(bV3 (f:=srV) (x:=(⟨none,0,[]⟩:SRow)) ns).symm
 have hsE:(List.replicate ns (⟨none,0,[]⟩:SRow)).map srE=List.replicate ns (.vec none 0 0 3 1 []):=by rw [List.map_replicate];rfl
 repeat' (conv=>whnf);first|(refine VMk.is ?_;refine VMk.mk (by omega) (by omega) (by (try dsimp only);omega) (by omega) fun gT=>?_)|(refine VSeq.go ?_)|(refine VB.is ?_;refine bZ2 (by omega) fun _=>?_)|(refine VLd.is ?_;refine VLd.mk (.row aT (by rfl)) ?_)
 all_goals (conv=>whnf)
 rename_i gT
 refine VLoop.mk (α:=Nat×List SRow) (fun z=>z.1<=n/\z.2.map (·.l)=dL3 (bK0 RW z.1 0) ns/\∀r∈z.2,r.ok)
  (fun z=>[(1000000,.tuple #[]),(2,.slice p cores.length c),(4,.pointer (some ⟨b4,0,none⟩)),(6,.pointer none),(7,.int .i64 0),(10,.pointer (some ⟨bm,0,none⟩)),(19,.slice (some ⟨gT,0,none⟩) ns ns),(160,.slice (some ⟨gr,0,none⟩) n y.cr),(161,.int .i64 (n:Int)),(162,.int .i64 (z.1:Int))])
  (fun z=>.row b4 30 [.int .i64 X.C.mesh.wide,.int .i64 X.C.mesh.high,.int .i64 X.C.mesh.room,.int .i64 X.C.nr,.int .i64 X.C.sy,.int .i64 X.C.en,.int .i64 X.C.bits,.slice X.pd X.C.dead.length X.cd]::.row bm 135 [.int .i64 0,.map (some kb),.slice (some ⟨gc,0,none⟩) X.N.ps.length cc,.slice none 0 0,.slice np X.N.ps.length nc,.int .i64 X.N.inputs,.slice none 0 0,.int .i64 X.C.mesh.wide,.int .i64 X.C.mesh.high,.int .i64 X.C.mesh.room,.slice y.pc X.N.ps.length y.cc,.slice y.ps X.N.ps.length y.cs,.slice y.y.pp X.N.ps.length y.y.cp,.int .i64 X.N.inputs,.slice y.y.ps X.N.syns.length y.y.cs,.slice (some ⟨gz,0,none⟩) X.N.ps.length y.y.cz,.slice y.y.pq X.N.syns.length y.y.cq,.slice y.y.pe X.N.ps.length y.y.ce,.bool (bQ9 X.N X.C.bits).exact,.slice (some ⟨gr,0,none⟩) n y.cr,.slice y.pt n y.ct,.slice (some ⟨gw,0,none⟩) ns y.cw,.int .i64 (bM9 X.N X.C cores:Int),.int .i64 (bJ7 ((bX0 X.N).map (bQ5 X.N X.C cores)):Int),.int .i64 (bW4 X.N X.C cores:Int),.int .i64 0,.int .i64 0,.int .i64 0,.int .i64 0,.int .i64 0,.int .i64 0,.int .i64 0,.int .i64 0,.int .i64 0]::.map kb (kmF 0 (K2.map (·.b)))::.vec np X.N.ps.length nc 140 8 (bQ1 bH3 X.N.ps)::.vec (some ⟨gr,0,none⟩) n y.cr 155 1 (bQ1 rrV y.rr)::.vec (some ⟨gz,0,none⟩) X.N.ps.length y.y.cz 3 1 (bQ1 bQ6 Z)::.vec (some ⟨gc,0,none⟩) X.N.ps.length cc 212 1 (bQ1 cpV (cs.map (·.b)))::.vec (some ⟨gT,0,none⟩) ns ns 28 1 (bQ1 srV (z.2))::(z.2.map srE++(cs.map bB6++(y.rr.map rrE++((K2).map fV4++((K2).map fV3++((K2).map fV5++((K2).flatMap fD0++HY)))))))) (fun z=>n - z.1) (0,List.replicate ns ⟨none,0,[]⟩) ⟨qB _,?_,?_⟩ aE ?_ ?_
 ·dsimp only
  rw [List.map_replicate]
  unfold dL3
  rw [cB6]
  rfl
 ·intro r hr
  rw [QM hr]
  intro h;cases h
 ·dsimp only
  rw [hrE,hsE]
  refine hY4 (e:=3) (size:=1) (n:=ns) (A:=[.row b4 30 [.int .i64 X.C.mesh.wide,.int .i64 X.C.mesh.high,.int .i64 X.C.mesh.room,.int .i64 X.C.nr,.int .i64 X.C.sy,.int .i64 X.C.en,.int .i64 X.C.bits,.slice X.pd X.C.dead.length X.cd],.row bm 135 [.int .i64 0,.map (some kb),.slice (some ⟨gc,0,none⟩) X.N.ps.length cc,.slice none 0 0,.slice np X.N.ps.length nc,.int .i64 X.N.inputs,.slice none 0 0,.int .i64 X.C.mesh.wide,.int .i64 X.C.mesh.high,.int .i64 X.C.mesh.room,.slice y.pc X.N.ps.length y.cc,.slice y.ps X.N.ps.length y.cs,.slice y.y.pp X.N.ps.length y.y.cp,.int .i64 X.N.inputs,.slice y.y.ps X.N.syns.length y.y.cs,.slice (some ⟨gz,0,none⟩) X.N.ps.length y.y.cz,.slice y.y.pq X.N.syns.length y.y.cq,.slice y.y.pe X.N.ps.length y.y.ce,.bool (bQ9 X.N X.C.bits).exact,.slice (some ⟨gr,0,none⟩) n y.cr,.slice y.pt n y.ct,.slice (some ⟨gw,0,none⟩) ns y.cw,.int .i64 (bM9 X.N X.C cores:Int),.int .i64 (bJ7 ((bX0 X.N).map (bQ5 X.N X.C cores)):Int),.int .i64 (bW4 X.N X.C cores:Int),.int .i64 0,.int .i64 0,.int .i64 0,.int .i64 0,.int .i64 0,.int .i64 0,.int .i64 0,.int .i64 0,.int .i64 0],.map kb (kmF 0 (K2.map (·.b))),.vec np X.N.ps.length nc 140 8 (bQ1 bH3 X.N.ps),.vec (some ⟨gr,0,none⟩) n y.cr 155 1 (bQ1 rrV y.rr),.vec (some ⟨gz,0,none⟩) X.N.ps.length y.y.cz 3 1 (bQ1 bQ6 Z),.vec (some ⟨gc,0,none⟩) X.N.ps.length cc 212 1 (bQ1 cpV (cs.map (·.b))),.vec (some ⟨gT,0,none⟩) ns ns 28 1 (bB1 [.slice none 0 0] ns)]) (B:=cs.map bB6++(y.rr.map rrE++((K2).map fV4++((K2).map fV3++((K2).map fV5++((K2).flatMap fD0++HY)))))) ?_
  simp only [Qw,Qc]
  exact aH
 rintro ⟨k,T⟩ ⟨hk,hT,hTk⟩
 dsimp only at hk hT hTk ⊢
 rcases qy k n with hlt|hge
 ·-- cut<
  obtain ⟨⟨rp,rc,rl⟩,hrw⟩:∃q,y.rr[k]? =some q:=⟨_,qq (by omega)⟩
  have hrE2:=hrow hrw
  have hrO:=hokR _ (qz hrw)
  have hrgk:=hrg hlt
  dsimp only at hrE2
  rw [<-hrE2] at hrgk
  have hrlk:rl.length<=8192:=by
   have h2:=hpl (k:=k) (j:=rl.length) hk
   have h3:rl.length<=(bK0 RW k rl.length).length:=by
    unfold bK0
    rw [hrgk,qY,qw,qv,Qk]
    omega
   omega
  have hv:sub (rrV ⟨rp,rc,rl⟩) 0 1=some [.slice rp rl.length rc]:=rfl
  repeat' (conv=>whnf);first|(refine VIx.is ?_;refine VIx.mk rfl (by omega) (by omega) ?_)|(refine VLd.is ?_;refine oC (.vec aT (bQ8 (f:=rrV) (k:=1) (fun _=>rfl) hrw hv)) ?_)|(refine VSeq.go ?_)|(refine VB.is ?_;refine bX5 (by omega) fun _=>?_)|(refine VNew.mk fun _=>?_)
  all_goals (conv=>whnf)
  refine VLoop.mk (α:=Nat×List SRow) (fun z=>z.1<=rl.length/\z.2.map (·.l)=dL3 (bK0 RW k z.1) ns/\∀r∈z.2,r.ok)
   (fun z=>[(1000000,.tuple #[]),(2,.slice p cores.length c),(4,.pointer (some ⟨b4,0,none⟩)),(6,.pointer none),(7,.int .i64 0),(10,.pointer (some ⟨bm,0,none⟩)),(19,.slice (some ⟨gT,0,none⟩) ns ns),(20,.int .i64 (k:Int)),(160,.slice (some ⟨gr,0,none⟩) n y.cr),(161,.int .i64 (n:Int)),(162,.int .i64 (k:Int)),(167,.slice rp rl.length rc),(168,.int .i64 (rl.length:Int)),(169,.int .i64 (z.1:Int))])
   (fun z=>.row b4 30 [.int .i64 X.C.mesh.wide,.int .i64 X.C.mesh.high,.int .i64 X.C.mesh.room,.int .i64 X.C.nr,.int .i64 X.C.sy,.int .i64 X.C.en,.int .i64 X.C.bits,.slice X.pd X.C.dead.length X.cd]::.row bm 135 [.int .i64 0,.map (some kb),.slice (some ⟨gc,0,none⟩) X.N.ps.length cc,.slice none 0 0,.slice np X.N.ps.length nc,.int .i64 X.N.inputs,.slice none 0 0,.int .i64 X.C.mesh.wide,.int .i64 X.C.mesh.high,.int .i64 X.C.mesh.room,.slice y.pc X.N.ps.length y.cc,.slice y.ps X.N.ps.length y.cs,.slice y.y.pp X.N.ps.length y.y.cp,.int .i64 X.N.inputs,.slice y.y.ps X.N.syns.length y.y.cs,.slice (some ⟨gz,0,none⟩) X.N.ps.length y.y.cz,.slice y.y.pq X.N.syns.length y.y.cq,.slice y.y.pe X.N.ps.length y.y.ce,.bool (bQ9 X.N X.C.bits).exact,.slice (some ⟨gr,0,none⟩) n y.cr,.slice y.pt n y.ct,.slice (some ⟨gw,0,none⟩) ns y.cw,.int .i64 (bM9 X.N X.C cores:Int),.int .i64 (bJ7 ((bX0 X.N).map (bQ5 X.N X.C cores)):Int),.int .i64 (bW4 X.N X.C cores:Int),.int .i64 0,.int .i64 0,.int .i64 0,.int .i64 0,.int .i64 0,.int .i64 0,.int .i64 0,.int .i64 0,.int .i64 0]::.map kb (kmF 0 (K2.map (·.b)))::.vec np X.N.ps.length nc 140 8 (bQ1 bH3 X.N.ps)::.vec (some ⟨gr,0,none⟩) n y.cr 155 1 (bQ1 rrV y.rr)::.vec (some ⟨gz,0,none⟩) X.N.ps.length y.y.cz 3 1 (bQ1 bQ6 Z)::.vec (some ⟨gc,0,none⟩) X.N.ps.length cc 212 1 (bQ1 cpV (cs.map (·.b)))::.vec (some ⟨gT,0,none⟩) ns ns 28 1 (bQ1 srV (z.2))::(z.2.map srE++(cs.map bB6++(y.rr.map rrE++((K2).map fV4++((K2).map fV3++((K2).map fV5++((K2).flatMap fD0++HY)))))))) (fun z=>rl.length - z.1) (0,T) ⟨qB _,hT,hTk⟩ aE aH ?_
  rintro ⟨j,T2⟩ ⟨hj,hT2,hTk2⟩
  dsimp only at hj hT2 hTk2 ⊢
  rcases qy j rl.length with hjl|hjg
  ·obtain ⟨g,rfl⟩:=hrO (by dsimp only;omega)
   obtain ⟨q,hq⟩:∃q,rl[j]? =some q:=⟨_,qq hjl⟩
   obtain ⟨kn,hkn,hkl⟩:=hkeyr (by rw [<-hrE2];exact qz hq)
   have hqv:sub (rwV q) 0 4=some [.int .i64 (kn:Int),.int .i64 q.slot,.int .i64 q.wt,.int .i64 q.dl]:=by rw [<-hkn];rfl
   have hT2l:T2.length=ns:=by
    have:=congrArg List.length hT2
    rw [qv,cK2] at this
    exact this
   obtain ⟨tr,htr⟩:∃tr,T2[kn]? =some tr:=⟨_,qq (by omega)⟩
   have htrl:tr.l=fT2 (bK0 RW k j) (kn:Int):=by
    have h2:=congrArg (fun l=>l[kn]?) hT2
    rw [qj,htr,cD3 hkl] at h2
    simpa using h2
   have htrn:tr.l.length<=8192:=by
    rw [htrl]
    have h2:=gV0 (bK0 RW k j) (kn:Int)
    have h3:=hpl (k:=k) (j:=j) hk
    omega
   have hnx:=gP8 (P:=bK0 RW k j) hkl (k:Int) q hkn
   rw [<-fW8 hrgk hq,<-htrl] at hnx
   repeat' (conv=>whnf);first|(refine VIx.is ?_;refine VIx.mk rfl (by omega) (by omega) ?_)|(refine VLd.is ?_;refine oC (Rd.seg (f:=rrE) (l:=y.rr) aS hrw rfl (bQ8 (f:=rwV) (k:=4) (fun _=>rfl) hq hqv)) ?_)|(refine VHs.is ?_;refine VHs.is ?_;refine VHs.mk [.row _ 158 [.int .i64 (kn:Int),.int .i64 q.slot,.int .i64 q.wt,.int .i64 q.dl],.vec (some ⟨gT,0,none⟩) ns ns 28 1 (bQ1 srV (T2))] aH ?_)|(refine VLd.is ?_;refine oC (.vec aT (bQ8 (f:=srV) (k:=1) (fun _=>rfl) htr rfl)) ?_)|(refine VAp.is ?_;refine VAp.seg (f:=srE) (l:=T2) aS htr rfl (.at_ (.vec aT rfl)) (by simp [Value.oneCell']) (by (try dsimp only);omega) (by simp only [maxLen];omega) fun p1 c1 hp1=>?_)|(refine VSt.is ?_;refine VSt.is ?_;refine VSt.cast (off':=kn*1) (by first|omega|(dsimp only;omega)|rfl) (VSt.vec aT (bZ9 (f:=srV) (k:=1) (y:=⟨p1,c1,tr.l++[(k:Int)]⟩) (fun _=>rfl) htr (fT7 _ _ _ _)) rfl ?_))|(refine VSeq.go ?_)|(refine VB.is ?_;refine bX5 (by omega) fun _=>?_)|(refine VLd.is ?_;refine VLd.mk (.row aT (by rfl)) ?_)|(refine VSt.is ?_;refine VSt.row aT (by rfl) (by first|rfl|assumption) ?_)|(refine VNew.mk fun _=>?_)|(refine VAr.is ?_;refine oA ?_)|(refine VKeep.is ?_;refine VKeep.mk aH ?_)
   all_goals (conv=>whnf)
   refine VNext.mk (j+1,T2.set kn ⟨p1,c1,tr.l++[(k:Int)]⟩) ⟨by dsimp only;omega,?_,fun r hr=>?_⟩ (by dsimp only;omega) aE ?_
   ·dsimp only
    rw [hnx,<-hT2,List.map_set]
   ·rcases Qq hr with h|rfl
    ·exact hTk2 r h
    ·exact fun _=>hp1 (by omega)
   ·dsimp only
    refine HLe.permL ?_ (cH8 (f:=srE) aS (by omega))
    rw [dL7]
    exact aH
  have hje:j=rl.length:=by omega
  subst hje
  rw [fT1 hrgk] at hT2
  repeat' (conv=>whnf);first|(refine VSeq.go ?_)|(refine VB.is ?_;refine bZ2 (by omega) fun _=>?_)|(refine VAr.is ?_;refine oA ?_)
  all_goals (conv=>whnf)
  exact VNext.mk (k+1,T2) ⟨by dsimp only;omega,hT2,hTk2⟩ (by dsimp only;omega) aE aH
  -- >cut
 have hke:n=k:=by omega
 subst hke
 have hTl:T.length=ns:=by
  have:=congrArg List.length hT
  rw [qv,cK2] at this
  exact this
 have hTg:∀{q:Nat} {tr:SRow},T[q]? =some tr->tr.l=fT2 (bK0 RW n 0) (q:Int):=fun {q tr} htr=>by
  have h2:=congrArg (fun l=>l[q]?) hT
  have hq:=(qx.1 htr).1
  rw [qj,htr,cD3 (by omega)] at h2
  simpa using h2
 have hpk:=fun (q:Nat)=>gV0 (bK0 RW n 0) (q:Int)
 have hpk2:=hpl (k:=n) (j:=0) hk
 have hmr:=fun (q:Nat)=>bC4 hA (key:=(q:Int)) (by omega)
 have hcr:=fun (q:Nat) (t:Int) h=>cG4 hA (key:=(q:Int)) (t:=t) h
 have hmw:=hX.chip.mesh
 have hmesh:=hA.plan.chip.mesh
 have hfewK:=fun k=>bL4 X.N k
 have hkall:bK3 X.N ns=bX0 X.N:=by rw [<-hns];rfl
 have hsall:cT3 X.N X.C cores ns=dD3 X.N X.C cores:=by unfold cT3 dD3;rw [hkall]
 clear hT hge hpl
 repeat' (conv=>whnf);first|(refine VSeq.go ?_)|(refine VB.is ?_;refine bZ2 (by omega) fun _=>?_)|(refine VAr.is ?_;refine oA ?_)
 all_goals (conv=>whnf)
 refine VLoop.mk (α:=Nat×Option Addr×Nat) (fun z=>z.1<=ns/\(0<(bK3 X.N z.1).length->∃g,z.2.1=some ⟨g,0,none⟩))
  (fun z=>[(1000000,.tuple #[]),(2,.slice p cores.length c),(4,.pointer (some ⟨b4,0,none⟩)),(6,.pointer none),(7,.int .i64 0),(10,.pointer (some ⟨bm,0,none⟩)),(187,.slice (some ⟨gT,0,none⟩) ns ns),(188,.int .i64 (ns:Int)),(189,.int .i64 (z.1:Int))])
  (fun z=>.row b4 30 [.int .i64 X.C.mesh.wide,.int .i64 X.C.mesh.high,.int .i64 X.C.mesh.room,.int .i64 X.C.nr,.int .i64 X.C.sy,.int .i64 X.C.en,.int .i64 X.C.bits,.slice X.pd X.C.dead.length X.cd]::.row bm 135 [.int .i64 0,.map (some kb),.slice (some ⟨gc,0,none⟩) X.N.ps.length cc,.slice z.2.1 (bK3 X.N z.1).length z.2.2,.slice np X.N.ps.length nc,.int .i64 X.N.inputs,.slice none 0 0,.int .i64 X.C.mesh.wide,.int .i64 X.C.mesh.high,.int .i64 X.C.mesh.room,.slice y.pc X.N.ps.length y.cc,.slice y.ps X.N.ps.length y.cs,.slice y.y.pp X.N.ps.length y.y.cp,.int .i64 X.N.inputs,.slice y.y.ps X.N.syns.length y.y.cs,.slice (some ⟨gz,0,none⟩) X.N.ps.length y.y.cz,.slice y.y.pq X.N.syns.length y.y.cq,.slice y.y.pe X.N.ps.length y.y.ce,.bool (bQ9 X.N X.C.bits).exact,.slice (some ⟨gr,0,none⟩) n y.cr,.slice y.pt n y.ct,.slice (some ⟨gw,0,none⟩) ns y.cw,.int .i64 (bM9 X.N X.C cores:Int),.int .i64 (bJ7 ((bX0 X.N).map (bQ5 X.N X.C cores)):Int),.int .i64 (bW4 X.N X.C cores:Int),.int .i64 0,.int .i64 0,.int .i64 0,.int .i64 0,.int .i64 0,.int .i64 0,.int .i64 0,.int .i64 0,.int .i64 0]::.map kb (kmF 0 (K2.map (·.b)))::.vec np X.N.ps.length nc 140 8 (bQ1 bH3 X.N.ps)::.vec (some ⟨gr,0,none⟩) n y.cr 155 1 (bQ1 rrV y.rr)::.vec (some ⟨gz,0,none⟩) X.N.ps.length y.y.cz 3 1 (bQ1 bQ6 Z)::.vec (some ⟨gc,0,none⟩) X.N.ps.length cc 212 1 (bQ1 cpV (cs.map (·.b)))::.vec (some ⟨gT,0,none⟩) ns ns 28 1 (bQ1 srV (T))::.vec z.2.1 (bK3 X.N z.1).length z.2.2 217 3 (bQ1 kB4 (cT3 X.N X.C cores z.1))::(T.map srE++(cs.map bB6++(y.rr.map rrE++((K2).map fV4++((K2).map fV3++((K2).map fV5++((K2).flatMap fD0++HY)))))))) (fun z=>ns - z.1) (0,none,0) ⟨qB _,fun h=>absurd h (by rw [dT6];simp)⟩ aE ?_ ?_
 ·have e0:cT3 X.N X.C cores 0=[]:=rfl
  dsimp only
  rw [dT6,e0]
  dsimp only [List.length_nil,cN6]
  refine HLe.trans ?_ (HLe.nilv (e:=217) (size:=3) (.refl _))
  exact aH
 rintro ⟨k,sp,sc⟩ ⟨hk2,hsp⟩
 dsimp only at hk2 hsp ⊢
 rcases qy k ns with hlt|hge
 ·-- cut<
  obtain ⟨tr,htr⟩:∃tr,T[k]? =some tr:=⟨_,qq (by omega)⟩
  have htrl:=hTg htr
  have htk:=hTk tr (qz htr)
  have hfk:=hfewK k
  have hlen:tr.l.length<=8192:=by
   have:=hpk k
   rw [<-htrl] at this
   omega
  have hke:=gQ4 X.N k
  by_cases hn0:tr.l=[]
  ·have hno:¬∃s∈X.N.syns,bG1 X.N s.frm=(k:Int):=(htn (k:Int)).1 (by rw [<-htrl];exact hn0)
   rw [jk hno,qC] at hke
   have hs2:cT3 X.N X.C cores (k+1)=cT3 X.N X.C cores k:=by unfold cT3;rw [hke]
   have hl0:tr.l.length=0:=by rw [hn0];rfl
   repeat' (conv=>whnf);first|(refine VIx.is ?_;refine VIx.mk rfl (by omega) (by omega) ?_)|(refine VLd.is ?_;refine oC (.vec aT (bQ8 (f:=srV) (k:=1) (fun _=>rfl) htr rfl)) ?_)|(refine VSeq.go ?_)|(refine VB.is ?_;refine bX5 (by omega) fun _=>?_)|(refine VAr.is ?_;refine oA ?_)
   all_goals (conv=>whnf)
   refine VNext.mk (k+1,sp,sc) ⟨by dsimp only;omega,by dsimp only;rw [hke];exact hsp⟩ (by dsimp only;omega) aE ?_
   dsimp only
   rw [hke,hs2]
   exact aH
  ·have hl0:0<tr.l.length:=QI.2 hn0
   have hyes:∃s∈X.N.syns,bG1 X.N s.frm=(k:Int):=jg fun h=>hn0 (by rw [htrl];exact (htn (k:Int)).2 h)
   rw [jw hyes] at hke
   obtain ⟨hm,hhm⟩:∃hm:Nat,bJ2 X.N cores (k:Int)=(hm:Int):=⟨(bJ2 X.N cores (k:Int)).toNat,by have:=hmr k;omega⟩
   have hmk:=hmr k
   obtain ⟨TR,hTR⟩:=gX (bQ5 X.N X.C cores (k:Int))
   have hTRl:TR.length=n:=by rw [<-hTR];unfold bQ5;rw [bW2,hn]
   have hTRo:bF7 TR:=by rw [<-hTR];exact tree_ok _ _ _ _
   have htree:=htt (k:Int) (by omega)
   have hne:fT2 (bK0 RW n 0) (k:Int)≠[]:=by rw [<-htrl];exact hn0
   rw [<-htrl,hhm,hTR] at htree
   have hR:dV6 X.C.mesh (hm:Int) tr.l=(TR,0):=by
    have hz:bR0 X.C.mesh ((hm:Int)::tr.l)=0:=bC6.2 ⟨hmesh,fun x hx=>by
     rcases qQ.1 hx with rfl|hx
     ·rw [<-hhm];exact hmk
     ·rw [htrl] at hx
      exact hcr k x ((htm x (k:Int)).1 hx)⟩
    unfold dV6
    rw [hz,jk (by simp),jk hn0,<-htree]
    unfold bX1 at hn
    rw [hn]
   have hI64:∀x∈tr.l,I64 x:=fun x hx=>by
    rw [htrl] at hx
    have:=hcr k x ((htm x (k:Int)).1 hx)
    unfold I64;omega
   have hcall:=fun (p:Option Addr) (c b o:Nat) (w':World) h=>cV3 X.C.mesh hmw (hm:Int) (by unfold I64;omega) tr.l hI64 (by omega) p c b o w' h
   rw [hR] at hcall
   unfold cK4 at hcall
   have hsn:cT3 X.N X.C cores (k+1)=cT3 X.N X.C cores k++[⟨(k:Int),hm,bK7 TR⟩]:=by
    unfold cT3
    rw [hke,ql,qU]
    unfold hZ7
    rw [hhm,hTR,jf]
   have hhome:(k:Int)<cores.length->cores[k]? =some (hm:Int):=fun h=>by
    have h2:=hhm
    unfold bJ2 at h2
    rw [jw (by omega),jf] at h2
    obtain ⟨d,hd⟩:∃d,cores[k]? =some d:=⟨_,qq (by omega)⟩
    rw [hd,qY] at h2
    rw [hd,h2]
   have hhome2:¬(k:Int)<cores.length->hm=0:=fun h=>by
    have h2:=hhm
    unfold bJ2 at h2
    rw [jk (by omega)] at h2
    omega
   repeat' (conv=>whnf);first|(refine VSeq.is ?_;refine bF1 41 rfl ?_;refine VSeq.cut (at_:=41) (α:=Nat) (fun _=>True) (fun b26=>[(1000000,.tuple #[]),(2,.slice p cores.length c),(4,.pointer (some ⟨b4,0,none⟩)),(6,.pointer none),(7,.int .i64 0),(10,.pointer (some ⟨bm,0,none⟩)),(187,.slice (some ⟨gT,0,none⟩) ns ns),(188,.int .i64 (ns:Int)),(189,.int .i64 (k:Int)),(25,.slice tr.p tr.l.length tr.c),(26,.pointer (some ⟨b26,0,none⟩))]) (fun b26=>.row b26 217 [.int .i64 (k:Int),.int .i64 (hm:Int),.int .i64 0]::.row b4 30 [.int .i64 X.C.mesh.wide,.int .i64 X.C.mesh.high,.int .i64 X.C.mesh.room,.int .i64 X.C.nr,.int .i64 X.C.sy,.int .i64 X.C.en,.int .i64 X.C.bits,.slice X.pd X.C.dead.length X.cd]::.row bm 135 [.int .i64 0,.map (some kb),.slice (some ⟨gc,0,none⟩) X.N.ps.length cc,.slice sp (bK3 X.N k).length sc,.slice np X.N.ps.length nc,.int .i64 X.N.inputs,.slice none 0 0,.int .i64 X.C.mesh.wide,.int .i64 X.C.mesh.high,.int .i64 X.C.mesh.room,.slice y.pc X.N.ps.length y.cc,.slice y.ps X.N.ps.length y.cs,.slice y.y.pp X.N.ps.length y.y.cp,.int .i64 X.N.inputs,.slice y.y.ps X.N.syns.length y.y.cs,.slice (some ⟨gz,0,none⟩) X.N.ps.length y.y.cz,.slice y.y.pq X.N.syns.length y.y.cq,.slice y.y.pe X.N.ps.length y.y.ce,.bool (bQ9 X.N X.C.bits).exact,.slice (some ⟨gr,0,none⟩) n y.cr,.slice y.pt n y.ct,.slice (some ⟨gw,0,none⟩) ns y.cw,.int .i64 (bM9 X.N X.C cores:Int),.int .i64 (bJ7 ((bX0 X.N).map (bQ5 X.N X.C cores)):Int),.int .i64 (bW4 X.N X.C cores:Int),.int .i64 0,.int .i64 0,.int .i64 0,.int .i64 0,.int .i64 0,.int .i64 0,.int .i64 0,.int .i64 0,.int .i64 0]::.map kb (kmF 0 (K2.map (·.b)))::.vec np X.N.ps.length nc 140 8 (bQ1 bH3 X.N.ps)::.vec (some ⟨gr,0,none⟩) n y.cr 155 1 (bQ1 rrV y.rr)::.vec (some ⟨gz,0,none⟩) X.N.ps.length y.y.cz 3 1 (bQ1 bQ6 Z)::.vec (some ⟨gc,0,none⟩) X.N.ps.length cc 212 1 (bQ1 cpV (cs.map (·.b)))::.vec (some ⟨gT,0,none⟩) ns ns 28 1 (bQ1 srV (T))::.vec sp (bK3 X.N k).length sc 217 3 (bQ1 kB4 (cT3 X.N X.C cores k))::(T.map srE++(cs.map bB6++(y.rr.map rrE++((K2).map fV4++((K2).map fV3++((K2).map fV5++((K2).flatMap fD0++HY)))))))) ?_ ?_)|(refine VIx.is ?_;refine VIx.mk rfl (by omega) (by omega) ?_)|(refine VLd.is ?_;refine oC (.vec aT (bQ8 (f:=srV) (k:=1) (fun _=>rfl) htr rfl)) ?_)|(refine VIx.is ?_;refine VIx.mk (h1.ptr (by omega)) (by omega) (by omega) ?_)|(refine VLd.is ?_;refine oC (h1.rd0 (by simp) (fun _=>rfl) (hhome (by omega)) rfl) ?_)|(refine VSeq.go ?_)|(refine VB.is ?_;refine bX5 (by omega) fun _=>?_)|(refine VB.is ?_;refine bZ2 (by omega) fun _=>?_)|(refine VB.split (fun _=>?_) (fun _=>?_))|(refine VSt.is ?_;refine VSt.row aT (by rfl) (by first|rfl|assumption) ?_)|(refine VNew.mk fun _=>?_)
   all_goals (conv=>whnf)
   any_goals first
    |exact VMid.mk _ trivial aE aH
    |(have h0:=hhome2 (by omega);subst h0;exact VMid.mk _ trivial aE aH)
   rintro b26 _
   dsimp only
   repeat' (conv=>whnf);first|(refine bQ0 22 ?_;(refine bQ2 (fun w' hw'=>Exists.elim (hZ6 hw' aS htr) fun bq hq=>hcall tr.p tr.c bq 0 w' hq) ?_;rintro ⟨tp,tc⟩ htp;dsimp only at htp))|(refine VSeq.go ?_)|(refine VLd.is ?_;refine VLd.mk (.row aT (by rfl)) ?_)
   all_goals (conv=>whnf)
   obtain ⟨gt2,rfl⟩:=htp (by omega)
   rw [hTRl]
   refine VLoop.mk (α:=Nat) (fun i=>i<=n) (fun i=>[(1000000,.tuple #[]),(2,.slice p cores.length c),(4,.pointer (some ⟨b4,0,none⟩)),(6,.pointer none),(7,.int .i64 0),(10,.pointer (some ⟨bm,0,none⟩)),(187,.slice (some ⟨gT,0,none⟩) ns ns),(188,.int .i64 (ns:Int)),(189,.int .i64 (k:Int)),(26,.pointer (some ⟨b26,0,none⟩)),(217,.slice (some ⟨gt2,0,none⟩) n tc),(218,.int .i64 (n:Int)),(219,.int .i64 (i:Int))])
    (fun i=>.row b26 217 [.int .i64 (k:Int),.int .i64 (hm:Int),.int .i64 (bK7 (TR.take i):Int)]::.vec (some ⟨gt2,0,none⟩) n tc 3 1 (bQ1 bQ6 TR)::.row b4 30 [.int .i64 X.C.mesh.wide,.int .i64 X.C.mesh.high,.int .i64 X.C.mesh.room,.int .i64 X.C.nr,.int .i64 X.C.sy,.int .i64 X.C.en,.int .i64 X.C.bits,.slice X.pd X.C.dead.length X.cd]::.row bm 135 [.int .i64 0,.map (some kb),.slice (some ⟨gc,0,none⟩) X.N.ps.length cc,.slice sp (bK3 X.N k).length sc,.slice np X.N.ps.length nc,.int .i64 X.N.inputs,.slice none 0 0,.int .i64 X.C.mesh.wide,.int .i64 X.C.mesh.high,.int .i64 X.C.mesh.room,.slice y.pc X.N.ps.length y.cc,.slice y.ps X.N.ps.length y.cs,.slice y.y.pp X.N.ps.length y.y.cp,.int .i64 X.N.inputs,.slice y.y.ps X.N.syns.length y.y.cs,.slice (some ⟨gz,0,none⟩) X.N.ps.length y.y.cz,.slice y.y.pq X.N.syns.length y.y.cq,.slice y.y.pe X.N.ps.length y.y.ce,.bool (bQ9 X.N X.C.bits).exact,.slice (some ⟨gr,0,none⟩) n y.cr,.slice y.pt n y.ct,.slice (some ⟨gw,0,none⟩) ns y.cw,.int .i64 (bM9 X.N X.C cores:Int),.int .i64 (bJ7 ((bX0 X.N).map (bQ5 X.N X.C cores)):Int),.int .i64 (bW4 X.N X.C cores:Int),.int .i64 0,.int .i64 0,.int .i64 0,.int .i64 0,.int .i64 0,.int .i64 0,.int .i64 0,.int .i64 0,.int .i64 0]::.map kb (kmF 0 (K2.map (·.b)))::.vec np X.N.ps.length nc 140 8 (bQ1 bH3 X.N.ps)::.vec (some ⟨gr,0,none⟩) n y.cr 155 1 (bQ1 rrV y.rr)::.vec (some ⟨gz,0,none⟩) X.N.ps.length y.y.cz 3 1 (bQ1 bQ6 Z)::.vec (some ⟨gc,0,none⟩) X.N.ps.length cc 212 1 (bQ1 cpV (cs.map (·.b)))::.vec (some ⟨gT,0,none⟩) ns ns 28 1 (bQ1 srV (T))::.vec sp (bK3 X.N k).length sc 217 3 (bQ1 kB4 (cT3 X.N X.C cores k))::(T.map srE++(cs.map bB6++(y.rr.map rrE++((K2).map fV4++((K2).map fV3++((K2).map fV5++((K2).flatMap fD0++HY)))))))) (fun i=>n - i) 0 (qB _) aE ?_ ?_
   ·have e0:bK7 (TR.take 0)=0:=rfl
    dsimp only
    rw [e0]
    exact aH
   intro i hi
   dsimp only
   rcases qy i n with hil|hig
   ·obtain ⟨v,hv⟩:∃v,TR[i]? =some v:=⟨_,qq (by omega)⟩
    have hv2:=hTRo v (qz hv)
    have hbl:=fL9 hv2
    have hlt2:=dF8 hv
    have hle:=hF2 TR i
    have hleT:bK7 (TR.take i)<=4*n:=by rw [<-hTRl];exact hle
    have hlv:cX5 v<=4:=qT (p:=fun b=>decide (bH9 v b)) (l:=([1,2,4,8]:List Int))
    repeat' (conv=>whnf);first|(refine VIx.is ?_;refine VIx.mk rfl (by omega) (by omega) ?_)|(refine VLd.is ?_;refine oC (.vec aT (bQ8 (f:=bQ6) (k:=1) (fun _=>rfl) hv rfl)) ?_)|(refine VBit.is ?_;refine VBit.is ?_;refine dP5 (by omega) (by omega) ?_;rw [hF3])|(refine VSeq.go ?_)|(refine VB.is ?_;refine bX5 (by omega) fun _=>?_)
    all_goals (conv=>whnf)
    refine VLoop.mk (α:=Int×Nat) (fun z=>(0<=z.1/\z.1<16)/\z.2+cX5 z.1=bK7 (TR.take i)+cX5 v) (fun z=>[(1000000,.tuple #[]),(2,.slice p cores.length c),(4,.pointer (some ⟨b4,0,none⟩)),(6,.pointer none),(7,.int .i64 0),(10,.pointer (some ⟨bm,0,none⟩)),(187,.slice (some ⟨gT,0,none⟩) ns ns),(188,.int .i64 (ns:Int)),(189,.int .i64 (k:Int)),(26,.pointer (some ⟨b26,0,none⟩)),(30,.int .i64 z.1),(217,.slice (some ⟨gt2,0,none⟩) n tc),(218,.int .i64 (n:Int)),(219,.int .i64 (i:Int))])
     (fun z=>.row b26 217 [.int .i64 (k:Int),.int .i64 (hm:Int),.int .i64 (z.2:Int)]::.vec (some ⟨gt2,0,none⟩) n tc 3 1 (bQ1 bQ6 TR)::.row b4 30 [.int .i64 X.C.mesh.wide,.int .i64 X.C.mesh.high,.int .i64 X.C.mesh.room,.int .i64 X.C.nr,.int .i64 X.C.sy,.int .i64 X.C.en,.int .i64 X.C.bits,.slice X.pd X.C.dead.length X.cd]::.row bm 135 [.int .i64 0,.map (some kb),.slice (some ⟨gc,0,none⟩) X.N.ps.length cc,.slice sp (bK3 X.N k).length sc,.slice np X.N.ps.length nc,.int .i64 X.N.inputs,.slice none 0 0,.int .i64 X.C.mesh.wide,.int .i64 X.C.mesh.high,.int .i64 X.C.mesh.room,.slice y.pc X.N.ps.length y.cc,.slice y.ps X.N.ps.length y.cs,.slice y.y.pp X.N.ps.length y.y.cp,.int .i64 X.N.inputs,.slice y.y.ps X.N.syns.length y.y.cs,.slice (some ⟨gz,0,none⟩) X.N.ps.length y.y.cz,.slice y.y.pq X.N.syns.length y.y.cq,.slice y.y.pe X.N.ps.length y.y.ce,.bool (bQ9 X.N X.C.bits).exact,.slice (some ⟨gr,0,none⟩) n y.cr,.slice y.pt n y.ct,.slice (some ⟨gw,0,none⟩) ns y.cw,.int .i64 (bM9 X.N X.C cores:Int),.int .i64 (bJ7 ((bX0 X.N).map (bQ5 X.N X.C cores)):Int),.int .i64 (bW4 X.N X.C cores:Int),.int .i64 0,.int .i64 0,.int .i64 0,.int .i64 0,.int .i64 0,.int .i64 0,.int .i64 0,.int .i64 0,.int .i64 0]::.map kb (kmF 0 (K2.map (·.b)))::.vec np X.N.ps.length nc 140 8 (bQ1 bH3 X.N.ps)::.vec (some ⟨gr,0,none⟩) n y.cr 155 1 (bQ1 rrV y.rr)::.vec (some ⟨gz,0,none⟩) X.N.ps.length y.y.cz 3 1 (bQ1 bQ6 Z)::.vec (some ⟨gc,0,none⟩) X.N.ps.length cc 212 1 (bQ1 cpV (cs.map (·.b)))::.vec (some ⟨gT,0,none⟩) ns ns 28 1 (bQ1 srV (T))::.vec sp (bK3 X.N k).length sc 217 3 (bQ1 kB4 (cT3 X.N X.C cores k))::(T.map srE++(cs.map bB6++(y.rr.map rrE++((K2).map fV4++((K2).map fV3++((K2).map fV5++((K2).flatMap fD0++HY)))))))) (fun z=>z.1.toNat) (bT1 v 16,bK7 (TR.take i)) ⟨by omega,by dsimp only;omega⟩ aE aH ?_
    rintro ⟨o,cnt⟩ ⟨ho,hcnt⟩
    dsimp only at ho hcnt ⊢
    rcases Int.lt_or_le 0 o with hol|hog
    ·have hlow:=hF1 ⟨hol,ho.2⟩
     have hlE:((o.toNat&&&(o - 1).toNat:Nat):Int)=cN3 o:=by unfold cN3;rw [show (o - 1).toNat=o.toNat - 1 by omega]
     repeat' (conv=>whnf);first|(refine VBit.is ?_;refine VBit.is ?_;refine VBit.and (by omega) (by omega) ?_;rw [hlE])|(refine VSeq.go ?_)|(refine VB.is ?_;refine bX5 (by omega) fun _=>?_)|(refine VLd.is ?_;refine VLd.mk (.row aT (by rfl)) ?_)|(refine VSt.is ?_;refine VSt.row aT (by rfl) (by first|rfl|assumption) ?_)|(refine VAr.is ?_;refine oA ?_)
     all_goals (conv=>whnf)
     exact VNext.mk (cN3 o,cnt+1) ⟨by dsimp only;omega,by dsimp only;omega⟩ (by dsimp only;omega) aE aH
    ·have ho0:o=0:=by omega
     subst ho0
     rw [gC4] at hcnt
     have hcE:cnt=bK7 (TR.take (i+1)):=by omega
     subst hcE
     repeat' (conv=>whnf);first|(refine VSeq.go ?_)|(refine VB.is ?_;refine bZ2 (by omega) fun _=>?_)|(refine VAr.is ?_;refine oA ?_)
     all_goals (conv=>whnf)
     exact VNext.mk (i+1) (by omega) (by omega) aE aH
   have hie:n=i:=by omega
   subst hie
   have hfull:TR.take n=TR:=qe (by omega)
   rw [hfull]
   have hke1:(bK3 X.N (k+1)).length=(bK3 X.N k).length+1:=by rw [hke,qw,qM]
   repeat' (conv=>whnf);first|(refine VHs.is ?_;refine VHs.is ?_;refine VHs.mk [.row bm 135 [.int .i64 0,.map (some kb),.slice (some ⟨gc,0,none⟩) X.N.ps.length cc,.slice sp (bK3 X.N k).length sc,.slice np X.N.ps.length nc,.int .i64 X.N.inputs,.slice none 0 0,.int .i64 X.C.mesh.wide,.int .i64 X.C.mesh.high,.int .i64 X.C.mesh.room,.slice y.pc X.N.ps.length y.cc,.slice y.ps X.N.ps.length y.cs,.slice y.y.pp X.N.ps.length y.y.cp,.int .i64 X.N.inputs,.slice y.y.ps X.N.syns.length y.y.cs,.slice (some ⟨gz,0,none⟩) X.N.ps.length y.y.cz,.slice y.y.pq X.N.syns.length y.y.cq,.slice y.y.pe X.N.ps.length y.y.ce,.bool (bQ9 X.N X.C.bits).exact,.slice (some ⟨gr,0,none⟩) n y.cr,.slice y.pt n y.ct,.slice (some ⟨gw,0,none⟩) ns y.cw,.int .i64 (bM9 X.N X.C cores:Int),.int .i64 (bJ7 ((bX0 X.N).map (bQ5 X.N X.C cores)):Int),.int .i64 (bW4 X.N X.C cores:Int),.int .i64 0,.int .i64 0,.int .i64 0,.int .i64 0,.int .i64 0,.int .i64 0,.int .i64 0,.int .i64 0,.int .i64 0],.row b26 217 [.int .i64 (k:Int),.int .i64 (hm:Int),.int .i64 (bK7 TR:Int)]] aH ?_)|(refine VAp.is ?_;refine VAp.is ?_;refine VAp.own aT (.at_ (.vec aT rfl)) (by simp [Value.oneCell']) (by (try dsimp only);omega) (by simp only [maxLen];omega) fun p1 c1 hp1=>?_)|(refine VSeq.go ?_)|(refine VB.is ?_;refine bZ2 (by omega) fun _=>?_)|(refine VLd.is ?_;refine VLd.mk (.row aT (by rfl)) ?_)|(refine VSt.is ?_;refine VSt.row aT (by rfl) (by first|rfl|assumption) ?_)|(refine VNew.mk fun _=>?_)|(refine VAr.is ?_;refine oA ?_)|(refine VKeep.is ?_;refine VKeep.mk aH ?_)
   all_goals (conv=>whnf)
   refine VNext.mk (k+1,p1,c1) ⟨by dsimp only;omega,fun _=>hp1 (by omega)⟩ (by dsimp only;omega) aE ?_
   dsimp only
   rw [hke1,hsn,bQ7]
   exact aH
  -- >cut
 have hke:ns=k:=by omega
 subst hke
 have hcb:∀(r:Nat) (k':CorM),K2[r]? =some k'->k'.l=(bH5 cores (r:Int)).map (fun i=>((cs.map (·.b))[i]?).getD 0)/\(∀key,kl k'.R key=bS8 X.N X.C cores (r:Int) key)/\(0<k'.l.length->∃g,k'.p=some ⟨g,0,none⟩)/\∀x∈k'.R,∃g,x.p=some ⟨g,0,none⟩:=fun r k' h=>by
  obtain ⟨e1,e2,e3,e4⟩:=hK2 r k' h
  refine ⟨?_,e2,e3,e4⟩
  rw [e1,hcse,<-hcl]
  rfl
 rw [hkall,hsall]
 repeat' (conv=>whnf);first|(refine VSeq.go ?_)|(refine VB.is ?_;refine bZ2 (by omega) fun _=>?_)|(refine VAr.is ?_;refine oA ?_)
 all_goals (conv=>whnf)
 refine ⟨fun w' hw'=>⟨⟨y,bm,kb,np,nc,K2,cs,gc,cc,sp,sc⟩,rfl,⟨⟨hrows,htb,hokR,hokT,⟨gr,hgr⟩,⟨gt,hgt⟩,⟨gw,hgw⟩,⟨gz,hgz⟩⟩,by rw [hn];exact hK2l,hcb,hcse,fun i c hc=>by rw [hZ];exact hcel i c hc⟩,hw'.le ?_⟩⟩
 unfold cM7 bV1 bC3 hR6
 dsimp only
 rw [hHY,hn,hns,hZ,hgr,hgw,hgz]
 exact aH
end Go.Proofs
