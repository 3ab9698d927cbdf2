import Derived.Test.YtlbekjokdlkghaaGreatChipMovesRuf
import Derived.Test.YtlbekjokdlkghaaGreatChipMovesRul
set_option linter.unusedVariables false
set_option linter.unusedSimpArgs false
set_option maxHeartbeats 4000000
namespace Go.Proofs
open Go Go.Vx Go.Gm
structure RunAt (n:Nat) (x:RunX) (st:RunZ):Prop where
 ok:RunOk x st
 len:x.mo.length=n
 few:∀y∈x.mo,y.1<=65536/\y.2<=65536
set_option maxHeartbeats 8000000 in
theorem fL2 (c:RCtx)(hc:RCtxOk c)(hs:SpcOk c.s)(hn:(c.n:Int)=c.s.wide*c.s.high)(tt:List ERow)(htabs:c.tabs=tt.map (·.l))(htn:tt.length=c.n)(pt:Option Addr)(ct bt ot:Nat)(w:World)(hts:Sl w erV 1 tt pt tt.length bt ot)(htt:∀z∈tt,∃b o,Sl w bY1 3 z.l z.p z.l.length b o)(htl:∀z∈tt,z.l.length<=1024/\∀e∈z.l,EtyOk e)
  (hpk:c.pk.length<=1024) (hpos:0<c.pk.length) (pl:Option Addr) (cl bl ol:Nat) (hpl:Sl w pkV 4 c.pk pl c.pk.length bl ol) (hsrc:∀u∈c.pk,(u.src:Int)<c.s.wide*c.s.high/\0<=u.key/\u.key<=65535) (hout:∀p r,0<=c.outs p r/\c.outs p r<32)
  (T:Nat) (hT:T<=10000) (hdone:RunDone c (cL6 c.s c.tabs c.pk c.n T)):
  Calls Tryz.prog 147 #[.agg (cK4 c.s).toArray,.slice pt tt.length ct,.slice pl c.pk.length cl,.int .i64 (T:Int)] w fun e w'=>∃z:Option Addr×Nat×Nat,e=.returned (.tuple #[.agg #[.slice z.1 (cL6 c.s c.tabs c.pk c.n T).arr.length z.2.1,.slice none 0 0,.slice (some ⟨z.2.2,0,none⟩) c.n c.n,.int .i64 0],.int .i64 0])/\St w [] [.vec z.1 (cL6 c.s c.tabs c.pk c.n T).arr.length z.2.1 289 3 (bQ1 arV (cL6 c.s c.tabs c.pk c.n T).arr)] w':=by
 have ha:=cD7 hs
 have hw:=hs.wide
 have hhh:=hs.high
 have hrm2:=hs.room
 have hct:=fun (w':World) h1 h2=>dB5 c.s hs tt (by omega) pt ct bt ot w' h1 h2 htl
 have hcp:=fun (w':World) h1=>dZ6 c.s hs c.pk hpk pl cl bl ol w' h1 hsrc
 refine enter (C:=Tryz.cx) (F:=lH8) (args:=[_,_,_,_]) Tryz.func147 rfl rfl rfl lL9 (St.start w []) ?_
 unfold cK4 at hct hcp ⊢
 have hout5:∀j:Nat,j<5->sub [.int .i64 1,.int .i64 2,.int .i64 4,.int .i64 8,.int .i64 16] (j*1) 1=some [.int .i64 (bK1 j)]:=fun j hj=>by
  rcases j with _|_|_|_|_|j
  ·rfl
  ·rfl
  ·rfl
  ·rfl
  ·rfl
  ·omega
 have hrep:=bV3 (f:=moV) (x:=((0,0):Nat×Nat)) c.n
 repeat' (conv=>whnf);first|(refine VNew.mk fun bn=>?_)|(refine bQ0 196 ?_;(refine bQ4 (fun w' hw'=>hct w' (hts.keep hw' (by simp)) (fun z hz=>(htt z hz).elim fun b h=>h.elim fun o h=>⟨b,o,h.keep hw' (by simp)⟩)) ?_))|(refine bQ0 197 ?_;(refine bQ4 (fun w' hw'=>hcp w' (hpl.keep hw' (by simp))) ?_))|(refine VAr.is ?_;refine VAr.is ?_;refine VAr.mul hn.symm (by omega) (by omega) ?_)|(refine VMk.is ?_;refine VMk.mk (by omega) (by omega) (by (try dsimp only);omega) (by omega) fun mb=>?_)|(refine VSeq.go ?_)|(refine VB.is ?_;refine bZ2 (by omega) fun _=>?_)|(refine VLd.is ?_;refine VLd.mk (.row aT (by rfl)) ?_)|(refine VSt.is ?_;refine VSt.row aT (by rfl) (by first|rfl|assumption) ?_)
 all_goals (conv=>whnf)
 rename_i b4 b8 q1 q2 q3 q4 sb qb cb
 refine VLoop.mk (α:=Nat×Option Addr×Nat) (fun x=>x.1<=c.pk.length/\(0<x.1->∃g,x.2.1=some ⟨g,0,none⟩)) (fun x=>[(1000000,.tuple #[]),(1,.slice pt tt.length ct),(3,.int .i64 (T:Int)),(8,.pointer (some ⟨b8,0,none⟩)),(9,.int .i64 0),(12,.pointer (some ⟨bn,0,none⟩)),(63,.slice pl c.pk.length cl),(64,.int .i64 (c.pk.length:Int)),(65,.int .i64 (x.1:Int))])
  (fun x=>.row b8 285 [.slice none 0 0,.slice none 0 0,.slice none 0 0,.int .i64 0]::.row bn 369 [.int .i64 c.s.wide,.int .i64 c.s.high,.int .i64 c.s.room,.slice pt tt.length ct,.slice pl c.pk.length cl,.map (some sb),.map (some qb),.map (some cb),.slice none 0 0,.slice none 0 0,.slice (some ⟨mb,0,none⟩) c.n c.n,.int .i64 0]::.mapk qb []::.mapk cb []::.vec (some ⟨mb,0,none⟩) c.n c.n 390 2 (bQ1 moV (List.replicate c.n (0,0)))::.map sb (if x.1=0 then [] else [(0,.slice x.2.1 x.1 x.2.2)])::[.vec x.2.1 x.1 x.2.2 3 1 (bQ1 nV (List.range x.1))]) (fun x=>c.pk.length - x.1) (0,none,0) ⟨qB _,fun h=>absurd h (by simp)⟩ aE ?_ ?_
 ·dsimp only
  rw [jw rfl,<-hrep]
  refine HLe.trans ?_ (HLe.nilv (e:=3) (size:=1) (.refl _))
  exact aH
 rintro ⟨i,q,cs⟩ ⟨hi,hq⟩
 dsimp only at hi hq ⊢
 rcases qy i c.pk.length with hlt|hge
 ·obtain ⟨u,hu⟩:=hpl.get hlt
  have hvu:sub (pkV u) 0 4=some [.int .i64 0,.int .i64 (u.src:Int),.int .i64 u.key,.int .i64 0]:=rfl
  have hrg:bQ1 nV (List.range (i+1))=bQ1 nV (List.range i)++[.int .i64 (i:Int)]:=by rw [Qz,bQ7];rfl
  rcases Nat.eq_zero_or_pos i with hi0|hi0
  ·rw [jw hi0]
   repeat' (conv=>whnf);first|(refine VIx.is ?_;refine VIx.mk (hpl.ptr (by omega)) (by omega) (by omega) ?_)|(refine VLd.is ?_;refine oC (hpl.rd0 (by simp) (fun _=>rfl) hu hvu) ?_)|(refine VNew.mk fun b14=>?_)|(refine VMp.is ?_;refine VMp.is ?_;refine VMp.mk aT ?_)|(refine VLk.is ?_;refine VLk.is ?_;refine VLk.lacks rfl ?_)|(refine VAp.is ?_;refine VAp.nil rfl rfl rfl (.at_ (.vec aT rfl)) (by simp [Value.oneCell']) (by (try dsimp only);omega) (by simp only [maxLen];omega) fun p' c' hp'=>?_)|(refine VMpU.is ?_;refine VMpU.is ?_;refine VMpU.mk aT ?_)|(refine VSeq.go ?_)|(refine VB.is ?_;refine bX5 (by omega) fun _=>?_)|(refine VLd.is ?_;refine VLd.mk (.row aT (by rfl)) ?_)|(refine VSt.is ?_;refine VSt.row aT (by rfl) (by first|rfl|assumption) ?_)|(refine VAr.is ?_;refine oA ?_)|(refine VKeep.is ?_;refine VKeep.mk aH ?_)|(refine VHs.mk _ (.refl _) ?_)
   all_goals (conv=>whnf)
   refine VNext.mk (i+1,p',c') ⟨by dsimp only;omega,fun _=>hp' (by omega)⟩ (by dsimp only;omega) aE ?_
   dsimp only
   rw [jk (by omega),hrg]
   subst hi0
   exact aH
  ·rw [jk (by omega)]
   repeat' (conv=>whnf);first|(refine VIx.is ?_;refine VIx.mk (hpl.ptr (by omega)) (by omega) (by omega) ?_)|(refine VLd.is ?_;refine oC (hpl.rd0 (by simp) (fun _=>rfl) hu hvu) ?_)|(refine VHs.is ?_;refine VHs.is ?_;refine VHs.mk [.row b14 291 [.int .i64 0,.int .i64 (u.src:Int),.int .i64 u.key,.int .i64 0],.row bn 369 [.int .i64 c.s.wide,.int .i64 c.s.high,.int .i64 c.s.room,.slice pt tt.length ct,.slice pl c.pk.length cl,.map (some sb),.map (some qb),.map (some cb),.slice none 0 0,.slice none 0 0,.slice (some ⟨mb,0,none⟩) c.n c.n,.int .i64 0],.map sb [(0,.slice q i cs)]] aH ?_)|(refine VNew.mk fun b14=>?_)|(refine VMp.is ?_;refine VMp.is ?_;refine VMp.mk aT ?_)|(refine VLk.is ?_;refine VLk.is ?_;refine VLk.has rfl ?_)|(refine VAp.is ?_;refine VAp.own aT (.at_ (.vec aT rfl)) (by simp [Value.oneCell']) (by (try dsimp only);omega) (by simp only [maxLen];omega) fun p' c' hp'=>?_)|(refine VMpU.is ?_;refine VMpU.is ?_;refine VMpU.mk aT ?_)|(refine VSeq.go ?_)|(refine VB.is ?_;refine bX5 (by omega) fun _=>?_)|(refine VLd.is ?_;refine VLd.mk (.row aT (by rfl)) ?_)|(refine VSt.is ?_;refine VSt.row aT (by rfl) (by first|rfl|assumption) ?_)|(refine VAr.is ?_;refine oA ?_)|(refine VKeep.is ?_;refine VKeep.mk aH ?_)
   all_goals (conv=>whnf)
   refine VNext.mk (i+1,p',c') ⟨by dsimp only;omega,fun _=>hp' (by omega)⟩ (by dsimp only;omega) aE ?_
   dsimp only
   rw [jk (by omega),hrg]
   exact aH
 have hil:i=c.pk.length:=by omega
 subst hil
 obtain ⟨gs,rfl⟩:=hq hpos
 rw [jk (by omega)]
 repeat' (conv=>whnf);first|(refine VSeq.go ?_)|(refine VB.is ?_;refine bZ2 (by omega) fun _=>?_)|(refine VAr.is ?_;refine oA ?_)
 all_goals (conv=>whnf)
 refine VLoop.mk (α:=Nat×RunX) (fun y=>y.1<=T/\RunAt c.n y.2 (cL6 c.s c.tabs c.pk c.n y.1)) (fun y=>[(1000000,.tuple #[]),(1,.slice pt tt.length ct),(8,.pointer (some ⟨b8,0,none⟩)),(9,.int .i64 0),(12,.pointer (some ⟨bn,0,none⟩)),(87,.int .i64 (T:Int)),(88,.int .i64 (y.1:Int))]) (fun y=>.row bn 369 [.int .i64 c.s.wide,.int .i64 c.s.high,.int .i64 c.s.room,.slice pt tt.length ct,.slice pl c.pk.length cl,.map (some sb),.map (some qb),.map (some cb),.slice y.2.pa (cL6 c.s c.tabs c.pk c.n y.1).arr.length y.2.ca,.slice none 0 0,.slice (some ⟨mb,0,none⟩) c.n c.n,.int .i64 0]::.mapk qb y.2.m::(y.2.qs.flatMap qeH++(.mapk cb y.2.cm::.vec y.2.pa (cL6 c.s c.tabs c.pk c.n y.1).arr.length y.2.ca 289 3 (bQ1 arV (cL6 c.s c.tabs c.pk c.n y.1).arr)::.vec (some ⟨mb,0,none⟩) c.n c.n 390 2 (bQ1 moV y.2.mo)::.map sb [(0,.slice (some ⟨gs,0,none⟩) c.pk.length cs)]::.vec (some ⟨gs,0,none⟩) c.pk.length cs 3 1 (bQ1 nV (List.range c.pk.length))::[.row b8 285 [.slice none 0 0,.slice none 0 0,.slice none 0 0,.int .i64 0]]))) (fun y=>T - y.1)
  (0,⟨[],[],[],none,0,List.replicate c.n (0,0)⟩) ⟨qB _,⟨MapF.nil.congr fun _=>rfl,QRep.nil,MapF.nil.congr fun z=>by show (if _ then _ else _)=_;split<;>rfl⟩,Qn,fun y hy=>by rw [QM hy];exact ⟨by omega,by omega⟩⟩ aE ?_ ?_
 ·have e0:cL6 c.s c.tabs c.pk c.n 0=hT9:=rfl
  refine HLe.trans ?_ (HLe.nilv (e:=289) (size:=3) (.refl _))
  dsimp only
  rw [e0]
  dsimp only [hT9,List.flatMap_nil,List.length_nil,cN6]
  exact aH
 rintro ⟨k,x⟩ ⟨hk,hx⟩
 dsimp only at hk hx ⊢
 rcases qy k T with hlt|hge
 ·repeat' (conv=>whnf);first|(refine VSeq.go ?_)|(refine VB.is ?_;refine bX5 (by omega) fun _=>?_)
  all_goals (conv=>whnf)
  refine VLoop.mk (α:=Nat×RunX) (fun y=>y.1<=c.n/\RunAt c.n y.2 (fX7 c k y.1)) (fun y=>[(1000000,.tuple #[]),(1,.slice pt tt.length ct),(8,.pointer (some ⟨b8,0,none⟩)),(9,.int .i64 0),(12,.pointer (some ⟨bn,0,none⟩)),(87,.int .i64 (T:Int)),(15,.int .i64 (k:Int)),(88,.int .i64 (k:Int)),(92,.int .i64 (tt.length:Int)),(93,.int .i64 (y.1:Int))]) (fun y=>.row bn 369 [.int .i64 c.s.wide,.int .i64 c.s.high,.int .i64 c.s.room,.slice pt tt.length ct,.slice pl c.pk.length cl,.map (some sb),.map (some qb),.map (some cb),.slice y.2.pa (fX7 c k y.1).arr.length y.2.ca,.slice none 0 0,.slice (some ⟨mb,0,none⟩) c.n c.n,.int .i64 0]::.mapk qb y.2.m::(y.2.qs.flatMap qeH++(.mapk cb y.2.cm::.vec y.2.pa (fX7 c k y.1).arr.length y.2.ca 289 3 (bQ1 arV (fX7 c k y.1).arr)::.vec (some ⟨mb,0,none⟩) c.n c.n 390 2 (bQ1 moV y.2.mo)::.map sb [(0,.slice (some ⟨gs,0,none⟩) c.pk.length cs)]::.vec (some ⟨gs,0,none⟩) c.pk.length cs 3 1 (bQ1 nV (List.range c.pk.length))::[.row b8 285 [.slice none 0 0,.slice none 0 0,.slice none 0 0,.int .i64 0]]))) (fun y=>c.n - y.1)
   (0,x) ⟨qB _,hx⟩ aE aH ?_
  rintro ⟨j,x2⟩ ⟨hj,hx2⟩
  dsimp only at hj hx2 ⊢
  rcases qy j c.n with hjl|hjg
  ·repeat' (conv=>whnf);first|(refine bQ0 199 ?_;refine VCall.inl (F:=lG7) Tryz.func199 rfl rfl rfl lR8 ?_)|(refine VNew.mk fun bb=>?_)|(refine VSeq.go ?_)|(refine VB.is ?_;refine bX5 (by omega) fun _=>?_)
   all_goals (conv=>whnf)
   rename_i q1 b3 b4
   have hone1:bK6 [.int .i64 c.s.wide,.int .i64 c.s.high,.int .i64 c.s.room,.slice pt tt.length ct,.map (some qb),.slice x2.pa (fX7 c k j).arr.length x2.ca,.slice none 0 0,.slice (some ⟨mb,0,none⟩) c.n c.n,.int .i64 0]=true:=rfl
   have hmf:k≠0\/c.pk.length=0->bZ4 [((0:Int),Value.slice (some ⟨gs,0,none⟩) c.pk.length cs)] (k:Int)=none:=fun h=>by
    have h0:¬(0:Int)=(k:Int):=by omega
    unfold bZ4
    rw [jk h0]
    rfl
   have hlen:=kL0 hc k j
   have hcl:inL (fX7 c k j).co c.pk k j=hH9 c k j:=rfl
   refine gR4 (.int .i64 c.s.wide) (.int .i64 c.s.high) (.int .i64 c.s.room) (.slice pt tt.length ct) (.map (some qb)) (.slice x2.pa (fX7 c k j).arr.length x2.ca) (.slice none 0 0) (.slice (some ⟨mb,0,none⟩) c.n c.n) (.int .i64 0) hone1 c.pk hpk pl cl bl ol hpl bn sb cb gs cs [(0,.slice (some ⟨gs,0,none⟩) c.pk.length cs)] k j (by omega) (by omega) (fun _ _=>rfl) hmf (fX7 c k j).co x2.cm hx2.ok.cm b3 b4 bb (by repeat (first|exact Take.nil|(with_reducible apply Take.seg;(focus (exact aS)))|(apply Take.cons;(focus (exact aT)))|(apply Take.last;(focus (exact aS))))) fun p1 c1 cm1 hcm1 hp1=>?_
   rw [hcl] at hp1 ⊢
   obtain ⟨LS,hLS⟩:=gX (hH9 c k j)
   rw [hLS] at hlen hp1 ⊢
   repeat' (conv=>whnf);first|(refine VSeq.go ?_)|(refine VB.is ?_;refine bZ2 (by omega) fun _=>?_)|(refine VAr.is ?_;refine oA ?_)
   all_goals (conv=>whnf)
   refine VLoop.mk (α:=Nat×RunX) (fun y=>y.1<=LS.length/\RunAt c.n y.2 (dH4 c k j y.1)) (fun y=>[(1000000,.tuple #[]),(1,.slice pt tt.length ct),(8,.pointer (some ⟨b8,0,none⟩)),(9,.int .i64 0),(12,.pointer (some ⟨bn,0,none⟩)),(87,.int .i64 (T:Int)),(15,.int .i64 (k:Int)),(88,.int .i64 (k:Int)),(92,.int .i64 (tt.length:Int)),(93,.int .i64 (j:Int)),(16,.int .i64 (j:Int)),(100,.slice p1 LS.length c1),(101,.int .i64 (LS.length:Int)),(102,.int .i64 (y.1:Int))]) (fun y=>.vec p1 LS.length c1 3 1 (bQ1 nV LS)::.row bn 369 [.int .i64 c.s.wide,.int .i64 c.s.high,.int .i64 c.s.room,.slice pt tt.length ct,.slice pl c.pk.length cl,.map (some sb),.map (some qb),.map (some cb),.slice y.2.pa (dH4 c k j y.1).arr.length y.2.ca,.slice none 0 0,.slice (some ⟨mb,0,none⟩) c.n c.n,.int .i64 0]::.mapk qb y.2.m::(y.2.qs.flatMap qeH++(.mapk cb y.2.cm::.vec y.2.pa (dH4 c k j y.1).arr.length y.2.ca 289 3 (bQ1 arV (dH4 c k j y.1).arr)::.vec (some ⟨mb,0,none⟩) c.n c.n 390 2 (bQ1 moV y.2.mo)::.map sb [(0,.slice (some ⟨gs,0,none⟩) c.pk.length cs)]::.vec (some ⟨gs,0,none⟩) c.pk.length cs 3 1 (bQ1 nV (List.range c.pk.length))::[.row b8 285 [.slice none 0 0,.slice none 0 0,.slice none 0 0,.int .i64 0]]))) (fun y=>LS.length - y.1)
    (0,⟨x2.m,x2.qs,cm1,x2.pa,x2.ca,x2.mo⟩) ⟨qB _,⟨hx2.ok.qm,hx2.ok.qr,hcm1⟩,hx2.len,hx2.few⟩ aE (by rw [hB0];exact aH) ?_
   rintro ⟨i,x3⟩ ⟨hi,hx3⟩
   dsimp only at hi hx3 ⊢
   rcases qy i LS.length with hil|hig
   ·obtain ⟨gp,rfl⟩:=hp1 (by omega)
    obtain ⟨p,hp⟩:∃p,LS[i]? =some p:=⟨_,qq hil⟩
    obtain ⟨hok,hst,hE⟩:=kL1 hc hjl (by rw [hLS];exact hp)
    obtain ⟨u,hu⟩:=hpl.get hok.lt
    obtain ⟨z,hz⟩:=hts.get (by omega:j<tt.length)
    have hfz:bH0 z.l u.key=some (c.outs p j):=by
     have:=hok.find
     rw [htabs,qj,hz,hu] at this
     exact this
    have hu2:=hsrc u (qz hu)
    have hone2:bK6 [.map (some sb),.map (some cb),.slice x3.pa (dH4 c k j i).arr.length x3.ca,.slice none 0 0,.int .i64 0]=true:=rfl
    have hent:=fun {H R:HP} {K:Value->HP->Prop}=>kY4 (w0:=w) (H:=H) (R:=R) (K:=K) c.s hs bn qb mb c.n (.map (some sb)) (.map (some cb)) (.slice x3.pa (dH4 c k j i).arr.length x3.ca) (.slice none 0 0) (.int .i64 0) hone2 tt pt ct bt ot hts htt (fun z hz=>⟨by have:=(htl z hz).1;omega,(htl z hz).2⟩) c.pk pl cl bl ol hpl
     (dH4 c k j i).q x3.m x3.qs hx3.ok.qm hx3.ok.qr x3.mo hx3.len hx3.few k j p (by omega) (by omega) (by omega) (by omega) u hu hu2.2 z hz (c.outs p j) hfz (hout p j) (fun o ho hh=>hok.good o ho hh)
    repeat' (conv=>whnf);first|(refine VIx.is ?_;refine VIx.mk rfl (by omega) (by omega) ?_)|(refine VLd.is ?_;refine oC (.vec aT (bQ8 (f:=nV) (k:=1) (fun _=>rfl) hp rfl)) ?_)|(refine bQ0 200 ?_;(refine hent (by repeat (first|exact Take.nil|(with_reducible apply Take.seg;(focus (exact aS)))|(apply Take.cons;(focus (exact aT)))|(apply Take.last;(focus (exact aS))))) fun m1 qs1 mo1 g1 g2 g3 g4=>?_))|(refine VSeq.go ?_)|(refine VB.is ?_;refine bX5 (by omega) fun _=>?_)|(refine VAr.is ?_;refine oA ?_)
    all_goals (conv=>whnf)
    have hqe:enQ (c.outs p j) j p (dH4 c k j i).q 5=(dH4 c k j (i+1)).q:=by
     funext a b
     rw [hE.q a b]
     by_cases ha2:a=j
     ·subst ha2;rfl
     ·unfold enQ
      rw [jk (fun h=>ha2 h.1),jk (fun h=>ha2 h.1)]
    rw [hqe] at g2
    refine VNext.mk (i+1,⟨m1,qs1,x3.cm,x3.pa,x3.ca,mo1⟩) ⟨by dsimp only;omega,⟨g1,g2,by rw [hE.co];exact hx3.ok.cm⟩,g3,g4⟩ (by dsimp only;omega) aE ?_
    dsimp only
    rw [hE.arr]
    exact aH
   have hie:i=LS.length:=by omega
   subst hie
   have hall:=kV7 c k j
   rw [hLS] at hall
   repeat' (conv=>whnf);first|(refine VSeq.go ?_)|(refine VB.is ?_;refine bZ2 (by omega) fun _=>?_)|(refine VAr.is ?_;refine oA ?_)
   all_goals (conv=>whnf)
   exact VNext.mk (j+1,x3) ⟨by dsimp only;omega,by dsimp only;rw [<-hall];exact hx3⟩ (by dsimp only;omega) aE (by dsimp only;rw [<-hall];exact aH)
  have hjn:j=c.n:=by omega
  subst hjn
  repeat' (conv=>whnf);first|(refine VSeq.go ?_)|(refine VB.is ?_;refine bZ2 (by omega) fun _=>?_)|(refine VAr.is ?_;refine oA ?_)
  all_goals (conv=>whnf)
  refine VLoop.mk (α:=Nat×RunX) (fun y=>y.1<=c.n/\RunAt c.n y.2 (fQ6 c k y.1)) (fun y=>[(1000000,.tuple #[]),(1,.slice pt tt.length ct),(8,.pointer (some ⟨b8,0,none⟩)),(9,.int .i64 0),(12,.pointer (some ⟨bn,0,none⟩)),(87,.int .i64 (T:Int)),(15,.int .i64 (k:Int)),(88,.int .i64 (k:Int)),(114,.int .i64 (tt.length:Int)),(115,.int .i64 (y.1:Int))]) (fun y=>.row bn 369 [.int .i64 c.s.wide,.int .i64 c.s.high,.int .i64 c.s.room,.slice pt tt.length ct,.slice pl c.pk.length cl,.map (some sb),.map (some qb),.map (some cb),.slice y.2.pa (fQ6 c k y.1).arr.length y.2.ca,.slice none 0 0,.slice (some ⟨mb,0,none⟩) c.n c.n,.int .i64 0]::.mapk qb y.2.m::(y.2.qs.flatMap qeH++(.mapk cb y.2.cm::.vec y.2.pa (fQ6 c k y.1).arr.length y.2.ca 289 3 (bQ1 arV (fQ6 c k y.1).arr)::.vec (some ⟨mb,0,none⟩) c.n c.n 390 2 (bQ1 moV y.2.mo)::.map sb [(0,.slice (some ⟨gs,0,none⟩) c.pk.length cs)]::.vec (some ⟨gs,0,none⟩) c.pk.length cs 3 1 (bQ1 nV (List.range c.pk.length))::[.row b8 285 [.slice none 0 0,.slice none 0 0,.slice none 0 0,.int .i64 0]]))) (fun y=>c.n - y.1)
   (0,x2) ⟨qB _,hx2⟩ aE aH ?_
  rintro ⟨j,x4⟩ ⟨hj4,hx4⟩
  dsimp only at hj4 hx4 ⊢
  rcases qy j c.n with hjl|hjg
  ·repeat' (conv=>whnf);first|(refine bQ0 201 ?_;refine VCall.inl (F:=kW4) Tryz.func201 rfl rfl rfl kT9 ?_)|(refine VNew.mk fun go=>?_)|(refine VSeq.go ?_)|(refine VB.is ?_;refine bX5 (by omega) fun _=>?_)
   all_goals (conv=>whnf)
   refine VLoop.mk (α:=Nat×RunX) (fun y=>y.1<=5/\RunAt c.n y.2 (gS8 c k j y.1)) (fun y=>[(1000000,.tuple #[]),(1,.slice pt tt.length ct),(8,.pointer (some ⟨b8,0,none⟩)),(9,.int .i64 0),(12,.pointer (some ⟨bn,0,none⟩)),(87,.int .i64 (T:Int)),(15,.int .i64 (k:Int)),(88,.int .i64 (k:Int)),(114,.int .i64 (tt.length:Int)),(115,.int .i64 (j:Int)),(19,.int .i64 (j:Int)),(118,.slice (some ⟨go,0,none⟩) 5 5),(119,.int .i64 5),(120,.int .i64 (y.1:Int))]) (fun y=>.vec (some ⟨go,0,none⟩) 5 5 3 1 [.int .i64 1,.int .i64 2,.int .i64 4,.int .i64 8,.int .i64 16]::.row bn 369 [.int .i64 c.s.wide,.int .i64 c.s.high,.int .i64 c.s.room,.slice pt tt.length ct,.slice pl c.pk.length cl,.map (some sb),.map (some qb),.map (some cb),.slice y.2.pa (gS8 c k j y.1).arr.length y.2.ca,.slice none 0 0,.slice (some ⟨mb,0,none⟩) c.n c.n,.int .i64 0]::.mapk qb y.2.m::(y.2.qs.flatMap qeH++(.mapk cb y.2.cm::.vec y.2.pa (gS8 c k j y.1).arr.length y.2.ca 289 3 (bQ1 arV (gS8 c k j y.1).arr)::.vec (some ⟨mb,0,none⟩) c.n c.n 390 2 (bQ1 moV y.2.mo)::.map sb [(0,.slice (some ⟨gs,0,none⟩) c.pk.length cs)]::.vec (some ⟨gs,0,none⟩) c.pk.length cs 3 1 (bQ1 nV (List.range c.pk.length))::[.row b8 285 [.slice none 0 0,.slice none 0 0,.slice none 0 0,.int .i64 0]]))) (fun y=>5 - y.1)
    (0,x4) ⟨qB _,hx4⟩ aE aH ?_
   rintro ⟨o,x5⟩ ⟨ho,hx5⟩
   dsimp only at ho hx5 ⊢
   rcases qy o 5 with hol|hog
   ·obtain ⟨hlead,harr⟩:=kT5 hc (k:=k) hjl hol
    have hmul:c.pk.length*c.n<=1024*64:=Nat.mul_le_mul hpk (by omega)
    have hok:=hout5 o hol
    have hone3:bK6 [.slice pt tt.length ct,.slice pl c.pk.length cl,.map (some sb),.slice none 0 0,.slice (some ⟨mb,0,none⟩) c.n c.n,.int .i64 0]=true:=rfl
    have hsend:=fun {H R:HP} {K:Value->HP->Prop}=>kN9 (w0:=w) (H:=H) (R:=R) (K:=K) c.s hs bn qb cb (.slice pt tt.length ct) (.slice pl c.pk.length cl) (.map (some sb)) (.slice none 0 0) (.slice (some ⟨mb,0,none⟩) c.n c.n) (.int .i64 0) hone3 (gS8 c k j o) x5 hx5.ok k j o (by omega) hol (by omega) hlead (by omega)
    repeat' (conv=>whnf);first|(refine VIx.is ?_;refine VIx.mk rfl (by omega) (by omega) ?_)|(refine VLd.is ?_;refine oC (.vec aT (hok)) ?_)|(refine bQ0 202 ?_;(refine hsend (by repeat (first|exact Take.nil|(with_reducible apply Take.seg;(focus (exact aS)))|(apply Take.cons;(focus (exact aT)))|(apply Take.last;(focus (exact aS))))) fun x6 g1 g2=>?_))|(refine VSeq.go ?_)|(refine VB.is ?_;refine bX5 (by omega) fun _=>?_)|(refine VAr.is ?_;refine oA ?_)
    all_goals (conv=>whnf)
    have hnx:=hW7 c k j o
    exact VNext.mk (o+1,x6) ⟨by dsimp only;omega,by dsimp only;rw [hnx];exact ⟨g1,by rw [g2];exact hx5.len,by rw [g2];exact hx5.few⟩⟩ (by dsimp only;omega) aE (by dsimp only;rw [hnx,g2];exact aH)
   have ho5:o=5:=by omega
   subst ho5
   have hall:=kZ2 c k j
   repeat' (conv=>whnf);first|(refine VSeq.go ?_)|(refine VB.is ?_;refine bZ2 (by omega) fun _=>?_)|(refine VAr.is ?_;refine oA ?_)
   all_goals (conv=>whnf)
   exact VNext.mk (j+1,x5) ⟨by dsimp only;omega,by dsimp only;rw [<-hall];exact hx5⟩ (by dsimp only;omega) aE (by dsimp only;rw [<-hall];exact aH)
  have hjn:j=c.n:=by omega
  subst hjn
  have hall:=hW6 c k
  repeat' (conv=>whnf);first|(refine VSeq.go ?_)|(refine VB.is ?_;refine bZ2 (by omega) fun _=>?_)|(refine VAr.is ?_;refine oA ?_)
  all_goals (conv=>whnf)
  exact VNext.mk (k+1,x4) ⟨by dsimp only;omega,by dsimp only;rw [<-hall];exact hx4⟩ (by dsimp only;omega) aE (by dsimp only;rw [<-hall];exact aH)
 have hkT:k=T:=by omega
 subst hkT
 have hcm0:x.cm=[]:=by
  rcases hl:x.cm with _|⟨a,l⟩
  ·rfl
  ·obtain ⟨z,v,h1,h2,h3⟩:=hx.ok.cm.only a (by rw [hl];exact qg)
   unfold coF at h2
   split at h2
   ·rw [hdone.co] at h2;cases h2
   ·cases h2
 have hq0:∀e∈x.qs,e.s.cont=[]:=fun e he=>by
  obtain ⟨h1,h2,h3⟩:=hx.ok.qr.each e he
  rw [h3]
  split
  ·exact hdone.q _ _
  ·rfl
 repeat' (conv=>whnf);first|(refine VLnK.is ?_;refine VLnK.is ?_;refine VLnK.mk aT ?_;rw [hcm0,List.length_nil])|(refine VRgM.is ?_;refine VRgM.mkK aT fun es clock it hes hst=>?_)|(refine VSeq.go ?_)|(refine VB.is ?_;refine bZ2 (by omega) fun _=>?_)|(refine VLd.is ?_;refine VLd.mk (.row aT (by rfl)) ?_)|(refine VSt.is ?_;refine VSt.row aT (by rfl) (by first|rfl|assumption) ?_)
 all_goals (conv=>whnf)
 refine VLoop.mk (α:=Array Nat) (fun _=>True) (fun _=>[(1000000,.tuple #[]),(8,.pointer (some ⟨b8,0,none⟩)),(9,.int .i64 0),(12,.pointer (some ⟨bn,0,none⟩)),(145,.pointer (some ⟨it,0,none⟩))])
  (fun seen=>.obj it (.mapIter (some qb) clock seen clock)::.obj qb (.map es clock)::.row bn 369 [.int .i64 c.s.wide,.int .i64 c.s.high,.int .i64 c.s.room,.slice pt tt.length ct,.slice pl c.pk.length cl,.map (some sb),.map (some qb),.map (some cb),.slice x.pa (cL6 c.s c.tabs c.pk c.n k).arr.length x.ca,.slice none 0 0,.slice (some ⟨mb,0,none⟩) c.n c.n,.int .i64 0]::(x.qs.flatMap qeH++(.vec x.pa (cL6 c.s c.tabs c.pk c.n k).arr.length x.ca 289 3 (bQ1 arV (cL6 c.s c.tabs c.pk c.n k).arr)::[.row b8 285 [.slice none 0 0,.slice none 0 0,.slice none 0 0,.int .i64 0]]))) (fun seen=>hF6 es seen) #[] trivial aE aH ?_
 rintro seen _
 repeat' (conv=>whnf);first|(refine VNxM.is ?_;refine VNxM.mk aT aT hst.1 (qA _) (fun hend=>?_) (fun y hy hn=>?_))|(refine VSeq.go ?_)|(refine VLd.is ?_;refine VLd.mk (.row aT (by rfl)) ?_)|(refine VSt.is ?_;refine VSt.row aT (by rfl) (by first|rfl|assumption) ?_)
 all_goals (conv=>whnf)
 ·exact ⟨fun w' hw'=>⟨(x.pa,x.ca,mb),rfl,hw'.le aH⟩⟩
 ·obtain ⟨z,y2,h1,h2,h3⟩:=hx.ok.qm.only (y.key,y.val) (by rw [<-hes];exact qN hy)
  simp only [Prod.mk.injEq] at h3
  obtain ⟨j,e,hj,hek,heb⟩:=fG4 h2
  have hec:=hq0 e (qz hj)
  obtain ⟨p,d,hv⟩:=cS7 (hx.ok.qr.each e (qz hj)).2.1
  rw [hec,List.length_nil] at hv
  have hlp:=dT5 hy hn
  have hyv:y.val=.pointer (some ⟨e.b,0,none⟩):=by rw [h3.2,heb];rfl
  repeat' (conv=>whnf);first|(refine VEn.is ?_;refine VEn.is ?_;refine VEn.mk aT aT (by simp) (fM5 hst hy) ?_;rw [hyv])|(refine VLd.is ?_;refine VLd.is ?_;refine bD0 aS hj rfl rfl ?_;rw [hv])|(refine VLd.is ?_;refine VLd.mk (.row aT (by rfl)) ?_)|(refine VSt.is ?_;refine VSt.row aT (by rfl) (by first|rfl|assumption) ?_)|(refine VAr.is ?_;refine oA ?_)|(refine VHs.mk _ (.refl _) ?_)
  all_goals (conv=>whnf)
  exact VNext.mk (seen.push y.born) trivial hlp aE aH
end Go.Proofs
