import Derived.Test.YtlbekjokdlkghaaGreatChipMovesMf
import Derived.Test.YtlbekjokdlkghaaGreatChipMovesPp
set_option linter.unusedVariables false
set_option linter.unusedSimpArgs false
set_option maxHeartbeats 4000000
section
namespace Go.Proofs
open Go Go.Vx Go.Gm
theorem gL8 {α:Type}{w0:World}{H:HP}{K:Value->HP->Prop}(s:Spc)(hok:SpcOk s)(src t:Int)(hs:0<=src/\src<s.wide*s.high)(ht:0<=t/\t<s.wide*s.high)(l:Nat)(b1 b2 b3:Nat)(I:Nat->α->Prop)(G:α->HP)(x0:α)(h0:I 0 x0)
  (hH:HLe (.row b1 3 [.int .i64 src]::.row b2 3 [.int .i64 t]::.row b3 27 [.int .i64 s.wide,.int .i64 s.high,.int .i64 s.room]::G x0) H)
  (step:∀k r x,RteAt s.wide src t k r->I k x->
   VYield Tryz.cx.P w0 [] (.row b1 3 [.int .i64 r]::.row b2 3 [.int .i64 t]::.row b3 27 [.int .i64 s.wide,.int .i64 s.high,.int .i64 s.room]::G x) l [.int .i64 r] fun v H'=>(v=.bool true/\∃y,I (k+1) y/\HLe (.row b1 3 [.int .i64 r]::.row b2 3 [.int .i64 t]::.row b3 27 [.int .i64 s.wide,.int .i64 s.high,.int .i64 s.room]::G y) H')\/(v=.bool false/\K (.tuple #[]) H'))
  (fin:∀x,I (rte s.wide src t).length x->K (.tuple #[]) (.row b1 3 [.int .i64 t]::.row b2 3 [.int .i64 t]::.row b3 27 [.int .i64 s.wide,.int .i64 s.high,.int .i64 s.room]::G x)):
  VCall Tryz.cx.P w0 [] H 127 [.func (.yield l) #[] #[],.pointer (some ⟨b1,0,none⟩),.pointer (some ⟨b2,0,none⟩),.pointer (some ⟨b3,0,none⟩)] K:=by
 have ha:=cZ7 hok
 have hwd:=hok.wide
 have hhi:=hok.high
 have hW:0<s.wide:=by omega
 refine VCall.le hH ?_
 refine VCall.inl (F:=lP6) Tryz.func127 rfl rfl rfl mX7 ?_
 skip
 all_goals (conv=>whnf)
 refine VLoop.mk (α:=Nat×Int×α) (fun z=>RteAt s.wide src t z.1 z.2.1/\I z.1 z.2.2) (fun z=>[(1000000,.tuple #[]),(0,.func (.yield l) #[] #[]),(1,.pointer (some ⟨b1,0,none⟩)),(2,.pointer (some ⟨b2,0,none⟩)),(3,.pointer (some ⟨b3,0,none⟩))])
  (fun z=>.row b1 3 [.int .i64 z.2.1]::.row b2 3 [.int .i64 t]::.row b3 27 [.int .i64 s.wide,.int .i64 s.high,.int .i64 s.room]::G z.2.2) (fun z=>(rte s.wide src t).length - z.1) (0,src,x0) ⟨RteAt.zero hW src t,h0⟩ aE aH ?_
 rintro ⟨k,r,x⟩ ⟨hR,hI⟩
 dsimp only at hR hI ⊢
 have hstep:=step k r x hR hI
 have hlt:=hR.lt
 have hrr:=hR.range hW hs ht
 have hti:=dQ1 s qZ r t qZ qZ
 have hnx:=cV4 s qZ qZ r _ hrr (cY6 s.wide r t)
 unfold cK4 at hti hnx
 repeat' (conv=>whnf);first|(refine VYield.is ?_;refine VYield.hle (VYield.mono (VYield.weak ?_ hstep) fun v H' hr=>?_);(focus (exact aH));rcases hr with ⟨rfl,y,hy,hl⟩|⟨rfl,hK⟩<;>first|refine ⟨_,hl,?_⟩|refine ⟨_,HLe.refl _,?_⟩)|(refine bQ0 71 ?_;(refine bQ4 (fun w' _=>hti w') ?_))|(refine bQ0 128 ?_;(refine bQ2 (fun w' _=>hnx w') ?_;intro bb hbb))|refine VSeq.go ?_|refine oS (fun _=>?_) fun _=>?_|refine oL ?_|refine oT ?_|refine oK ?_|refine oH ?_
 all_goals (conv=>whnf)
 ·exact VNext.mk (k+1,bZ8 s.wide r (bY2 s.wide r t),y) ⟨hR.step hW qZ,hy⟩ (by dsimp only;omega) aE aH
 ·have e:r=t:=by omega
  subst e
  exact fin y (hR.last hW▸hy)
 ·exact hK
def dV6 (s:Spc)(src:Int)(ts:List Int):List Int×Int:=
 if bR0 s (src::ts)≠0 then ([],bR0 s (src::ts)) else if ts=[] then ([],2) else (dV7 s.wide (s.wide*s.high).toNat src ts,0)
theorem cV3 (s:Spc)(hs:s.wf)(src:Int)(hsrc:I64 src)(ts:List Int)(hts:∀x∈ts,I64 x)(hlen:ts.length<=65536)(p:Option Addr)(c b o:Nat)(w:World)(h1:Sl w bQ6 1 ts p ts.length b o):
  Calls Tryz.prog 22 #[.agg (cK4 s).toArray,.int .i64 src,.slice p ts.length c] w fun e w'=>∃z:Option Addr×Nat,e=.returned (.tuple #[.slice z.1 (dV6 s src ts).1.length z.2,.int .i64 (dV6 s src ts).2])/\(0<(dV6 s src ts).1.length->∃g,z.1=some ⟨g,0,none⟩)/\St w [] [.vec z.1 (dV6 s src ts).1.length z.2 3 1 (bQ1 bQ6 (dV6 s src ts).1)] w':=by
 have hm:=fun (w':World) (p:Option Addr) c b o h=>fB5 s hs (src::ts) (by rw [qR];omega) (by intro x hx;rcases qQ.1 hx with rfl|hx;exact hsrc;exact hts x hx) p c b o w' h
 refine enter (C:=Tryz.cx) (F:=mB9) (args:=[_,_,_]) Tryz.func22 rfl rfl rfl ok22 (St.start w []) ?_
 have e:(src::ts).length=1+ts.length:=by rw [qR];omega
 rw [e] at hm
 unfold dV6
 unfold cK4 at hm ⊢
 by_cases he:bR0 s (src::ts)≠0
 ·rw [jw he]
  repeat' (conv=>whnf);first|(refine VAp.is ?_;refine VAp.own aT (h1.src (by simp) (fun _=>rfl)) (bZ5 (by simp [bQ6,Value.oneCell'])) (by (try dsimp only);omega) (by simp only [maxLen];omega) fun p' cap' hp'=>?_;obtain ⟨gp,rfl⟩:=hp' qZ)|(refine bQ0 69 ?_;(refine bQ4 (fun w' hw'=>hm w' _ _ _ _ (bZ1 hw' (l:=src::ts) (f:=bQ6) (k:=1) (by first|exact List.mem_cons_self) (fun _=>rfl) e)) ?_))|refine VSeq.go ?_|refine oY fun _=>?_|refine oN fun _=>?_|refine oL ?_|refine oV fun _=>?_|refine oK ?_|refine oH ?_
  all_goals (conv=>whnf)
  exact ⟨fun w' hw'=>⟨(none,0),rfl,(by intro h;cases h),hw'.le (HLe.nilv .nil)⟩⟩
 rw [jk he]
 have hz:bR0 s (src::ts)=0:=Qm.1 he
 rw [hz] at hm
 obtain ⟨hok,hrange⟩:=bC6.1 hz
 have ha:=cZ7 hok
 by_cases hnil:ts=[]
 ·have hl0:ts.length=0:=by rw [hnil];rfl
  rw [jw hnil]
  repeat' (conv=>whnf);first|(refine VAp.is ?_;refine VAp.own aT (h1.src (by simp) (fun _=>rfl)) (bZ5 (by simp [bQ6,Value.oneCell'])) (by (try dsimp only);omega) (by simp only [maxLen];omega) fun p' cap' hp'=>?_;obtain ⟨gp,rfl⟩:=hp' qZ)|(refine bQ0 69 ?_;(refine bQ4 (fun w' hw'=>hm w' _ _ _ _ (bZ1 hw' (l:=src::ts) (f:=bQ6) (k:=1) (by first|exact List.mem_cons_self) (fun _=>rfl) e)) ?_))|refine VSeq.go ?_|refine oY fun _=>?_|refine oN fun _=>?_|refine oL ?_|refine oV fun _=>?_|refine oK ?_|refine oH ?_
  all_goals (conv=>whnf)
  exact ⟨fun w' hw'=>⟨(none,0),rfl,(by intro h;cases h),hw'.le (HLe.nilv .nil)⟩⟩
 rw [jk hnil]
 have hpos:=QI.2 hnil
 obtain ⟨n,hn⟩:=gX ((s.wide*s.high).toNat)
 have hwn:s.wide*s.high=(n:Int):=by omega
 rw [hn]
 have hrep:=bV3 (f:=bQ6) (x:=(0:Int)) n
 have htl:∀l:List Int,(l.foldl (fC4 s.wide src) (List.replicate n 0)).length=n:=fun l=>by rw [cW5,Qn]
 repeat' (conv=>whnf);first|(refine VAp.is ?_;refine VAp.own aT (h1.src (by simp) (fun _=>rfl)) (bZ5 (by simp [bQ6,Value.oneCell'])) (by (try dsimp only);omega) (by simp only [maxLen];omega) fun p' cap' hp'=>?_;obtain ⟨gp,rfl⟩:=hp' qZ)|(refine bQ0 69 ?_;(refine bQ4 (fun w' hw'=>hm w' _ _ _ _ (bZ1 hw' (l:=src::ts) (f:=bQ6) (k:=1) (by first|exact List.mem_cons_self) (fun _=>rfl) e)) ?_))|(refine VAr.is ?_;refine VAr.mul hwn qZ qZ ?_)|(refine VMk.is ?_;refine VMk.mk qZ qZ (by (try dsimp only);omega) qZ fun g=>?_)|(refine VNew.mk fun b9=>?_)|refine VSeq.go ?_|refine oN fun _=>?_|refine oL ?_|refine oT ?_|refine oK ?_|refine oH ?_
 all_goals (conv=>whnf)
 rename_i b3 bs q4 q5
 have hOok:∀l:List Int,bF7 (l.foldl (fC4 s.wide src) (List.replicate n 0)):=fun l=>fZ1 l fun x hx=>by rw [QM hx];omega
 refine VLoop.mk (α:=Nat×List Nat) (fun z=>z.1<=ts.length) (fun z=>[(1000000,.tuple (z.2.map dZ3).toArray),(1,.int .i64 src),(3,.pointer (some ⟨b3,0,none⟩)),(6,.slice none 0 0),(7,.int .i64 0),(9,.pointer (some ⟨b9,0,none⟩)),(31,.slice p ts.length c),(32,.int .i64 (ts.length:Int)),(33,.int .i64 (z.1:Int))])
  (fun z=>.row b9 28 [.slice (some ⟨g,0,none⟩) n n]::.vec (some ⟨g,0,none⟩) n n 3 1 (bQ1 bQ6 ((ts.take z.1).foldl (fC4 s.wide src) (List.replicate n 0)))::.row b3 27 [.int .i64 s.wide,.int .i64 s.high,.int .i64 s.room]::(z.2.map mK5++[])) (fun z=>ts.length - z.1) (0,[]) (qB _) aE ?_ ?_
 ·dsimp only
  rw [QU,List.foldl_nil,<-hrep]
  exact aH
 rintro ⟨i,DD⟩ hi
 dsimp only at hi ⊢
 rcases qy i ts.length with hlt|hge
 ·obtain ⟨x,hx⟩:=h1.get hlt
  have hxr:=hrange x (qu _ (qz hx))
  have hsr:=hrange src qg
  have htk:(ts.take (i+1)).foldl (fC4 s.wide src) (List.replicate n 0)=fC4 s.wide src ((ts.take i).foldl (fC4 s.wide src) (List.replicate n 0)) x:=by
   rw [qi,hx,qW,Qx];rfl
  have hO1:=hOok (ts.take i)
  have hO2:=htl (ts.take i)
  obtain ⟨O,hO⟩:=gX ((ts.take i).foldl (fC4 s.wide src) (List.replicate n 0))
  rw [hO] at htk hO1 hO2 ⊢
  repeat' (conv=>whnf);first|(refine VIx.is ?_;refine VIx.mk (h1.ptr qZ) qZ qZ ?_)|(refine VLd.is ?_;refine oC (h1.rd0 oU oR hx rfl) ?_)|(refine VNew.mk fun b11=>?_)|(refine bQ0 70 ?_;refine VCall.inl (F:=mF1) Tryz.func70 rfl rfl rfl ok70 ?_)|(refine VRange.go (ms:=DD.map dZ3) rfl fun hokx hoky l d L hL=>?_)|refine VSeq.go ?_|refine oY fun _=>?_|refine oL ?_|refine oT ?_
  all_goals (conv=>whnf)
  rename_i c3 c4 c5
  refine gL8 s hok src x hsr hxr l _ _ _ (α:=List Int) (fun k out=>out=((rte s.wide src x).take k).foldl (Gm.stepT s.wide x) O) (fun out=>L .ready none::.obj d (.deferred (some []))::.row c3 3 [.int .i64 x]::.row b9 28 [.slice (some ⟨g,0,none⟩) n n]::.vec (some ⟨g,0,none⟩) n n 3 1 (bQ1 bQ6 out)::.row b3 27 [.int .i64 s.wide,.int .i64 s.high,.int .i64 s.room]::(DD.map mK5++[])) O (by rw [QU];rfl) aH ?_ ?_
  ·rintro k r out hR rfl
   have htk2:((rte s.wide src x).take (k+1)).foldl (Gm.stepT s.wide x) O=Gm.stepT s.wide x (((rte s.wide src x).take k).foldl (Gm.stepT s.wide x) O) r:=by
    rw [qi,hR.get,qW,Qx];rfl
   have hP1:=fZ2 (W:=s.wide) (t:=x) ((rte s.wide src x).take k) hO1
   have hP2:=bR3 s.wide x ((rte s.wide src x).take k) O
   obtain ⟨P,hP⟩:=gX (((rte s.wide src x).take k).foldl (Gm.stepT s.wide x) O)
   rw [hP] at htk2 hP1 hP2 ⊢
   have hrr:=hR.range (by have:=hok.wide;omega) hsr hxr
   obtain ⟨v,hv⟩:∃v,P[r.toNat]? =some v:=⟨_,qq qZ⟩
   have hv1:=hP1 v (qz hv)
   have hti:=dQ1 s (by have:=hok.wide;omega) r x qZ qZ
   have htl2:=hQ3 s.wide r x
   have hst:Gm.stepT s.wide x P r=P.set r.toNat (bor v (bY2 s.wide r x)):=by unfold Gm.stepT;rw [hv,qY]
   unfold cK4 at hti
   refine VYield.go hL hokx hoky aT rfl ?_
   obtain ⟨j,hj⟩:∃j:Nat,r=(j:Int):=⟨r.toNat,by omega⟩
   subst hj
   rw [jf] at hv hst
   repeat' (conv=>whnf);first|(refine VBegin.is ?_;refine VBegin.mk aT ?_)|refine oI ?_|(refine VLd.is ?_;refine oC (.vec aT (bQ8 (f:=bQ6) (k:=1) oR hv rfl)) ?_)|(refine bQ0 71 ?_;(refine bQ4 (fun w' _=>hti w') ?_))|(refine VBit.is ?_;refine VBit.or qZ qZ ?_)|(refine VSt.is ?_;refine VSt.cast (off':=j*1) oE (VSt.vec aT (bZ9 (f:=bQ6) (k:=1) (y:=bor v (bY2 s.wide (j:Int) x)) oR hv rfl) rfl ?_))|refine oL ?_|refine oK ?_|refine oH ?_
   all_goals (conv=>whnf)
   refine VRound.mk aT ?_
   exact .inl ⟨rfl,_,(htk2.trans hst).symm,by exact aH⟩
  ·rintro out rfl
   rw [Qk]
   have hw:(rte s.wide src x).foldl (Gm.stepT s.wide x) O=fC4 s.wide src O x:=rfl
   rw [hw]
   repeat' (conv=>whnf);first|(refine VEnd.is ?_;refine VEnd.mk aT oU ?_)|refine oA ?_
   all_goals (conv=>whnf)
   refine VNext.mk (i+1,d::DD) (by dsimp only;omega) (by dsimp only;omega) aE ?_
   dsimp only
   rw [htk]
   exact aH
 ·rw [qe hge]
  have htr:ts.foldl (fC4 s.wide src) (List.replicate n 0)=dV7 s.wide n src ts:=rfl
  rw [htr]
  repeat' (conv=>whnf);first|(refine lJ2 ?_;refine fW5 aS ?_)|refine VSeq.go ?_|refine oN fun _=>?_|refine oL ?_
  all_goals (conv=>whnf)
  refine ⟨fun w' hw'=>⟨(some ⟨g,0,none⟩,n),?_,fun _=>⟨g,rfl⟩,?_⟩⟩
  ·rw [bW2];rfl
  ·rw [bW2]
   exact hw'.le aH
end Go.Proofs
end

section
namespace Go.Proofs
open Go Go.Vx Go.Gm
end Go.Proofs
end

section
namespace Go.Proofs
open Go Go.Vx Go.Gm
theorem _root_.Go.Vx.Sl.first {α:Type}{f:α->List Value}{k:Nat}{w:World}{l:List α}{p:Option Addr}{n b o:Nat}(h:Sl w f k l p n b o)(hk:∀x,(f x).length=k)(m:Nat)(hm:m<=n):Sl w f k (l.take m) p m b o:=by
 refine ⟨?_,by rw [qh,h.len];omega,?_⟩
 ·rcases h.base with h1|⟨h1,h2⟩
  ·exact .inl h1
  ·exact .inr ⟨by omega,h2⟩
 ·intro j v hj
  refine h.cells j v ?_
  have e:bQ1 f l=bQ1 f (l.take m)++bQ1 f (l.drop m):=by rw [<-bQ7,QJ]
  rw [e,QY (qx.1 hj).1]
  exact hj
theorem bR5 (l:List Int)(hl:l.length<=1152921504606846976)(v:Int)(p:Option Addr)(cap b o:Nat)(w:World)(h1:Sl w bQ6 1 l p l.length b o):
  Calls Tryz.prog 145 #[.slice p l.length cap,.int .i64 v] w fun e w'=>∃c:Bool,e=.returned (.bool c)/\(c=true<->v∈l)/\St w [] [] w':=by
 refine enter (C:=Tryz.cx) (F:=lB0) (args:=[_,_]) Tryz.func145 rfl rfl rfl mQ1 (St.start w []) ?_
 repeat' (conv=>whnf);first|(refine bQ0 194 ?_;refine VCall.inl (F:=lF2) Tryz.func194 rfl rfl rfl lS3 ?_)|refine VSeq.go ?_
 all_goals (conv=>whnf)
 refine VLoop.mk (α:=Nat) (fun j=>j<=l.length/\v∉l.take j) (fun j=>[(1000000,.tuple #[]),(0,.slice p l.length cap),(1,.int .i64 v),(4,.int .i64 0),(7,.int .i64 (l.length:Int)),(8,.int .i64 (j:Int))])
  (fun _=>[]) (fun j=>l.length - j) 0 ⟨by omega,by simp⟩ aE aH ?_
 rintro j ⟨hj,hn⟩
 rcases qy j l.length with hlt|hge
 ·obtain ⟨x,hx⟩:=h1.get hlt
  have hm:=qz hx
  repeat' (conv=>whnf);first|(refine VIx.is ?_;refine VIx.mk (h1.ptr qZ) qZ qZ ?_)|(refine VLd.is ?_;refine oC (h1.rd0 oU oR hx rfl) ?_)|refine VSeq.go ?_|refine oY fun _=>?_|refine oS (fun _=>?_) fun _=>?_|refine oA ?_
  all_goals (conv=>whnf)
  all_goals first
   |(have e:x=v:=by omega
     rw [e] at hm
     exact ⟨fun w' hw'=>⟨true,rfl,by simp [hm],hw'.le .nil⟩⟩)
   |(refine VNext.mk (j+1) ⟨by omega,?_⟩ qZ aE aH
     rw [qi,hx,qW]
     intro h
     rcases qH.1 h with h|h
     ·exact hn h
     ·simp only [qt] at h
      omega)
 ·rw [qe hge] at hn
  repeat' (conv=>whnf);first|refine VSeq.go ?_|refine oN fun _=>?_|refine oL ?_
  all_goals (conv=>whnf)
  exact ⟨fun w' hw'=>⟨false,rfl,by simp [hn],hw'.le .nil⟩⟩
theorem dM6 (l:List Int)(m:Nat)(hm:m<=l.length)(hl:l.length<=1152921504606846976)(v:Int)(p:Option Addr)(cap b o:Nat)(w:World)(h1:Sl w bQ6 1 l p l.length b o):
  Calls Tryz.prog 145 #[.slice p m cap,.int .i64 v] w fun e w'=>∃c:Bool,e=.returned (.bool c)/\(c=true<->v∈l.take m)/\St w [] [] w':=by
 have e:(l.take m).length=m:=by rw [qh];omega
 have h:=bR5 (l.take m) qZ v p cap b o w (by rw [e];exact h1.first oR m hm)
 rw [e] at h
 exact h
def bD5 (C:Chp)(p:Option Addr)(c:Nat):List Value:=[.int .i64 C.mesh.wide,.int .i64 C.mesh.high,.int .i64 C.mesh.room,.int .i64 C.nr,.int .i64 C.sy,.int .i64 C.en,.int .i64 C.bits,.slice p C.dead.length c]
structure _root_.Go.Gm.Chp.wf (C:Chp):Prop where
 mesh:C.mesh.wf
 nr:I64 C.nr
 sy:I64 C.sy
 en:I64 C.en
 bits:I64 C.bits
 dead:∀x∈C.dead,I64 x
 few:C.dead.length<=1000000
theorem cC8 (C:Chp)(hC:C.wf)(p:Option Addr)(c b o:Nat)(hcc:C.dead.length<=c)(w:World)(h1:Sl w bQ6 1 C.dead p C.dead.length b o):
  Calls Tryz.prog 170 #[.agg (bD5 C p c).toArray] w fun e w'=>e=.returned (.int .i64 (dZ5 C))/\St w [] [] w':=by
 have hm:=bN3 C.mesh hC.mesh
 have h03:cX3 C.mesh=0\/cX3 C.mesh=3:=by unfold cX3;split<;>simp
 obtain ⟨_,c1,c2,c3,c4,c5,c6⟩:=hC
 unfold I64 at c1 c2 c3 c4
 unfold cK4 at hm
 unfold bD5
 refine enter (C:=Tryz.cx) (F:=lH7) (args:=[_]) Tryz.func170 rfl rfl rfl lL8 (St.start w []) ?_
 by_cases hme:cX3 C.mesh≠0
 ·repeat' (conv=>whnf);first|(refine bQ0 115 ?_;(refine bQ4 (fun w' _=>hm w') ?_))|refine VSeq.go ?_|refine oY fun _=>?_|refine oL ?_|refine oV fun _=>?_
  all_goals (conv=>whnf)
  exact ⟨fun w' hw'=>⟨by unfold dZ5;rw [jw hme,show cX3 C.mesh=3 by omega];rfl,hw'.le .nil⟩⟩
 have hz:cX3 C.mesh=0:=Qm.1 hme
 have hok:=bN4.1 hz
 have ha:=cZ7 hok
 rw [hz] at hm
 by_cases hin:¬gR7 C
 ·have he:dZ5 C=3:=by unfold dZ5;rw [jk hme,jw hin]
  unfold gR7 at hin
  rw [he]
  repeat' (conv=>whnf);first|(refine bQ0 79 ?_;refine VCall.inl (F:=kL2) Tryz.func79 rfl rfl rfl lZ3 ?_)|(refine bQ0 115 ?_;(refine bQ4 (fun w' _=>hm w') ?_))|refine VSeq.go ?_|refine oN fun _=>?_|refine oS (fun _=>?_) fun _=>?_|refine oL ?_|refine oV fun _=>?_
  all_goals (conv=>whnf)
  all_goals first
   |(exfalso;omega)
   |exact ⟨fun w' hw'=>⟨rfl,hw'.le .nil⟩⟩
 have hin:=Qm.1 hin
 obtain ⟨n,hn⟩:=gX (C.mesh.wide*C.mesh.high)
 have he:dZ5 C=cZ4 n [] C.dead:=by unfold dZ5;rw [jk hme,jk (Qm.2 hin),hn]
 rw [hn] at ha
 rw [he]
 unfold gR7 at hin
 obtain ⟨i1,i2,i3,i4⟩:=hin
 repeat' (conv=>whnf);first|(refine bQ0 79 ?_;refine VCall.inl (F:=kL2) Tryz.func79 rfl rfl rfl lZ3 ?_)|(refine bQ0 115 ?_;(refine bQ4 (fun w' _=>hm w') ?_))|(refine VNew.mk fun b1=>?_)|refine VSeq.go ?_|refine oY fun _=>?_|refine oN fun _=>?_|refine oL ?_
 all_goals (conv=>whnf)
 refine VLoop.mk (α:=Nat) (fun k=>k<=C.dead.length/\cZ4 n [] C.dead=cZ4 n (C.dead.take k) (C.dead.drop k))
  (fun k=>[(1000000,.tuple #[]),(1,.pointer (some ⟨b1,0,none⟩)),(2,.int .i64 0),(35,.slice p C.dead.length c),(36,.int .i64 (C.dead.length:Int)),(37,.int .i64 (k:Int))])
  (fun _=>[.row b1 30 (bD5 C p c)]) (fun k=>C.dead.length - k) 0 ⟨by omega,rfl⟩ aE aH ?_
 rintro k ⟨hk1,hk2⟩
 rcases qy k C.dead.length with hlt|hge
 ·obtain ⟨i,hi⟩:=h1.get hlt
  have hiw:=c5 i (qz hi)
  unfold I64 at hiw
  unfold bD5
  have hno:∀h:0<=i/\i<=n - 1,i∉C.dead.take k->cZ4 n [] C.dead=cZ4 n (C.dead.take (k+1)) (C.dead.drop (k+1)):=fun h h2=>hk2.trans (gT7 hi h h2)
  have hbad:¬(0<=i/\i<=n - 1)->cZ4 n [] C.dead=3:=fun h=>hk2.trans (hD9 hi h)
  have hhave:∀h:0<=i/\i<=n - 1,i∈C.dead.take k->cZ4 n [] C.dead=5:=fun h h2=>hk2.trans (gT8 hi h h2)
  clear hk2 i1 i2 i3 i4 c1 c2 c3 c4 he
  repeat' (conv=>whnf);first|(refine VIx.is ?_;refine VIx.mk (h1.ptr qZ) qZ qZ ?_)|(refine VLd.is ?_;refine oC (h1.rd0 oU oR hi rfl) ?_)|(refine bQ0 79 ?_;refine VCall.inl (F:=kL2) Tryz.func79 rfl rfl rfl lZ3 ?_)|(refine bQ0 57 ?_;refine VCall.inl (F:=lY0) Tryz.func57 rfl rfl rfl lN8 ?_)|(refine VAr.is ?_;refine VAr.mul hn qZ qZ ?_)|(refine VSl.is ?_;refine cG9 qZ ?_)|(refine bQ0 145 ?_;(refine bQ2 (fun w' hw'=>dM6 C.dead k qZ qZ i _ _ _ _ w' (h1.keep hw' oU)) ?_;intro c1 hc1;cases c1<;>simp only [QV,false_iff,true_iff] at hc1))|refine VSeq.go ?_|refine oY fun _=>?_|refine oS (fun _=>?_) fun _=>?_|refine oL ?_|refine oV fun _=>?_|refine oA ?_
  all_goals (conv=>whnf)
  all_goals first
   |exact ⟨fun w' hw'=>⟨by rw [hbad qZ];rfl,hw'.le .nil⟩⟩
   |exact ⟨fun w' hw'=>⟨by rw [hhave qZ hc1];rfl,hw'.le .nil⟩⟩
   |exact VNext.mk (k+1) ⟨by omega,hno qZ hc1⟩ qZ aE aH
 rw [hD8 hge] at hk2
 repeat' (conv=>whnf);first|refine VSeq.go ?_|refine oN fun _=>?_|refine oL ?_
 all_goals (conv=>whnf)
 exact ⟨fun w' hw'=>⟨by rw [hk2];rfl,hw'.le .nil⟩⟩
end Go.Proofs
end
