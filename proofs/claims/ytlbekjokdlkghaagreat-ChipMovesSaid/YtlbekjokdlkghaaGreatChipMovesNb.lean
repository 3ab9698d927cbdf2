import Derived.Test.YtlbekjokdlkghaaGreatChipMovesNa
import Derived.Test.YtlbekjokdlkghaaGreatChipMovesVb
section
set_option linter.unusedVariables false
set_option linter.unusedSimpArgs false
set_option maxHeartbeats 4000000
namespace Go.Proofs
open Go Go.Vx Go.Gm
theorem _root_.Go.Vx.VAr.wadd {a b:Int}{k:Int->Prop}(hk:k (Gm.wadd a b)):VAr .i64 (a+b) k:=by
 refine .wraps ?_
 rw [IntKind.wrap_i64]
 exact hk
structure ShOk (w:World) (M:List Nat) (x:SimM):Prop where
 par:Sl w bH3 8 x.N.ps (some ⟨x.pb,0,none⟩) x.N.ps.length x.pb 0
 parM:x.pb∉M
 map:mapIs w x.bw (x.R.map bB7)
 mapM:x.bw∉M
 rows:∀r∈x.R,∃g,r.p=some ⟨g,0,none⟩/\Sl w bP1 4 r.l r.p r.l.length g 0/\g∉M
theorem ShOk.of {w0 w:World}{M:List Nat}{H:HP}{Z:HP->HP}{x:SimM}(hs:St w0 M H w)(h:AtS H (bM7 x) Z)(hw:WOk x.R)(hin:∀y∈dW4 x,y∈Z []):ShOk w (ids (bM7 x)) x:=by
 have hp:=h.perm
 have mem:∀y∈dW4 x,y∈H:=fun y hy=>hp.mem_iff.2 (QT _ (hin y hy))
 have h1:Ent.map x.bw (x.R.map bB7)∈dW4 x:=by simp [dW4]
 have h2:Ent.vec (some ⟨x.pb,0,none⟩) x.N.ps.length x.pc 140 8 (bQ1 bH3 x.N.ps)∈dW4 x:=by simp [dW4]
 refine ⟨bZ1 hs (mem _ h2) (fun _=>rfl) rfl,hs.apartS h (hin _ h2) rfl,hs.own _ (mem _ h1),hs.apartS h (hin _ h1) rfl,fun r hr=>?_⟩
 obtain ⟨g,hg⟩:=hw.ptr r hr
 have h3:cF3 r∈dW4 x:=by simp only [dW4,qQ,qo];exact .inr (.inr ⟨r,hr,rfl⟩)
 have h4:=mem _ h3
 have h5:=hin _ h3
 unfold cF3 at h4 h5
 rw [hg] at h4 h5 ⊢
 exact ⟨g,rfl,bZ1 hs h4 (fun _=>rfl) rfl,hs.apartS h h5 rfl⟩
theorem dL6 {x:SimM}{D:List DRow}(hD:D.map bJ9=x.D.map bJ9){k:Nat}{d:DRow}(h:D[k]? =some d):sub (dJ0 x) (6+k) 1=some [bJ9 d]:=by
 obtain ⟨hlt,rfl⟩:=qx.1 h
 rw [kN7,<-hD,cJ0 _ _ _ (by simp [six];omega)]
 have h6:(six x).length=6:=rfl
 rw [List.drop_append,Qi (by omega),Qc,h6,QL]
 rw [<-List.map_drop,qG hlt]
 rfl
def kG0 (t:Nat)(D:List DRow)(s:Syn):List DRow:=D.modify ((t+s.dl.toNat)%16) fun d=>{d with l:=d.l.modify s.to.toNat fun a=>wadd a s.wt}
def bD4 (t:Nat)(D:List DRow)(l:List Syn):List DRow:=l.foldl (kG0 t) D
theorem lM3 (t:Nat)(D:List DRow)(s:Syn):(kG0 t D s).map bJ9=D.map bJ9:=by
 unfold kG0
 apply qp
 intro i
 simp only [qj,qS]
 split<;>cases D[i]?<;>simp [bJ9]
theorem cS3 (t:Nat)(l:List Syn):∀D:List DRow,(bD4 t D l).map bJ9=D.map bJ9:=by
 induction l with
 |nil=>intro D;rfl
 |cons s l ih=>intro D;exact (ih _).trans (lM3 t D s)
theorem lM2 (t:Nat)(D:List DRow)(s:Syn):(kG0 t D s).map (·.l)=fJ1 t (D.map (·.l)) s:=by
 unfold kG0 fJ1
 apply qp
 intro i
 simp only [qj,qS]
 split<;>cases D[i]?<;>simp
theorem lQ3 (t:Nat)(l:List Syn):∀D:List DRow,(bD4 t D l).map (·.l)=l.foldl (fJ1 t) (D.map (·.l)):=by
 induction l with
 |nil=>intro D;rfl
 |cons s l ih=>intro D;exact (ih _).trans (by rw [lM2];rfl)
theorem gT5 (t:Nat)(D:List DRow)(l:List Syn)(s:Syn):bD4 t D (l++[s])=kG0 t (bD4 t D l) s:=by simp [bD4]
theorem cC1 {D D':List DRow}(h:D'.map bJ9=D.map bJ9){i:Nat}{d:DRow}(hi:D'[i]? =some d):∃d0,D[i]? =some d0/\d0.l.length=d.l.length:=by
 have:=congrArg (fun l=>l[i]?) h
 simp only [qj,hi,qV] at this
 cases hd:D[i]? with
 |none=>simp [hd] at this
 |some d0=>
  simp only [hd,qV,qK,bJ9,Value.slice.injEq] at this
  exact ⟨d0,rfl,this.2.1.symm⟩
theorem gC2 (R:List WRow)(k:Int):(∃r∈R,bZ4 (R.map bB7) k=some (fC1 r)/\bD1 (R.map bR6) k=r.l)\/(bZ4 (R.map bB7) k=none/\bD1 (R.map bR6) k=[]):=by
 induction R with
 |nil=>exact .inr ⟨rfl,rfl⟩
 |cons z R ih=>
  by_cases h:z.key=k
  ·exact .inl ⟨z,by simp,by simp [bZ4,bB7,h],by simp [bD1,bR6,h]⟩
  ·rcases ih with ⟨r,h1,h2,h3⟩|⟨h2,h3⟩
   ·exact .inl ⟨r,by simp [h1],by simpa [bZ4,bB7,h] using h2,by simpa [bD1,bR6,h] using h3⟩
   ·exact .inr ⟨by simpa [bZ4,bB7,h] using h2,by simpa [bD1,bR6,h] using h3⟩
theorem _root_.Go.Vx.VLk.val {m:List (Int×Value)}{j:Int}{z v:Value}{k:Value->Prop}(h:bZ4 m j=some v\/(bZ4 m j=none/\v=z))(hk:k v):VLk m j fun r=>fX9 false z r k:=by
 rcases h with h|⟨h,rfl⟩
 ·exact .has h hk
 ·exact .lacks h hk
theorem ShOk.look {w:World}{M:List Nat}{x:SimM}(h:ShOk w M x)(k:Int):∃(p:Option Addr) (c g:Nat),(bZ4 (x.R.map bB7) k=some (.slice p (bD1 (x.R.map bR6) k).length c)\/(bZ4 (x.R.map bB7) k=none/\Value.slice p (bD1 (x.R.map bR6) k).length c=dJ4))/\
  Sl w bP1 4 (bD1 (x.R.map bR6) k) p (bD1 (x.R.map bR6) k).length g 0/\g∉M:=by
 rcases gC2 x.R k with ⟨r,h1,h2,h3⟩|⟨h2,h3⟩
 ·obtain ⟨g,hg,hsl,hM⟩:=h.rows r h1
  rw [h3]
  exact ⟨r.p,r.cap,g,.inl h2,hsl,hM⟩
 ·rw [h3]
  exact ⟨none,0,x.pb,.inr ⟨h2,rfl⟩,.nil (.inl rfl),h.parM⟩
theorem bP5 {α:Type}{l:List α}{k:Nat}{a:α}(f:α->α)(h:l[k]? =some a):l.modify k f=l.set k (f a):=by
 obtain ⟨hlt,rfl⟩:=qx.1 h
 apply qp
 intro i
 rw [qS,qO]
 by_cases hk:k=i
 ·subst hk;simp [hlt]
 ·simp [hk]
theorem kY9 {t:Nat}{D:List DRow}{s:Syn}{d:DRow}{a:Int}{k:Nat}(hk:k=(t+s.dl.toNat)%16)(hd:D[k]? =some d)(ha:d.l[s.to.toNat]? =some a):
  D.set k ⟨d.g,d.cap,d.l.set s.to.toNat (wadd a s.wt)⟩=kG0 t D s:=by
 subst hk
 unfold kG0
 rw [bP5 _ hd,bP5 _ ha]
theorem _root_.bJ5 {α:Type}{l:List α}{k:Nat}{a:α}(h:l[k]? =some a):l.set k a=l:=by
 obtain ⟨hlt,rfl⟩:=qx.1 h
 simp
theorem dB1 (t:Nat)(D:List DRow)(a b:List Syn):bD4 t D (a++b)=bD4 t (bD4 t D a) b:=by simp [bD4]
theorem dK6 (W:List (Int×List Syn))(l:List Int)(k:Int):bK5 W (l++[k])=bK5 W l++bD1 W k:=by simp [bK5]
def bZ6 (x:SimM):List (Sta×Bool):=fire x.N.ps x.sts ((x.D[x.tick%16]?.map (·.l)).getD [])
def fR3 (x:SimM)(ins:List Int):List Int:=spk (bZ6 x)++ins.map fun k=> -1 - k
def bJ1 (x:SimM)(ins:List Int):SimM:=
 {x with tick:=x.tick+1,sts:=(bZ6 x).map (·.1),
         D:=bD4 x.tick (x.D.modify (x.tick%16) fun d=>⟨d.g,d.cap,List.replicate d.l.length 0⟩) (bK5 (cJ7 x.N.syns) (fR3 x ins))}
theorem gP2 (W:List (Int×List Syn))(a b:List Int):bK5 W (a++b)=bK5 W a++bK5 W b:=by simp [bK5]
theorem gV5 (x:SimM)(hx:SimOk x)(htick:x.tick<10000)(hst:∀(i:Nat) p s,x.N.ps[i]? =some p->x.sts[i]? =some s->bD9 p s)(ins:List Int)(hins:∀k∈ins,0<=k/\k<=256)(hil:ins.length<=65536)(pi:Option Addr)(ci bi oi:Nat)(w:World)
  (hs:St w (ids (bM7 x)) (bM7 x) w) (hsh:ShOk w (ids (bM7 x)) x) (hin:Sl w bQ6 1 ins pi ins.length bi oi) (hbi:bi∉ids (bM7 x)):
  Calls Tryz.prog 87 #[.pointer (some ⟨x.b,0,none⟩),.slice pi ins.length ci] w fun e w'=>∃y:Option Addr×Nat,e=.returned (.slice y.1 (spk (bZ6 x)).length y.2)/\
   (0<(spk (bZ6 x)).length->∃g,y.1=some ⟨g,0,none⟩)/\St w (ids (bM7 x)) (bM7 (bJ1 x ins)++[.vec y.1 (spk (bZ6 x)).length y.2 3 1 (bQ1 bQ6 (spk (bZ6 x)))]) w':=by
 obtain ⟨b,N,pb,pc,sv,bw,R,tk,sb,sc,sts,D⟩:=x
 obtain ⟨hN,hR,hW,hsl,hDl,hcells⟩:=hx
 obtain ⟨hpar,hparM,hmap,hmapM,hrows⟩:=hsh
 dsimp only at*
 have hpos:=hN.some
 have hfew:=hN.few
 obtain ⟨d0,hd0⟩:∃d0,D[tk%16]? =some d0:=⟨D[tk%16]'(by omega),qq _⟩
 have hd0l:=hcells d0 (qz hd0)
 obtain ⟨F,hF⟩:=gX (fire N.ps sts d0.l)
 have hFl:F.length=sts.length:=by rw [<-hF,cP0 hsl hd0l,hsl]
 obtain ⟨Mx,hMx⟩:=gX (ids (bM7 ⟨b,N,pb,pc,sv,bw,R,tk,sb,sc,sts,D⟩))
 have hSF:bZ6 ⟨b,N,pb,pc,sv,bw,R,tk,sb,sc,sts,D⟩=F:=by simp only [bZ6,hd0,qV,qY];exact hF
 rw [hMx] at hs hbi hparM hmapM hrows ⊢
 rw [hSF]
 obtain ⟨cs,hcs⟩:=gX (dJ0 ⟨b,N,pb,pc,sv,bw,R,tk,sb,sc,sts,D⟩)
 have hrow:sub cs (6+(((tk:Int)+0)%16).toNat) 1=some [bJ9 d0]:=by
  have:=dL6 (x:=⟨b,N,pb,pc,sv,bw,R,tk,sb,sc,sts,D⟩) rfl hd0
  rw [hcs] at this
  rw [show ((tk:Int)+0)%16=((tk%16:Nat):Int) by omega];exact this
 have h0:sub cs 0 1=some [.slice (some ⟨pb,0,none⟩) N.ps.length pc]:=by rw [<-hcs];rfl
 have h3:sub cs 3 1=some [.map (some bw)]:=by rw [<-hcs];rfl
 have h4:sub cs 4 1=some [.int .i64 (tk:Int)]:=by rw [<-hcs];rfl
 have h5:sub cs 5 1=some [.slice (some ⟨sb,0,none⟩) sts.length sc]:=by rw [<-hcs,cJ0 _ _ _ (by simp [dJ0])];rfl
 unfold bM7 at hs
 dsimp only at hs
 rw [hcs] at hs
 refine enter (C:=Tryz.cx) (F:=mG3) (args:=[_,_]) Tryz.func87 rfl rfl rfl ok87 hs ?_
 repeat' (conv=>whnf);first|(refine VNew.mk fun b2=>?_)|(refine bQ0 93 ?_;refine VCall.inl (F:=lW9) Tryz.func93 rfl rfl rfl lN7 ?_)|(refine VLd.is ?_;refine oC (.row aT h4) ?_)|(refine VLd.is ?_;refine oC (.row aT hrow) ?_)|(refine VSeq.go ?_)|(refine VLd.is ?_;refine VLd.mk (.row aT (by rfl)) ?_)|(refine VAr.is ?_;refine oA ?_)|(refine VIx.is ?_;refine VIx.mk rfl (by omega) (by omega) ?_)|(refine VHs.mk _ (.refl _) ?_)|(refine VM.is ?_;refine oM ?_)
 all_goals (conv=>whnf)
 refine dK4 (α:=Nat×Option Addr×Nat) [1000000,1,2,4,6,15,16] [0,1] rfl rfl (fun x=>x.1<=N.ps.length/\(0<(spk (F.take x.1)).length->∃g,x.2.1=some ⟨g,0,none⟩))
  (fun x K=>(17,.int .i64 (x.1:Int))::(5,.slice x.2.1 (spk (F.take x.1)).length x.2.2)::K)
  (fun x R=>.vec x.2.1 (spk (F.take x.1)).length x.2.2 3 1 (bQ1 bQ6 (spk (F.take x.1)))::.vec (some ⟨sb,0,none⟩) sts.length sc 126 2 (bQ1 cJ6 (kJ5 F sts x.1))::(D.map bY9++R))
  (fun x=>N.ps.length - x.1) (0,none,0) ⟨by simp,by simp [spk,bW8]⟩ aE aH ?_
 ·rintro ⟨i,p,cap⟩ ⟨hi,hp⟩
  dsimp only at*
  rcases qy i N.ps.length with hlt|hge
  ·obtain ⟨q,hq⟩:=hpar.get hlt
   obtain ⟨s,hsi⟩:∃s,sts[i]? =some s:=⟨sts[i]'(by omega),qq _⟩
   obtain ⟨xx,hxx⟩:∃xx,d0.l[i]? =some xx:=⟨d0.l[i]'(by omega),qq _⟩
   have hqo:=hN.ps q (qz hq)
   have hso:=hst i q s hq hsi
   have hT:=hC4 q s xx hqo hso
   have hFi:F[i]? =some (tick q s xx):=by rw [<-hF];exact fZ5 hq hsi hxx
   obtain ⟨⟨s',fb⟩,htk⟩:∃y,tick q s xx=y:=⟨_,rfl⟩
   rw [htk] at hT hFi
   dsimp only at hT
   have hmi:(kJ5 F sts i)[i]? =some s:=by rw [kJ4 hFl (by omega)];exact hsi
   have hset:=kJ3 hFi hFl
   have hspk:=gV8 hFi
   have hlen:=bB5 F i
   dsimp only at hset hspk
   repeat' (conv=>whnf);first|(refine VCall.is ?_;refine VCall.val hT ?_)|(refine VLd.is ?_;refine oC (Rd.seg (f:=bY9) (l:=D) aS hd0 rfl (bQ8 (f:=bQ6) (k:=1) (fun _=>rfl) hxx rfl)) ?_)|(refine VLd.is ?_;refine oC (.row aT h0) ?_)|(refine VLd.is ?_;refine oC (.row aT h5) ?_)|(refine VLd.is ?_;refine oC (hpar.rd0 hparM (fun _=>rfl) hq rfl) ?_)|(refine VLd.is ?_;refine oC (.vec aT (bQ8 (f:=cJ6) (k:=2) (fun _=>rfl) hmi rfl)) ?_)|(refine VSt.is ?_;refine VSt.cast (off':=i*2) (by first|omega|(dsimp only;omega)) (VSt.vec aT (bZ9 (f:=cJ6) (k:=2) (y:=s') (fun _=>rfl) hmi rfl) rfl ?_))|(refine VAp.is ?_;refine VAp.own aT (.at_ (.vec aT rfl)) (by simp [Value.oneCell']) (by (try dsimp only);omega) (by simp only [maxLen];omega) fun p' cap' hp'=>?_)|(refine VSeq.go ?_)|(refine VB.is ?_;refine bX5 (by omega) fun _=>?_)|(refine bT0 (fun h=>?_) (fun h=>?_)<;>subst h)|(refine VLd.is ?_;refine VLd.mk (.row aT (by rfl)) ?_)|(refine VSt.is ?_;refine VSt.row aT (by rfl) (by first|rfl|assumption) ?_)|(refine VNew.mk fun _=>?_)|(refine VAr.is ?_;refine oA ?_)|(refine VIx.is ?_;refine VIx.mk rfl (by omega) (by omega) ?_)|(refine VKeep.is ?_;refine VKeep.mk aH ?_)|(refine VHs.mk _ (.refl _) ?_)|(refine And.intro ?_ ?_)
   all_goals (conv=>whnf)
   all_goals first
    |(simp only [if_true] at hspk
      refine VNext.mk (i+1,p',cap') ⟨by dsimp only;omega,fun _=>hp' (by omega)⟩ (by dsimp only;omega) ?_ ?_
      ·dsimp only;rw [hspk,List.length_append];exact aE
      ·dsimp only;rw [hspk,List.length_append,bQ7,<-hset];exact aH)
    |(simp only [QV,if_false,qC] at hspk
      refine VNext.mk (i+1,p,cap) ⟨by dsimp only;omega,by dsimp only;rw [hspk];exact hp⟩ (by dsimp only;omega) ?_ ?_
      ·dsimp only;rw [hspk];exact aE
      ·dsimp only;rw [hspk,<-hset];exact aH)
  ·have hfull:F.take i=F:=qe (by omega)
   have hmid:kJ5 F sts i=F.map (·.1):=by unfold kJ5;rw [hfull,Qi (by omega),qC]
   rw [hfull,hmid]
   rw [hfull] at hp
   have hy:bY9 ⟨d0.g,d0.cap,List.replicate d0.l.length 0⟩=.vec (some ⟨d0.g,0,none⟩) d0.l.length d0.cap 3 1 (bB1 [.int .i64 0] d0.l.length):=by
    have:=bV3 (f:=bQ6) (x:=0) d0.l.length
    simp only [bY9,Qn,<-this];rfl
   obtain ⟨D1,hD1⟩:=gX (D.set (tk%16) ⟨d0.g,d0.cap,List.replicate d0.l.length 0⟩)
   repeat' (conv=>whnf);first|(refine VCl.is ?_;refine VCl.seg (f:=bY9) (l:=D) aS hd0 rfl hy ?_;rw [hD1])|(refine VLd.is ?_;refine oC (.row aT h3) ?_)|(refine bQ0 139 ?_;refine VCall.inl (F:=lB6) Tryz.func139 rfl rfl rfl mQ7 ?_)|(refine VRange.go (ms:=[]) rfl fun hokx hoky l d L hL=>?_)|(refine bQ0 191 ?_;refine VCall.inl (F:=lF5) Tryz.func191 rfl rfl rfl lS6 ?_)|(refine VSeq.go ?_)|(refine VB.is ?_;refine bZ2 (by omega) fun _=>?_)|(refine VLd.is ?_;refine VLd.mk (.row aT (by rfl)) ?_)|(refine VNew.mk fun _=>?_)
   all_goals (conv=>whnf)
   rename_i b5 b6 b7 b8
   have hD1V:D1.map bJ9=D.map bJ9:=by
    rw [<-hD1,List.map_set]
    apply bJ5
    simp [hd0,bJ9]
   have hsum:∀(D':List DRow) (k:Int),D'.map bJ9=D.map bJ9->∀j,(bD4 tk D' ((bD1 (cJ7 N.syns) k).take j)).map bJ9=D.map bJ9:=fun D' k h j=>(cS3 _ _ _).trans h
   have each:∀(D':List DRow) (k:Int) (K:Value->HP->Prop),D'.map bJ9=D.map bJ9->K (.bool true) (.row b8 358 [.func (.yield l) #[] #[]]::L .ready none::.obj d (.deferred (some []))::.row b7 28 [.slice pi ins.length ci]::.row b6 28 [.slice p (spk F).length cap]::.row b5 202 [.map (some bw)]::.vec p (spk F).length cap 3 1 (bQ1 bQ6 (spk F))::.vec (some ⟨sb,0,none⟩) sts.length sc 126 2 (bQ1 cJ6 (F.map (·.1)))::(List.map bY9 (bD4 tk D' (bD1 (cJ7 N.syns) k))++[.row b2 83 [.pointer (some ⟨b,0,none⟩)],.row b 206 cs]))->
     VCall Tryz.cx.P w Mx (.row b8 358 [.func (.yield l) #[] #[]]::L .ready none::.obj d (.deferred (some []))::.row b7 28 [.slice pi ins.length ci]::.row b6 28 [.slice p (spk F).length cap]::.row b5 202 [.map (some bw)]::.vec p (spk F).length cap 3 1 (bQ1 bQ6 (spk F))::.vec (some ⟨sb,0,none⟩) sts.length sc 126 2 (bQ1 cJ6 (F.map (·.1)))::(List.map bY9 (D')++[.row b2 83 [.pointer (some ⟨b,0,none⟩)],.row b 206 cs])) 192 [.int .i64 k,.pointer (some ⟨b5,0,none⟩),.pointer (some ⟨b8,0,none⟩)] K:=by
    intro D' k K hD' hK
    obtain ⟨ps,cps,g,hlk,hsl',hgM⟩:=ShOk.look (x:=⟨b,N,pb,pc,sv,bw,R,tk,sb,sc,sts,D⟩) ⟨hpar,hparM,hmap,hmapM,hrows⟩ k
    dsimp only at hlk hsl'
    rw [hW] at hlk hsl'
    obtain ⟨ys,hys⟩:=gX (bD1 (cJ7 N.syns) k)
    have hyok:∀s∈ys,dX9 N s:=by
     intro s h
     rw [<-hys,cY2] at h
     exact hN.syns s (qP.1 h).1
    have hylen:ys.length<=8192:=by
     rw [<-hys,cY2]
     have:=qD (fun s:Syn=>decide (s.frm=k)) N.syns
     have:=hN.fewS
     omega
    have hsk:=hsum D' k hD'
    rw [hys] at hlk hsl' hK hsk
    refine VCall.inl (F:=lF4) Tryz.func192 rfl rfl rfl lS5 ?_
    repeat' (conv=>whnf);first|(refine VMp.is ?_;refine VMp.old hmap hmapM ?_)|(refine VLk.is ?_;refine VLk.val hlk ?_)|(refine VSeq.go ?_)|(refine VLd.is ?_;refine VLd.mk (.row aT (by rfl)) ?_)
    all_goals (conv=>whnf)
    refine dK4 (α:=Nat) [1000000,2,4,9,10] [] rfl rfl (fun j=>j<=ys.length) (fun j K=>(11,.int .i64 (j:Int))::K)
     (fun j R=>(.row b8 358 [.func (.yield l) #[] #[]]::L .ready none::.obj d (.deferred (some []))::.row b7 28 [.slice pi ins.length ci]::.row b6 28 [.slice p (spk F).length cap]::.row b5 202 [.map (some bw)]::.vec p (spk F).length cap 3 1 (bQ1 bQ6 (spk F))::.vec (some ⟨sb,0,none⟩) sts.length sc 126 2 (bQ1 cJ6 (F.map (·.1)))::(List.map bY9 (bD4 tk D' (ys.take j))++[.row b2 83 [.pointer (some ⟨b,0,none⟩)],.row b 206 cs]))) (fun j=>ys.length - j) 0 (by simp) aE aH ?_
    intro j hj
    rcases qy j ys.length with hlt|hge
    ·obtain ⟨s,hs'⟩:∃s,ys[j]? =some s:=⟨ys[j],qq _⟩
     have hso:=hyok s (qz hs')
     unfold dX9 cT4 at hso
     obtain ⟨D2,hD2⟩:=gX (bD4 tk D' (ys.take j))
     have hsj:=hsk j
     rw [hD2] at hsj
     have hl2:D2.length=16:=by have:=congrArg List.length hsj;simp only [qv] at this;omega
     obtain ⟨d1,hd1⟩:∃d1,D2[(tk+s.dl.toNat)%16]? =some d1:=⟨D2[(tk+s.dl.toNat)%16]'(by omega),qq _⟩
     obtain ⟨d2,hd2,hd2l⟩:=cC1 hsj hd1
     have hd1l:=hcells d2 (qz hd2)
     obtain ⟨av,ha⟩:∃av,d1.l[s.to.toNat]? =some av:=⟨d1.l[s.to.toNat]'(by omega),qq _⟩
     have hrow1:sub cs (6+(((tk:Int)+s.dl)%16).toNat) 1=some [bJ9 d1]:=by
      have:=dL6 (x:=⟨b,N,pb,pc,sv,bw,R,tk,sb,sc,sts,D⟩) hsj hd1
      rw [hcs] at this
      rw [show (((tk:Int)+s.dl)%16).toNat=(tk+s.dl.toNat)%16 by omega];exact this
     have hset:=kY9 rfl hd1 ha
     have hsn:bD4 tk D' (ys.take (j+1))=kG0 tk D2 s:=by
      rw [qi,hs',qW,gT5,hD2]
     rw [hD2]
     repeat' (conv=>whnf);first|(refine VIx.is ?_;refine VIx.mk (hsl'.ptr (by omega)) (by omega) (by omega) ?_)|(refine VLd.is ?_;refine oC (hsl'.rd0 hgM (fun _=>rfl) hs' rfl) ?_)|(refine VYield.is ?_;refine VYield.go hL hokx hoky aT rfl ?_)|(refine VBegin.is ?_;refine VBegin.mk aT ?_)|(refine VRound.is ?_;refine VRound.mk aT ?_)|(refine bQ0 93 ?_;refine VCall.inl (F:=lW9) Tryz.func93 rfl rfl rfl lN7 ?_)|(refine VLd.is ?_;refine oC (.row aT (h4)) ?_)|(refine VLd.is ?_;refine oC (.row aT (hrow1)) ?_)|(refine VIx.is ?_;refine VIx.mk rfl (by omega) (by omega) ?_)|(refine VLd.is ?_;refine oC (Rd.seg (f:=bY9) (l:=D2) aS hd1 rfl (bQ8 (f:=bQ6) (k:=1) (fun _=>rfl) ha rfl)) ?_)|(refine VAr.is ?_;refine oA ?_)|(refine VAr.is ?_;refine VAr.wadd ?_)|(refine VSt.is ?_;refine VSt.cast (off':=s.to.toNat*1) (by first|omega|(dsimp only;omega)) (VSt.seg (f:=bY9) (l:=D2) (y:=⟨d1.g,d1.cap,d1.l.set s.to.toNat (wadd av s.wt)⟩) aS hd1 rfl (bZ9 (f:=bQ6) (k:=1) (y:=wadd av s.wt) (fun _=>rfl) ha rfl) (by simp [bY9]) rfl ?_))|(refine VSeq.go ?_)|(refine VB.is ?_;refine bX5 (by omega) fun _=>?_)|(refine VLd.is ?_;refine VLd.mk (.row aT (by rfl)) ?_)|(refine VSt.is ?_;refine VSt.row aT (by rfl) (by first|rfl|assumption) ?_)|(refine VNew.mk fun _=>?_)|(refine VKeep.is ?_;refine VKeep.mk aH ?_)|(refine VHs.mk _ (.refl _) ?_)|(refine VM.is ?_;refine oM ?_)
     all_goals (conv=>whnf)
     rw [hset,<-hsn]
     exact VNext.mk (j+1) (by omega) (by omega) aE aH
    ·have hfull:ys.take j=ys:=qe hge
     rw [hfull]
     repeat' (conv=>whnf);first|(refine VSeq.go ?_)|(refine VB.is ?_;refine bZ2 (by omega) fun _=>?_)|(refine VB.split (fun _=>?_) (fun _=>?_))|(refine VLd.is ?_;refine VLd.mk (.row aT (by rfl)) ?_)|(refine VAr.is ?_;refine oA ?_)
     all_goals (conv=>whnf)
     exact hK
   refine dK4 (α:=Nat) [1000000,3,5,11,12] [] rfl rfl (fun j=>j<=(spk F).length) (fun j K=>(13,.int .i64 (j:Int))::K)
    (fun j R=>(.row b8 358 [.func (.yield l) #[] #[]]::L .ready none::.obj d (.deferred (some []))::.row b7 28 [.slice pi ins.length ci]::.row b6 28 [.slice p (spk F).length cap]::.row b5 202 [.map (some bw)]::.vec p (spk F).length cap 3 1 (bQ1 bQ6 (spk F))::.vec (some ⟨sb,0,none⟩) sts.length sc 126 2 (bQ1 cJ6 (F.map (·.1)))::(List.map bY9 (bD4 tk D1 (bK5 (cJ7 N.syns) ((spk F).take j)))++[.row b2 83 [.pointer (some ⟨b,0,none⟩)],.row b 206 cs]))) (fun j=>(spk F).length - j) 0 (by simp) aE aH ?_
   intro j hj
   have hspl:(spk F).length<=1024:=by have:=bB5 F F.length;rw [Qk] at this;omega
   rcases qy j (spk F).length with hlt|hge
   ·obtain ⟨k,hk⟩:∃k,(spk F)[j]? =some k:=⟨(spk F)[j],qq _⟩
    have hVj:(bD4 tk D1 (bK5 (cJ7 N.syns) ((spk F).take j))).map bJ9=D.map bJ9:=(cS3 _ _ _).trans hD1V
    have hsn:bD4 tk (bD4 tk D1 (bK5 (cJ7 N.syns) ((spk F).take j))) (bD1 (cJ7 N.syns) k)=bD4 tk D1 (bK5 (cJ7 N.syns) ((spk F).take (j+1))):=by
     rw [qi,hk,qW,<-dB1,<-dK6]
    obtain ⟨gp,hgp⟩:=hp (by omega)
    subst hgp
    repeat' (conv=>whnf);first|(refine VIx.is ?_;refine VIx.mk rfl (by omega) (by omega) ?_)|(refine VLd.is ?_;refine oC (.vec aT (bQ8 (f:=bQ6) (k:=1) (fun _=>rfl) hk rfl)) ?_)|(refine bQ0 192 ?_;refine each _ _ _ hVj ?_)|(refine VSeq.go ?_)|(refine VB.is ?_;refine bX5 (by omega) fun _=>?_)|(refine VAr.is ?_;refine oA ?_)
    all_goals (conv=>whnf)
    rw [hsn]
    exact VNext.mk (j+1) (by omega) (by omega) aE aH
   ·have hfull:(spk F).take j=spk F:=qe hge
    rw [hfull]
    obtain ⟨D2,hD2⟩:=gX (bD4 tk D1 (bK5 (cJ7 N.syns) (spk F)))
    have hD2V:D2.map bJ9=D.map bJ9:=by rw [<-hD2];exact (cS3 _ _ _).trans hD1V
    rw [hD2]
    repeat' (conv=>whnf);first|(refine VSeq.go ?_)|(refine VB.is ?_;refine bZ2 (by omega) fun _=>?_)|(refine VB.split (fun _=>?_) (fun _=>?_))|(refine VLd.is ?_;refine VLd.mk (.row aT (by rfl)) ?_)|(refine VAr.is ?_;refine oA ?_)
    all_goals (conv=>whnf)
    refine dK4 (α:=Nat) [1000000,5,22,23] [] rfl rfl (fun j=>j<=ins.length) (fun j K=>(24,.int .i64 (j:Int))::K)
     (fun j R=>(.row b8 358 [.func (.yield l) #[] #[]]::L .ready none::.obj d (.deferred (some []))::.row b7 28 [.slice pi ins.length ci]::.row b6 28 [.slice p (spk F).length cap]::.row b5 202 [.map (some bw)]::.vec p (spk F).length cap 3 1 (bQ1 bQ6 (spk F))::.vec (some ⟨sb,0,none⟩) sts.length sc 126 2 (bQ1 cJ6 (F.map (·.1)))::(List.map bY9 (bD4 tk D2 (bK5 (cJ7 N.syns) ((ins.map fun k=> -1 - k).take j)))++[.row b2 83 [.pointer (some ⟨b,0,none⟩)],.row b 206 cs]))) (fun j=>ins.length - j) 0 (by simp) aE aH ?_
    intro j hj
    rcases qy j ins.length with hlt|hge
    ·obtain ⟨k,hk⟩:=hin.get hlt
     have hkb:=hins k (qz hk)
     have hVj:(bD4 tk D2 (bK5 (cJ7 N.syns) ((ins.map fun k=> -1 - k).take j))).map bJ9=D.map bJ9:=(cS3 _ _ _).trans hD2V
     have hsn:bD4 tk (bD4 tk D2 (bK5 (cJ7 N.syns) ((ins.map fun k=> -1 - k).take j))) (bD1 (cJ7 N.syns) (-1 - k))=bD4 tk D2 (bK5 (cJ7 N.syns) ((ins.map fun k=> -1 - k).take (j+1))):=by
      rw [qi,qj,hk,qV,qW,<-dB1,<-dK6]
     repeat' (conv=>whnf);first|(refine VIx.is ?_;refine VIx.mk (hin.ptr (by omega)) (by omega) (by omega) ?_)|(refine VLd.is ?_;refine oC (hin.rd0 hbi (fun _=>rfl) hk rfl) ?_)|(refine bQ0 192 ?_;refine each _ _ _ hVj ?_)|(refine VSeq.go ?_)|(refine VB.is ?_;refine bX5 (by omega) fun _=>?_)|(refine VAr.is ?_;refine oA ?_)
     all_goals (conv=>whnf)
     rw [hsn]
     exact VNext.mk (j+1) (by omega) (by omega) aE aH
    ·have hfull:(ins.map fun k=> -1 - k).take j=ins.map fun k=> -1 - k:=qe (by simpa using hge)
     rw [hfull]
     obtain ⟨D3,hD3⟩:∃D3,bD4 tk D2 (bK5 (cJ7 N.syns) (ins.map fun k=> -1 - k))=D3:=⟨_,rfl⟩
     have hD3V:D3.map bJ9=D.map bJ9:=by rw [<-hD3];exact (cS3 _ _ _).trans hD2V
     rw [hD3]
     have hSt:bJ1 ⟨b,N,pb,pc,sv,bw,R,tk,sb,sc,sts,D⟩ ins=⟨b,N,pb,pc,sv,bw,R,tk+1,sb,sc,F.map (·.1),D3⟩:=by
      unfold bJ1 fR3
      rw [hSF,gP2,dB1,<-hD3,<-hD2,bP5 _ hd0,hD1]
     have hup:upd cs 4 [.int .i64 ((tk:Int)+1)]=some (dJ0 ⟨b,N,pb,pc,sv,bw,R,tk+1,sb,sc,F.map (·.1),D3⟩):=by
      rw [<-hcs]
      simp only [dJ0,hD3V,qv,hFl]
      rfl
     repeat' (conv=>whnf);first|(refine VEnd.is ?_;refine VEnd.mk aT (by simp) ?_)|(refine VLd.is ?_;refine oC (.row aT (h4)) ?_)|(refine VSt.is ?_;refine VSt.cast (off':=4) (by first|omega|(dsimp only;omega)) (VSt.row aT hup rfl ?_))|(refine VUn.is ?_;refine VUn.mk aT ?_)|(refine VSeq.go ?_)|(refine VB.is ?_;refine bZ2 (by omega) fun _=>?_)|(refine VLd.is ?_;refine VLd.mk (.row aT (by rfl)) ?_)|(refine VAr.is ?_;refine oA ?_)
     all_goals (conv=>whnf)
     refine ⟨fun w' hw'=>⟨(p,cap),rfl,hp,?_⟩⟩
     rw [hSt]
     unfold bM7
     simp only [qv,hFl]
     exact hw'.le aH
end Go.Proofs
end
section
namespace Go.Proofs
open Go Go.Vx Go.Gm
def bV7 (t:Int):List Evt->Nat
 |[]=>0
 |x::r=>if x.tick=t then bV7 t r+1 else 0
theorem gB6 (t:Int)(l:List Evt):bV7 t l<=l.length:=by
 induction l with
 |nil=>simp [bV7]
 |cons x r ih=>simp only [bV7];split<;>simp<;>omega
theorem hN7 (t:Int){l:List Evt}{k:Nat}{x:Evt}(hk:k<=bV7 t l)(h:l[k]? =some x):k<bV7 t l<->x.tick=t:=by
 induction l generalizing k with
 |nil=>simp at h
 |cons y r ih=>
  simp only [bV7] at hk ⊢
  cases k with
  |zero=>
   simp only [QX,qK] at h
   subst h
   split<;>simp_all
  |succ k=>
   simp only [Qv] at h
   split at hk
   ·rename_i hy
    simp only [hy,if_true]
    have:=ih (k:=k) (by omega) h
    omega
   ·omega
theorem lN0 (bt:Nat)(l:List Evt)(t:Int)(q:Option Addr)(c b off:Nat)(w:World)(h1:Sl w cP1 2 l q l.length b off)(hc:l.length<=c)(hl:l.length<=65536)(hb:b∉[bt])
  (hs:St w [bt] [.row bt 199 [.slice q l.length c]] w):
  Calls Tryz.prog 88 #[.pointer (some ⟨bt,0,none⟩),.int .i64 t] w fun e w'=>∃y:Option Addr×Nat,e=.returned (.slice y.1 (bV7 t l) y.2)/\(0<bV7 t l->∃g,y.1=some ⟨g,0,none⟩)/\
   St w [bt] [.row bt 199 [.slice (advs 2 (bV7 t l) (q,c)).1 (l.length - bV7 t l) (advs 2 (bV7 t l) (q,c)).2],.vec y.1 (bV7 t l) y.2 3 1 (bQ1 bQ6 ((l.take (bV7 t l)).map (·.id)))] w':=by
 refine enter (C:=Tryz.cx) (args:=[_,_]) (F:=mG2) Tryz.func88 rfl rfl rfl ok88 hs ?_
 have hle:=gB6 t l
 repeat' (conv=>whnf);first|(refine VSeq.go ?_)|(refine VB.is ?_;refine bZ2 (by omega) fun _=>?_)|(refine VB.split (fun _=>?_) (fun _=>?_))|(refine VLd.is ?_;refine VLd.mk (.row aT (by rfl)) ?_)|(refine VAr.is ?_;refine oA ?_)
 all_goals (conv=>whnf)
 refine bF2 (α:=Nat×Option Addr×Nat) [1000000,0,1,4] rfl (fun x=>x.1<=bV7 t l/\(0<x.1->∃g,x.2.1=some ⟨g,0,none⟩)) (fun x K=>(5,.slice x.2.1 x.1 x.2.2)::K)
  (fun x=>[.row bt 199 [.slice (advs 2 x.1 (q,c)).1 (l.length - x.1) (advs 2 x.1 (q,c)).2],.vec x.2.1 x.1 x.2.2 3 1 (bQ1 bQ6 ((l.take x.1).map (·.id)))]) (fun x=>l.length - x.1) (0,none,0) ⟨by simp,by simp⟩ aE aH ?_
 rintro ⟨k,p,cap⟩ ⟨hk,hp⟩
 dsimp only at*
 obtain ⟨⟨qk,ck⟩,hx⟩:∃x,advs 2 k (q,c)=x:=⟨_,rfl⟩
 have hck:ck=c - k:=by have:=fK2 2 k (q,c);rw [hx] at this;exact this
 rw [hx]
 obtain ⟨off',hsl⟩:=h1.advs (fun _=>rfl) hc k (by omega)
 rw [hx] at hsl
 dsimp only at hsl
 rcases qy k l.length with hlt|hge
 ·obtain ⟨x,hxk⟩:=h1.get hlt
  have hx0:(l.drop k)[0]? =some x:=by rw [Qy];exact hxk
  have hat:=hN7 t hk hxk
  have hptr:=hsl.ptr (by simp;omega)
  repeat' (conv=>whnf);first|(refine VIx.is ?_;refine VIx.mk hptr (by omega) (by omega) ?_)|(refine VLd.is ?_;refine oC (hsl.rd (o:=0) (s:=1) hb (fun _=>rfl) hx0 rfl) ?_)|(refine VLd.is ?_;refine oC (hsl.rd (o:=1) (s:=1) hb (fun _=>rfl) hx0 rfl) ?_)|(refine VAp.is ?_;refine VAp.own aT (.at_ (.vec aT rfl)) (by simp [Value.oneCell']) (by (try dsimp only);omega) (by simp only [maxLen];omega) fun p' cap' hp'=>?_)|(refine VSl.is ?_;refine VSl.adv1 (by omega) (by omega) ?_)|(refine VSeq.go ?_)|(refine VB.is ?_;refine bX5 (by omega) fun _=>?_)|(refine VB.split (fun _=>?_) (fun _=>?_))|(refine VLd.is ?_;refine VLd.mk (.row aT (by rfl)) ?_)|(refine VSt.is ?_;refine VSt.row aT (by rfl) (by first|rfl|assumption) ?_)|(refine VNew.mk fun _=>?_)
  all_goals (conv=>whnf)
  ·have hk1:k+1<=bV7 t l:=hat.2 ‹_›
   refine VNext.mk (k+1,p',cap') ⟨hk1,fun _=>hp' (by omega)⟩ (by dsimp only;omega) aE ?_
   dsimp only
   rw [cY0,hx,qi,hxk,qW,ql,bQ7]
   exact aH
  ·have hke:k=bV7 t l:=by have:¬k<bV7 t l:=fun h=>absurd (hat.1 h) ‹_›;omega
   rw [<-hke,hx]
   exact ⟨fun w' hw'=>⟨(p,cap),rfl,hp,hw'⟩⟩
 ·have hke:k=bV7 t l:=by omega
  repeat' (conv=>whnf);first|(refine VSeq.go ?_)|(refine VB.is ?_;refine bZ2 (by omega) fun _=>?_)|(refine VB.split (fun _=>?_) (fun _=>?_))|(refine VLd.is ?_;refine VLd.mk (.row aT (by rfl)) ?_)|(refine VAr.is ?_;refine oA ?_)
  all_goals (conv=>whnf)
  rw [<-hke,hx]
  exact ⟨fun w' hw'=>⟨(p,cap),rfl,hp,hw'⟩⟩
structure Sm where
 sts:List Sta
 D:List (List Int)
def bP3 (N:Net)(t:Nat)(x:Sm)(ins:List Int):Sm:=
 let F:=fire N.ps x.sts ((x.D[t%16]?).getD [])
 ⟨F.map (·.1),(bK5 (cJ7 N.syns) (spk F++ins.map fun k=> -1 - k)).foldl (fJ1 t) (x.D.modify (t%16) fun l=>List.replicate l.length 0)⟩
def bD3 (N:Net)(t:Nat)(x:Sm):List Int:=spk (fire N.ps x.sts ((x.D[t%16]?).getD []))
def hT8 (x:SimM):Sm:=⟨x.sts,x.D.map (·.l)⟩
theorem fY0 (x:SimM)(ins:List Int):hT8 (bJ1 x ins)=bP3 x.N x.tick (hT8 x) ins:=by
 unfold hT8 bJ1 bP3 bZ6 fR3
 simp only [lQ3,qj]
 congr 2
 apply qp
 intro i
 simp only [qj,qS]
 split<;>cases x.D[i]?<;>simp
theorem lX6 {w0:World}{M:List Nat}{H r:HP}{K:Value->HP->Prop}{u:Ent->HP}(bt:Nat)(l:List Evt)(t:Int)(q:Option Addr)(c b off:Nat)(hat:At H (.row bt 199 [.slice q l.length c]) u r)
  (h1:Sl w0 cP1 2 l q l.length b off) (hM:b∉M) (hc:l.length<=c) (hl:l.length<=65536)
  (hk:∀p cap,(0<bV7 t l->∃g,p=some ⟨g,0,none⟩)->
   K (.slice p (bV7 t l) cap) (.row bt 199 [.slice (advs 2 (bV7 t l) (q,c)).1 (l.length - bV7 t l) (advs 2 (bV7 t l) (q,c)).2]::.vec p (bV7 t l) cap 3 1 (bQ1 bQ6 ((l.take (bV7 t l)).map (·.id)))::r)):
  VCall Tryz.cx.P w0 M H 88 [.pointer (some ⟨bt,0,none⟩),.int .i64 t] K:=by
 refine gJ7 (α:=Option Addr×Nat) (p:=fun y=>0<bV7 t l->∃g,y.1=some ⟨g,0,none⟩) (v:=fun y=>.slice y.1 (bV7 t l) y.2) (G:=fun y=>[.row bt 199 [.slice (advs 2 (bV7 t l) (q,c)).1 (l.length - bV7 t l) (advs 2 (bV7 t l) (q,c)).2],.vec y.1 (bV7 t l) y.2 3 1 (bQ1 bQ6 ((l.take (bV7 t l)).map fun e:Evt=>e.id))]) hat (fun w hw hs=>?_) (fun y hy=>hk y.1 y.2 hy)
 obtain ⟨b',off',h2,hb⟩:=h1.oldOut hM hw (S:=[.row bt 199 [.slice q l.length c]]) (.cons hat .nil) (fun _=>rfl) (by omega)
 exact lN0 bt l t q c b' off' w h2 hc hl hb hs
def StaAll (N:Net)(sts:List Sta):Prop:=∀(i:Nat) p s,N.ps[i]? =some p->sts[i]? =some s->bD9 p s
theorem hZ0 {w0:World}{M:List Nat}{H:HP}{Z:HP->HP}{K:Value->HP->Prop}(x:SimM)(hx:SimOk x)(ht:x.tick<10000)(hst:StaAll x.N x.sts)(ins:List Int)(hins:∀k∈ins,0<=k/\k<=256)(hil:ins.length<=65536)
  (p:Option Addr) (n c:Nat) (hn:n=ins.length) (hat:AtS H (bM7 x) Z) (hl:HLe (bM7 x++dW4 x) H) (hin:HLe (.vec p n c 3 1 (bQ1 bQ6 ins)::bM7 x) H)
  (hk:∀q cap,(0<(spk (bZ6 x)).length->∃g,q=some ⟨g,0,none⟩)->K (.slice q (spk (bZ6 x)).length cap) (.vec q (spk (bZ6 x)).length cap 3 1 (bQ1 bQ6 (spk (bZ6 x)))::Z (bM7 (bJ1 x ins)))):
  VCall Tryz.cx.P w0 M H 87 [.pointer (some ⟨x.b,0,none⟩),.slice p n c] K:=by
 subst hn
 refine cZ9 (α:=Option Addr×Nat) (fun y=>.slice y.1 (spk (bZ6 x)).length y.2) (fun y=>0<(spk (bZ6 x)).length->∃g,y.1=some ⟨g,0,none⟩) (fun y=>bM7 (bJ1 x ins)) (fun y=>[.vec y.1 (spk (bZ6 x)).length y.2 3 1 (bQ1 bQ6 (spk (bZ6 x)))]) hat (fun w hw hs=>?_) (fun y hy=>hk y.1 y.2 hy)
 obtain ⟨bi,h2,hb⟩:=bF6 hw hin (fun _=>rfl) rfl
 have hsh:ShOk w (ids (bM7 x)) x:=ShOk.of (hw.le hl) .here hx.rows (fun y hy=>by simpa using hy)
 exact gV5 x hx ht hst ins hins hil p c bi 0 w hs hsh h2 hb
end Go.Proofs
end
section
namespace Go.Proofs
open Go Go.Vx Go.Gm
theorem hJ3 (x:SimM)(ins:List Int):(bJ1 x ins).D.map bJ9=x.D.map bJ9:=by
 refine (cS3 _ _ _).trans ?_
 apply qp
 intro i
 simp only [qj,qS]
 split<;>cases x.D[i]?<;>simp [bJ9]
theorem SimOk.row {x:SimM}(hx:SimOk x):∃d,x.D[x.tick%16]? =some d/\d.l.length=x.N.ps.length:=by
 have h:=hx.due
 refine ⟨x.D[x.tick%16]'(by omega),qq _,hx.cells _ (Qu _)⟩
theorem SimOk.fire {x:SimM}(hx:SimOk x):(bZ6 x).length=x.N.ps.length:=by
 obtain ⟨d,h1,h2⟩:=hx.row
 unfold bZ6
 rw [h1]
 exact cP0 hx.sts h2
theorem SimOk.step {x:SimM}(hx:SimOk x)(ins:List Int):SimOk (bJ1 x ins):=by
 have hV:=hJ3 x ins
 have hl:(bJ1 x ins).D.length=x.D.length:=by simpa using congrArg List.length hV
 refine ⟨hx.net,hx.rows,hx.wired,?_,hl.trans hx.due,fun d hd=>?_,hx.sv⟩
 ·show ((bZ6 x).map (·.1)).length=x.N.ps.length
  rw [qv,hx.fire]
 ·obtain ⟨i,hi⟩:=jh hd
  obtain ⟨d0,h1,h2⟩:=cC1 hV hi
  rw [<-h2]
  exact hx.cells d0 (qz h1)
theorem StaAll.step {x:SimM}(hx:SimOk x)(hs:StaAll x.N x.sts)(ins:List Int):StaAll (bJ1 x ins).N (bJ1 x ins).sts:=by
 intro i p s h1 h2
 change x.N.ps[i]? =some p at h1
 change ((bZ6 x).map (·.1))[i]? =some s at h2
 obtain ⟨d,g1,g2⟩:=hx.row
 have hlt:i<x.N.ps.length:=(qx.1 h1).1
 have hsl:=hx.sts
 have e1:x.sts[i]? =some (x.sts[i]'(by omega)):=qq _
 have e2:d.l[i]? =some (d.l[i]'(by omega)):=qq _
 have e3:=fZ5 h1 e1 e2
 unfold bZ6 at h2
 rw [g1] at h2
 rw [qV,qY,qj,e3] at h2
 simp only [qV,qK] at h2
 subst h2
 exact hQ7 (hx.net.ps p (qz h1)) (hs i p _ h1 e1) _
def bS0 (N:Net):Nat->Nat->Sm->List Evt->List Evt->Option (List Evt)
 |0,_,_,_,out=>some out
 |n+1,t,x,l,out=>
  let out':=out++(bD3 N t x).map fun i=>⟨t,i⟩
  if 65536<out'.length then none
  else bS0 N n (t+1) (bP3 N t x ((l.take (bV7 t l)).map fun e=>e.id)) (l.drop (bV7 t l)) out'
def sm0 (N:Net):Sm:=⟨List.replicate N.ps.length ⟨0,0⟩,List.replicate 16 (List.replicate N.ps.length 0)⟩
def bT9 (N:Net)(l:List Evt)(ticks:Int):List Evt×Int:=
 if bY6 N l ticks 10000≠0 then ([],bY6 N l ticks 10000)
 else match bS0 N ticks.toNat 0 (sm0 N) l [] with
  |none=>([],8)
  |some out=>(out,0)
theorem cK9 {N:Net}{l:List Evt}{ticks limit:Int}:bY6 N l ticks limit=0<->NetOk N/\(0<=ticks/\ticks<=limit)/\EvOk N.inputs limit l:=by
 unfold bY6
 rw [<-bJ4,<-gT3]
 constructor
 ·intro h
  split at h
  ·contradiction
  ·split at h
   ·cases h
   ·exact ⟨by omega,by omega,h⟩
 ·rintro ⟨h1,h2,h3⟩
  rw [jk (by omega),jk (by omega)]
  exact h3
def SimM.put (x:SimM)(t:Nat)(sts:List Sta)(D:List DRow):SimM:={x with tick:=t,sts:=sts,D:=D}
structure RunS where
 t:Nat
 sts:List Sta
 D:List DRow
 k:Nat
 out:List Evt
 p:Option Addr
 cap:Nat
theorem hC6 (N:Net)(hN:N.wf)(l:List Evt)(hl:∀x∈l,x.wf)(ticks:Int)(pn:Option Addr)(cn bn on:Nat)(qs:Option Addr)(cs bs os:Nat)(pe:Option Addr)(ce be oe:Nat)(w:World)
  (h1:Sl w bH3 8 N.ps pn N.ps.length bn on) (h2:Sl w bP1 4 N.syns qs N.syns.length bs os) (h3:Sl w cP1 2 l pe l.length be oe) (hce:l.length<=ce):
  Calls Tryz.prog 28 #[.agg #[.slice pn N.ps.length cn,.int .i64 N.inputs,.slice qs N.syns.length cs],.slice pe l.length ce,.int .i64 ticks] w fun e w'=>∃y:Option Addr×Nat,
   e=.returned (.tuple #[.slice y.1 (bT9 N l ticks).1.length y.2,.int .i64 (bT9 N l ticks).2])/\True/\St w [] [.vec y.1 (bT9 N l ticks).1.length y.2 67 2 (bQ1 cP1 (bT9 N l ticks).1)] w':=by
 refine enter (C:=Tryz.cx) (args:=[_,_,_]) (F:=mB6) Tryz.func28 rfl rfl rfl ok28 (St.start w []) ?_
 have hpz:=@cK9 N l ticks 10000
 repeat' (conv=>whnf);first|(refine bQ0 85 ?_;refine bQ4 (fun w' hw'=>fG8 N hN l hl ticks 10000 (by omega) _ _ _ _ _ _ _ _ _ _ _ _ _ (h1.keep hw' (by simp)) (h2.keep hw' (by simp)) (h3.keep hw' (by simp))) ?_)|(refine VCall.is ?_;refine bQ0 86 ?_;refine bQ2 (fun w' hw'=>dW0 N (hpz.1 (by omega)).1 _ _ _ _ _ _ _ _ _ (h1.keep hw' (by simp)) (h2.keep hw' (by simp))) ?_;rintro x ⟨hx,hxN,hxt,hxs,hxD⟩)|(refine VSeq.go ?_)|(refine VB.split (fun _=>?_) (fun _=>?_))|(refine VLd.is ?_;refine VLd.mk (.row aT (by rfl)) ?_)|(refine VNew.mk fun _=>?_)
 all_goals (conv=>whnf)
 ·refine ⟨fun w' hw'=>⟨(none,0),?_,trivial,?_⟩⟩
  ·unfold bT9;rw [jw ‹_›];rfl
  ·unfold bT9;rw [jw ‹_›];exact hw'.le aH
 have h0:bY6 N l ticks 10000=0:=by omega
 obtain ⟨hNok,hticks,hev⟩:=hpz.1 h0
 have hres:bT9 N l ticks=match bS0 N ticks.toNat 0 (sm0 N) l [] with|none=>([],8)|some out=>(out,0):=by
  unfold bT9;rw [jk (by omega)]
 rename_i b3 bt
 have hput:x.put 0 x.sts x.D=x:=by cases x;dsimp only at hxt;subst hxt;rfl
 have hst0:StaAll x.N x.sts:=by
  intro i p s g1 g2
  rw [hxs,QB] at g2
  split at g2
  ·cases g2
   have:=(hx.net.ps p (qz g1))
   have h1:=this.fl
   have h2:=this.rest
   unfold bD9
   dsimp only
   omega
  ·cases g2
 have hsm0:hT8 x=sm0 N:=by unfold hT8 sm0;rw [hxs,hxD]
 refine bF2 (α:=RunS) [1000000,6,7,9,10,27] rfl
  (fun y=>y.t<=ticks.toNat/\SimOk (x.put y.t y.sts y.D)/\StaAll x.N y.sts/\y.k<=l.length/\y.out.length<=65536/\bS0 N ticks.toNat 0 (sm0 N) l []=bS0 N (ticks.toNat - y.t) y.t ⟨y.sts,y.D.map (·.l)⟩ (l.drop y.k) y.out)
  (fun y K=>(28,.int .i64 (y.t:Int))::(11,.slice y.p y.out.length y.cap)::K)
  (fun y=>.vec y.p y.out.length y.cap 67 2 (bQ1 cP1 y.out)::.row bt 199 [.slice (advs 2 y.k (pe,ce)).1 (l.drop y.k).length (advs 2 y.k (pe,ce)).2]::(bM7 (x.put y.t y.sts y.D)++dW4 x))
  (fun y=>ticks.toNat - y.t) ⟨0,x.sts,x.D,0,[],none,0⟩ ⟨by simp,by rw [hput];exact hx,hst0,by simp,by simp,by rw [<-hsm0];rfl⟩ aE ?_ ?_
 ·dsimp only
  rw [hput]
  unfold kB8
  rw [qJ]
  exact aH
 ·rintro ⟨t,sts,D,k,out,p,cap⟩ ⟨g1,g2,g3,g4,g5,g6⟩
  dsimp only at*
  rcases qy t ticks.toNat with hlt|hge
  ·obtain ⟨⟨qk,ck⟩,hxa⟩:∃x,advs 2 k (pe,ce)=x:=⟨_,rfl⟩
   have hck:ck=ce - k:=by have:=fK2 2 k (pe,ce);rw [hxa] at this;exact this
   rw [hxa]
   obtain ⟨off',hsl⟩:=h3.advs (fun _=>rfl) hce k g4
   rw [hxa] at hsl
   dsimp only at hsl
   obtain ⟨l',hl'⟩:∃l',l.drop k=l':=⟨_,rfl⟩
   have hl'n:l'.length=l.length - k:=by rw [<-hl',Qs]
   have hfew:=hev.few
   rw [hl'] at hsl g6 ⊢
   obtain ⟨ins,hins⟩:∃ins:List Int,(l'.take (bV7 t l')).map (fun e=>e.id)=ins:=⟨_,rfl⟩
   have hal:=gB6 t l'
   have hinl:bV7 t l'=ins.length:=by rw [<-hins,qv,qh];omega
   have hinr:∀k∈ins,0<=k/\k<=256:=by
    intro i hi
    rw [<-hins] at hi
    obtain ⟨e,he,rfl⟩:=qo.1 hi
    have:=hev.range e (List.mem_of_mem_drop (by rw [hl'];exact List.mem_of_mem_take he))
    have:=hNok.inputs
    omega
   repeat' (conv=>whnf);first|(refine bQ0 88 ?_;(refine lX6 bt l' t qk ck be off' aT hsl (by simp) (by omega) (by omega) fun p1 cap1 hp1=>?_;rw [hins]))|(refine bQ0 87 ?_;refine hZ0 (x.put t sts D) g2 (by dsimp only [SimM.put];omega) g3 ins hinr (by omega) p1 _ cap1 hinl aS aH aH fun q cap' hq=>?_)|(refine VSeq.go ?_)|(refine VB.is ?_;refine bX5 (by omega) fun _=>?_)
   all_goals (conv=>whnf)
   obtain ⟨sp,hsp⟩:=gX (spk (bZ6 (x.put t sts D)))
   have hspl:sp.length<=1024:=by
    have:=bB5 (bZ6 (x.put t sts D)) (bZ6 (x.put t sts D)).length
    rw [Qk,hsp,g2.fire] at this
    have:=g2.net.few
    omega
   have hring:bD3 N t ⟨sts,D.map (·.l)⟩=sp:=by
    rw [<-hsp,<-hxN]
    simp only [bD3,bZ6,SimM.put,qj]
   have hringS:bP3 N t ⟨sts,D.map (·.l)⟩ ins=hT8 (bJ1 (x.put t sts D) ins):=by
    rw [fY0,<-hxN];rfl
   rw [hsp] at hq
   rw [hsp]
   refine bF2 (α:=Nat×Option Addr×Nat) [1000000,6,7,9,10,12,27,28,35,36] rfl (fun y=>y.1<=sp.length)
    (fun y K=>(37,.int .i64 (y.1:Int))::(11,.slice y.2.1 (out++(sp.take y.1).map fun i=>(⟨t,i⟩:Evt)).length y.2.2)::K)
    (fun y=>.vec y.2.1 (out++(sp.take y.1).map fun i=>(⟨t,i⟩:Evt)).length y.2.2 67 2 (bQ1 cP1 (out++(sp.take y.1).map fun i=>(⟨t,i⟩:Evt)))::.vec q sp.length cap' 3 1 (bQ1 bQ6 sp)::
     .row bt 199 [.slice (advs 2 (bV7 t l') (qk,ck)).1 (l'.length - bV7 t l') (advs 2 (bV7 t l') (qk,ck)).2]::(bM7 (bJ1 (x.put t sts D) ins)++dW4 x))
    (fun y=>sp.length - y.1) (0,p,cap) (by simp) (by dsimp only;simp only [List.take_zero,List.map_nil,List.append_nil];exact aE) (by dsimp only;simp only [List.take_zero,List.map_nil,List.append_nil];exact aH) ?_
   rintro ⟨j,pj,capj⟩ hj
   dsimp only at*
   obtain ⟨oj,hoj⟩:∃oj,out++(sp.take j).map (fun i=>(⟨t,i⟩:Evt))=oj:=⟨_,rfl⟩
   have hojl:oj.length=out.length+j:=by rw [<-hoj];simp;omega
   rw [hoj]
   rcases qy j sp.length with hltj|hgej
   ·obtain ⟨i,hi⟩:∃i,sp[j]? =some i:=⟨sp[j],qq _⟩
    obtain ⟨gq,hgq⟩:=hq (by omega)
    subst hgq
    have hon:out++(sp.take (j+1)).map (fun i=>(⟨t,i⟩:Evt))=oj++[⟨t,i⟩]:=by
     rw [qi,hi,qW,ql,<-qJ,hoj];rfl
    repeat' (conv=>whnf);first|(refine VIx.is ?_;refine VIx.mk rfl (by omega) (by omega) ?_)|(refine VLd.is ?_;refine oC (.vec aT (bQ8 (f:=bQ6) (k:=1) (fun _=>rfl) hi rfl)) ?_)|(refine VAp.is ?_;refine VAp.own aT (.at_ (.vec aT rfl)) (by simp [Value.oneCell']) (by (try dsimp only);omega) (by simp only [maxLen];omega) fun p' cap' hp'=>?_)|(refine VSeq.go ?_)|(refine VB.is ?_;refine bX5 (by omega) fun _=>?_)|(refine VNew.mk fun _=>?_)|(refine VAr.is ?_;refine oA ?_)
    all_goals (conv=>whnf)
    refine VNext.mk (j+1,p',cap') (by dsimp only;omega) (by dsimp only;omega) ?_ ?_
    ·dsimp only;rw [hon,List.length_append];exact aE
    ·dsimp only;rw [hon,List.length_append,bQ7];exact aH
   ·have hfull:out++sp.map (fun i=>(⟨t,i⟩:Evt))=oj:=by rw [<-hoj,qe hgej]
    have hrun:bS0 N ticks.toNat 0 (sm0 N) l []=if 65536<oj.length then none else bS0 N (ticks.toNat - (t+1)) (t+1) (hT8 (bJ1 (x.put t sts D) ins)) (l'.drop (bV7 t l')) oj:=by
     rw [g6]
     obtain ⟨n,hn⟩:∃n,ticks.toNat - t=n+1:=⟨ticks.toNat - t - 1,by omega⟩
     rw [hn,show ticks.toNat - (t+1)=n by omega]
     simp only [bS0,hring,hfull,hins,hringS]
    repeat' (conv=>whnf);first|(refine VSeq.go ?_)|(refine VB.is ?_;refine bZ2 (by omega) fun _=>?_)|(refine VB.split (fun _=>?_) (fun _=>?_))|(refine VLd.is ?_;refine VLd.mk (.row aT (by rfl)) ?_)|(refine VAr.is ?_;refine oA ?_)
    all_goals (conv=>whnf)
    ·have hr:bT9 N l ticks=([],8):=by rw [hres,hrun,jw (by omega)]
     rw [hr]
     exact ⟨fun w' hw'=>⟨(none,0),rfl,trivial,hw'.le aH⟩⟩
    ·rw [jk (by omega)] at hrun
     refine VNext.mk ⟨t+1,(bJ1 (x.put t sts D) ins).sts,(bJ1 (x.put t sts D) ins).D,k+bV7 t l',oj,pj,capj⟩ ⟨by dsimp only;omega,SimOk.step g2 ins,StaAll.step g2 g3 ins,by dsimp only;omega,by dsimp only;omega,?_⟩ (by dsimp only;omega) aE ?_
     ·rw [hrun,<-hl',List.drop_drop];rfl
     ·dsimp only
      have e:(l.drop (k+bV7 t l')).length=l'.length - bV7 t l':=by rw [Qs];omega
      have ePut:x.put (t+1) (bJ1 (x.put t sts D) ins).sts (bJ1 (x.put t sts D) ins).D=bJ1 (x.put t sts D) ins:=rfl
      rw [e,kH6,hxa,ePut]
      exact aH
  ·repeat' (conv=>whnf);first|(refine VSeq.go ?_)|(refine VB.is ?_;refine bZ2 (by omega) fun _=>?_)
   all_goals (conv=>whnf)
   have hrun:bT9 N l ticks=(out,0):=by
    rw [hres,g6,show ticks.toNat - t=0 by omega];rfl
   rw [hrun]
   exact ⟨fun w' hw'=>⟨(p,cap),rfl,trivial,hw'.le aH⟩⟩
end Go.Proofs
end
