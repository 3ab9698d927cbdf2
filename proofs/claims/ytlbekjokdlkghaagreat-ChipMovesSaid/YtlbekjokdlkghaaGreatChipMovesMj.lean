import Derived.Test.YtlbekjokdlkghaaGreatChipMovesMi
set_option linter.unusedVariables false
set_option linter.unusedSimpArgs false
set_option maxHeartbeats 4000000
namespace Go.Gm
theorem kH2 {n k:Nat}{q:Nat×Nat->Prop}(h:∀p:Nat×Nat,p.1<p.2->p.2<n->gZ5 k n p->q p):∀p:Nat×Nat,p.1<p.2->p.2<n->gZ5 (k+1) 0 p->q p:=fun p h1 h2 h3=>h p h1 h2 (by
 unfold gZ5 at*
 rcases h3 with h3|h3
 ·by_cases e:p.1=k
  ·exact .inr ⟨e,h2⟩
  ·exact .inl (by omega)
 ·omega)
theorem kH3 {n k:Nat}{q:Nat×Nat->Prop}(h:∀p:Nat×Nat,p.1<p.2->p.2<n->gZ5 k 0 p->q p):∀p:Nat×Nat,p.1<p.2->p.2<n->gZ5 k (k+1) p->q p:=fun p h1 h2 h3=>h p h1 h2 (by
 unfold gZ5 at*
 omega)
theorem fM6 {n k j:Nat}{q:Nat×Nat->Prop}(h:∀p:Nat×Nat,p.1<p.2->p.2<n->gZ5 k j p->q p)(h0:q (k,j)):∀p:Nat×Nat,p.1<p.2->p.2<n->gZ5 k (j+1) p->q p:=fun p h1 h2 h3=>by
 by_cases e:p=(k,j)
 ·rw [e];exact h0
 ·refine h p h1 h2 ?_
  unfold gZ5 at*
  obtain ⟨a,b⟩:=p
  simp only [Prod.mk.injEq] at e
  dsimp only at*
  omega
end Go.Gm
namespace Go.Proofs
open Go Go.Vx Go.Gm
theorem fZ8 (x:Ety):sub (bY1 x) 0 3=some [.int .i64 x.key,.int .i64 x.mask,.int .i64 x.outs]:=rfl
theorem dH2 (want l:List Ety)(hw:∀x∈want,EtyOk x)(hl:∀x∈l,EtyOk x)(hll:l.length<=65536)(keys:List Int)(hk:∀k∈keys,0<=k/\k<=65535)(hkl:keys.length<=65536)(b3 b6:Nat)(pk:Option Addr)(ck bk ok:Nat)(pw:Option Addr)(cw bw ow:Nat)(p:Option Addr)(c b o:Nat)(w:World)
  (h3:Cells w b3 0 [.slice pk keys.length ck]) (h6:Cells w b6 0 [.slice pw keys.length cw]) (hsk:Sl w bQ6 1 keys pk keys.length bk ok) (hsw:Sl w bQ6 1 (cK0 want keys) pw keys.length bw ow) (h1:Sl w bY1 3 l p l.length b o):
  Calls Tryz.prog 126 #[.slice p l.length c,.func (.func 124) #[] #[.pointer (some ⟨b3,0,none⟩),.pointer (some ⟨b6,0,none⟩)]] w fun e w'=>
   (∃t g cz,bK2 want l keys=some t/\e=.returned (.tuple #[.slice (some ⟨g,0,none⟩) t.length cz,.bool true])/\St w [] [.vec (some ⟨g,0,none⟩) t.length cz 180 3 (bQ1 bY1 t)] w')\/
   (bK2 want l keys=none/\e=.returned (.tuple #[.slice p l.length c,.bool false])/\St w [] [] w'):=by
 refine enter (C:=Tryz.cx) (F:=lP7) (args:=[_,_]) Tryz.func126 rfl rfl rfl mX8 (St.start w []) ?_
 repeat' (conv=>whnf);first|(refine VSeq.go ?_)|(refine VB.is ?_;refine bZ2 (by omega) fun _=>?_)|(refine VAr.is ?_;refine oA ?_)
 all_goals (conv=>whnf)
 refine VLoop.mk (α:=Nat) (fun k=>k<=l.length/\∀q:Nat×Nat,q.1<q.2->q.2<l.length->gZ5 k 0 q->hT7 want l keys q=none) (fun k=>[(1000000,.tuple #[]),(0,.slice p l.length c),(1,.func (.func 124) #[] #[.pointer (some ⟨b3,0,none⟩),.pointer (some ⟨b6,0,none⟩)]),(4,.slice none 0 0),(5,.bool false),(12,.slice p l.length c),(13,.int .i64 (l.length:Int)),(14,.int .i64 (k:Int))])
  (fun _=>[]) (fun k=>l.length - k) 0 ⟨qB _,fun q _ _ h=>by unfold gZ5 at h;omega⟩ aE aH ?_
 rintro k ⟨hkb,hb⟩
 rcases qy k l.length with hlt|hge
 ·obtain ⟨x,hx⟩:=h1.get hlt
  have hxo:=hl x (qz hx)
  have hbb:=kH3 hb
  clear hb
  repeat' (conv=>whnf);first|(refine VNew.mk fun b7=>?_)|(refine VIx.is ?_;refine VIx.mk (h1.ptr (by omega)) (by omega) (by omega) ?_)|(refine VLd.is ?_;refine oC (h1.rd0 (by simp) (fun _=>rfl) hx (fZ8 x)) ?_)|(refine VSeq.go ?_)|(refine VB.is ?_;refine bX5 (by omega) fun _=>?_)|(refine VSt.is ?_;refine VSt.row aT (by rfl) (by first|rfl|assumption) ?_)|(refine VAr.is ?_;refine oA ?_)
  all_goals (conv=>whnf)
  refine VLoop.mk (α:=Nat) (fun j=>k<j/\j<=l.length/\∀q:Nat×Nat,q.1<q.2->q.2<l.length->gZ5 k j q->hT7 want l keys q=none) (fun j=>[(1000000,.tuple #[]),(0,.slice p l.length c),(1,.func (.func 124) #[] #[.pointer (some ⟨b3,0,none⟩),.pointer (some ⟨b6,0,none⟩)]),(4,.slice none 0 0),(5,.bool false),(6,.int .i64 (k:Int)),(7,.pointer (some ⟨b7,0,none⟩)),(8,.int .i64 (j:Int)),(12,.slice p l.length c),(13,.int .i64 (l.length:Int)),(14,.int .i64 (k:Int))])
   (fun _=>[.row b7 180 [.int .i64 x.key,.int .i64 x.mask,.int .i64 x.outs]]) (fun j=>l.length - j) (k+1) ⟨by omega,by omega,hbb⟩ aE aH ?_
  clear hbb
  rintro j ⟨hkj,hjl,hb⟩
  rcases qy j l.length with hjt|hge
  ·obtain ⟨y,hy⟩:=h1.get hjt
   have hyo:=hl y (qz hy)
   have hjoin:=fun w'=>kV2 x y hxo hyo w'
   have hjok:=fun z=>hH6 (y:=y) (z:=z) hxo
   have htr:hT7 want l keys (k,j)=match fX6 x y with
     |some z=>if cK6 want (bY7 l k j z) keys=true then some (bY7 l k j z) else none
     |none=>none:=by
    unfold hT7
    dsimp only
    rw [hx,hy]
    rfl
   unfold bY1 at hjoin
   cases hje:fX6 x y with
   |none=>
    rw [hje] at hjoin htr
    have hnx:=fM6 hb htr
    repeat' (conv=>whnf);first|(refine VNew.mk fun b9=>?_)|(refine VIx.is ?_;refine VIx.mk (h1.ptr (by omega)) (by omega) (by omega) ?_)|(refine VLd.is ?_;refine oC (h1.rd0 (by simp) (fun _=>rfl) hy (fZ8 y)) ?_)|(refine bQ0 184 ?_;(refine bQ4 (fun w' _=>hjoin w') ?_))|(refine VSeq.go ?_)|(refine VB.is ?_;refine bX5 (by omega) fun _=>?_)|(refine VLd.is ?_;refine VLd.mk (.row aT (by rfl)) ?_)|(refine VSt.is ?_;refine VSt.row aT (by rfl) (by first|rfl|assumption) ?_)|(refine VAr.is ?_;refine oA ?_)|(refine VKeep.is ?_;refine VKeep.mk aH ?_)|(refine VHs.mk _ (.refl _) ?_)|(refine And.intro ?_ ?_)
    all_goals (conv=>whnf)
    all_goals exact VNext.mk (j+1) ⟨by omega,by omega,hnx⟩ (by omega) aE aH
   |some z=>
    rw [hje] at hjoin htr
    have hzo:=hjok z hje
    have hml:(bY7 l k j z).length=l.length - 1:=dC9 hjt
    have hmo:=fH4 (k:=k) (j:=j) hl hzo
    have hdl:(l.eraseIdx j).length=l.length - 1:=by rw [List.length_eraseIdx_of_lt hjt]
    have hdk:(l.eraseIdx j)[k]? =some x:=by rw [List.getElem?_eraseIdx_of_lt hkj,hx]
    have hmd:(l.eraseIdx j).set k z=bY7 l k j z:=rfl
    have hsame:=fun pt ct bt ot w' h3 h6 hsk hsw hst=>hG7 want (bY7 l k j z) hw hmo (by omega) keys hk hkl b3 b6 pk ck bk ok pw cw bw ow pt ct bt ot w' h3 h6 hsk hsw hst
    obtain ⟨sb,hsb⟩:=gX (cK6 want (bY7 l k j z) keys)
    rw [hml,hsb] at hsame
    dsimp only at htr
    rw [hsb] at htr
    have hcl:=fun w' h=>dX3 l p c b o w' h (by omega)
    simp only [qY,Option.isSome_some] at hjoin
    clear hjok hyo hxo hje
    repeat' (conv=>whnf);first|(refine VNew.mk fun b9=>?_)|(refine VIx.is ?_;refine VIx.mk (h1.ptr (by omega)) (by omega) (by omega) ?_)|(refine VLd.is ?_;refine oC (h1.rd0 (by simp) (fun _=>rfl) hy (fZ8 y)) ?_)|(refine bQ0 184 ?_;(refine bQ4 (fun w' _=>hjoin w') ?_))|(refine bQ0 125 ?_;(refine bQ2 (fun w' hw'=>hcl w' (h1.keep hw' (by simp))) ?_;rintro ⟨q,cq⟩ hq;dsimp only at hq ⊢;obtain ⟨gq,rfl⟩:=hq (by omega)))|(refine bQ0 185 ?_;(refine gX9 gq cq l (by omega) j hjt ?_))|(refine VSt.is ?_;refine VSt.is ?_;refine VSt.cast (off':=k*3) (by first|omega|(dsimp only;omega)|rfl) (VSt.vec aT (bZ9 (f:=bY1) (k:=3) (y:=z) (fun _=>rfl) hdk (kY1 x z)) rfl ?_);rw [hmd])|(refine bQ0 124 ?_;(refine bQ4 (fun w' hw'=>hsame _ _ _ _ w' (h3.keep hw' (by simp)) (h6.keep hw' (by simp)) (hsk.keep hw' (by simp)) (hsw.keep hw' (by simp)) (bZ1 hw' (l:=bY7 l k j z) (f:=bY1) (k:=3) (by first|exact List.mem_cons_self|simp) (fun _=>rfl) hml)) ?_))|(refine VSeq.go ?_)|(refine VB.is ?_;refine bX5 (by omega) fun _=>?_)|(refine bT0 (fun h=>?_) (fun h=>?_)<;>subst h)|(refine VLd.is ?_;refine VLd.mk (.row aT (by rfl)) ?_)|(refine VSt.is ?_;refine VSt.row aT (by rfl) (by first|rfl|assumption) ?_)|(refine VAr.is ?_;refine oA ?_)|(refine VIx.is ?_;refine VIx.mk rfl (by omega) (by omega) ?_)|(refine VKeep.is ?_;refine VKeep.mk aH ?_)|(refine VHs.mk _ (.refl _) ?_)|(refine And.intro ?_ ?_)
    all_goals (conv=>whnf)
    all_goals (try rw [jk Bool.false_ne_true] at htr)
    all_goals (try rw [jw rfl] at htr)
    all_goals first
     |exact VNext.mk (j+1) ⟨by omega,by omega,fM6 hb htr⟩ (by omega) aE aH
     |exact ⟨fun w' hw'=>.inl ⟨bY7 l k j z,gq,cq,fH5 hkj hjt htr hb,by rw [hml];rfl,by rw [hml];exact hw'.le aH⟩⟩
  have hjx:j=l.length:=by omega
  subst hjx
  repeat' (conv=>whnf);first|(refine VSeq.go ?_)|(refine VB.is ?_;refine bZ2 (by omega) fun _=>?_)|(refine VAr.is ?_;refine oA ?_)
  all_goals (conv=>whnf)
  exact VNext.mk (k+1) ⟨by omega,kH2 hb⟩ (by omega) aE aH
 have hkx:k=l.length:=by omega
 subst hkx
 repeat' (conv=>whnf);first|(refine VSeq.go ?_)|(refine VB.is ?_;refine bZ2 (by omega) fun _=>?_)|(refine VAr.is ?_;refine oA ?_)
 all_goals (conv=>whnf)
 exact ⟨fun w' hw'=>.inr ⟨dM4 fun q h1 h2=>hb q h1 h2 (.inl (by omega)),rfl,hw'.le .nil⟩⟩
theorem gQ6 (want l:List Ety)(hw:∀x∈want,EtyOk x)(hl:∀x∈l,EtyOk x)(hll:l.length<=65536)(keys:List Int)(hk:∀k∈keys,0<=k/\k<=65535)(hkl:keys.length<=65536)(b3 b6:Nat)(pk:Option Addr)(ck bk ok:Nat)(pw:Option Addr)(cw bw ow:Nat)(p:Option Addr)(c b o:Nat)(w:World)(h3:Cells w b3 0 [.slice pk keys.length ck])(h6:Cells w b6 0 [.slice pw keys.length cw])(hsk:Sl w bQ6 1 keys pk keys.length bk ok)(hsw:Sl w bQ6 1 (cK0 want keys) pw keys.length bw ow)(h1:Sl w bY1 3 l p l.length b o){t:List Ety}(hs:bK2 want l keys=some t):
  Calls Tryz.prog 126 #[.slice p l.length c,.func (.func 124) #[] #[.pointer (some ⟨b3,0,none⟩),.pointer (some ⟨b6,0,none⟩)]] w fun e w'=>∃z:Nat×Nat,e=.returned (.tuple #[.slice (some ⟨z.1,0,none⟩) t.length z.2,.bool true])/\True/\St w [] [.vec (some ⟨z.1,0,none⟩) t.length z.2 180 3 (bQ1 bY1 t)] w':=by
 refine (dH2 want l hw hl hll keys hk hkl b3 b6 pk ck bk ok pw cw bw ow p c b o w h3 h6 hsk hsw h1).mono fun e w' h=>?_
 rcases h with ⟨t2,g,cz,h1,h2,h3⟩|⟨h1,_⟩
 ·rw [hs] at h1
  cases h1
  exact ⟨(g,cz),h2,trivial,h3⟩
 ·rw [hs] at h1;cases h1
theorem gQ7 (want l:List Ety)(hw:∀x∈want,EtyOk x)(hl:∀x∈l,EtyOk x)(hll:l.length<=65536)(keys:List Int)(hk:∀k∈keys,0<=k/\k<=65535)(hkl:keys.length<=65536)(b3 b6:Nat)(pk:Option Addr)(ck bk ok:Nat)(pw:Option Addr)(cw bw ow:Nat)(p:Option Addr)(c b o:Nat)(w:World)(h3:Cells w b3 0 [.slice pk keys.length ck])(h6:Cells w b6 0 [.slice pw keys.length cw])(hsk:Sl w bQ6 1 keys pk keys.length bk ok)(hsw:Sl w bQ6 1 (cK0 want keys) pw keys.length bw ow)(h1:Sl w bY1 3 l p l.length b o)(hs:bK2 want l keys=none):
  Calls Tryz.prog 126 #[.slice p l.length c,.func (.func 124) #[] #[.pointer (some ⟨b3,0,none⟩),.pointer (some ⟨b6,0,none⟩)]] w fun e w'=>e=.returned (.tuple #[.slice p l.length c,.bool false])/\St w [] [] w':=by
 refine (dH2 want l hw hl hll keys hk hkl b3 b6 pk ck bk ok pw cw bw ow p c b o w h3 h6 hsk hsw h1).mono fun e w' h=>?_
 rcases h with ⟨t2,g,cz,h1,h2,h3⟩|⟨_,h2,h3⟩
 ·rw [hs] at h1;cases h1
 ·exact ⟨h2,h3⟩
def hR0 (L:List Int)(i:Nat):List Int:=L.take i++List.replicate (L.length - i) 0
theorem hW3 (L:List Int):hR0 L 0=List.replicate L.length 0:=by unfold hR0;simp
theorem kZ0 (L:List Int):hR0 L L.length=L:=by unfold hR0;simp
theorem kX9 {L:List Int}{i:Nat}(h:i<L.length):(hR0 L i)[i]? =some 0:=by
 unfold hR0
 have e:(L.take i).length=i:=by rw [qh];omega
 rw [Qr (by omega),e,jx,QB,jw (by omega)]
theorem kX8 {L:List Int}{i:Nat}{v:Int}(h:L[i]? =some v):(hR0 L i).set i v=hR0 L (i+1):=by
 have hlt:=(qx.1 h).1
 have e:(L.take i).length=i:=by rw [qh];omega
 unfold hR0
 rw [List.set_append_right _ _ (by omega),e,jx]
 obtain ⟨k,hk⟩:∃k,L.length - i=k+1:=⟨L.length - i - 1,by omega⟩
 rw [hk,List.replicate_succ,List.set_cons_zero,qi,h,show L.length - (i+1)=k by omega]
 simp
structure MgS where
 t:List Ety
 p:Option Addr
 c:Nat
 more:Bool
theorem fQ9 (l:List Ety)(hl:∀x∈l,EtyOk x)(hll:l.length<=1024)(keys:List Int)(hk:∀k∈keys,0<=k/\k<=65535)(hkl:keys.length<=1024)(p:Option Addr)(c b o:Nat)(pk:Option Addr)(ck bk ok:Nat)(w:World)(h1:Sl w bY1 3 l p l.length b o)(hsk:Sl w bQ6 1 keys pk keys.length bk ok):
  Calls Tryz.prog 67 #[.slice p l.length c,.slice pk keys.length ck] w fun e w'=>∃z:Option Addr×Nat,e=.returned (.tuple #[.slice z.1 (dQ3 l keys).length z.2,.int .i64 0])/\(0<(dQ3 l keys).length->∃g,z.1=some ⟨g,0,none⟩)/\St w [] [.vec z.1 (dQ3 l keys).length z.2 180 3 (bQ1 bY1 (dQ3 l keys))] w':=by
 have hbe:=fun w' h=>lV6 l hl (by omega) p c b o w' h
 have hbk:=fun w' h=>lV5 keys hk (by omega) pk ck bk ok w' h
 have hwl:(cK0 l keys).length=keys.length:=by unfold cK0;rw [qv]
 refine enter (C:=Tryz.cx) (F:=mF3) (args:=[_,_]) Tryz.func67 rfl rfl rfl ok67 (St.start w []) ?_
 repeat' (conv=>whnf);first|(refine VNew.mk fun b3=>?_)|(refine bQ0 119 ?_;(refine bQ4 (fun w' hw'=>hbe w' (h1.keep hw' (by simp))) ?_))|(refine bQ0 51 ?_;(refine bQ4 (fun w' hw'=>hbk w' (hsk.keep hw' (by simp))) ?_))|(refine VMk.is ?_;refine VMk.mk (by omega) (by omega) (by (try dsimp only);omega) (by omega) fun g=>?_)|(refine VSeq.go ?_)|(refine VB.is ?_;refine bZ2 (by omega) fun _=>?_)|(refine VLd.is ?_;refine VLd.mk (.row aT (by rfl)) ?_)|(refine VSt.is ?_;refine VSt.row aT (by rfl) (by first|rfl|assumption) ?_)
 all_goals (conv=>whnf)
 rename_i c3 _ _
 have hz:=hW3 (cK0 l keys)
 rw [hwl] at hz
 refine VLoop.mk (α:=Nat) (fun i=>i<=keys.length) (fun i=>[(1000000,.tuple #[]),(0,.slice p l.length c),(3,.pointer (some ⟨c3,0,none⟩)),(4,.slice none 0 0),(5,.int .i64 0),(6,.pointer (some ⟨b3,0,none⟩)),(30,.slice pk keys.length ck),(31,.int .i64 (keys.length:Int)),(32,.int .i64 (i:Int))])
  (fun i=>[.row c3 28 [.slice pk keys.length ck],.row b3 28 [.slice (some ⟨g,0,none⟩) keys.length keys.length],.vec (some ⟨g,0,none⟩) keys.length keys.length 3 1 (bQ1 bQ6 (hR0 (cK0 l keys) i))]) (fun i=>keys.length - i) 0 (qB _) aE (by rw [hz,<-bV3];exact aH) ?_
 rintro i hi
 rcases qy i keys.length with hlt|hge
 ·obtain ⟨k,hki⟩:=hsk.get hlt
  have hkr:=hk k (qz hki)
  have hfi:=fun w' h=>fZ6 l hl (by omega) k hkr p c b o w' h
  have hwi:(cK0 l keys)[i]? =some ((bH0 l k).getD 0):=by unfold cK0;rw [qj,hki];rfl
  have hps:=kX8 hwi
  have hpg:=kX9 (L:=cK0 l keys) (i:=i) (by omega)
  obtain ⟨a,ha⟩:=gX ((bH0 l k).getD 0)
  rw [ha] at hfi hps
  repeat' (conv=>whnf);first|(refine VIx.is ?_;refine VIx.mk (hsk.ptr (by omega)) (by omega) (by omega) ?_)|(refine VLd.is ?_;refine oC (hsk.rd0 (by simp) (fun _=>rfl) hki rfl) ?_)|(refine bQ0 123 ?_;(refine bQ4 (fun w' hw'=>hfi w' (h1.keep hw' (by simp))) ?_))|(refine VIx.is ?_;refine VIx.mk rfl (by omega) (by omega) ?_)|(refine VSt.is ?_;refine VSt.is ?_;refine VSt.cast (off':=i*1) (by first|omega|(dsimp only;omega)|rfl) (VSt.vec aT (bZ9 (f:=bQ6) (k:=1) (y:=a) (fun _=>rfl) hpg rfl) rfl ?_);rw [hps])|(refine VSeq.go ?_)|(refine VB.is ?_;refine bX5 (by omega) fun _=>?_)|(refine VLd.is ?_;refine VLd.mk (.row aT (by rfl)) ?_)|(refine VAr.is ?_;refine oA ?_)|(refine VKeep.is ?_;refine VKeep.mk aH ?_)|(refine VHs.mk _ (.refl _) ?_)
  all_goals (conv=>whnf)
  exact VNext.mk (i+1) (by omega) (by omega) aE aH
 have hix:i=keys.length:=by omega
 subst hix
 have hpa:=kZ0 (cK0 l keys)
 rw [hwl] at hpa
 rw [hpa]
 have hcl:=fun w' h=>dX3 l p c b o w' h (by omega)
 clear hz hpa hbe hbk hge hi
 repeat' (conv=>whnf);first|(refine bQ0 125 ?_;(refine bQ2 (fun w' hw'=>hcl w' (h1.keep hw' (by simp))) ?_;rintro ⟨q,cq⟩ hq;dsimp only at hq ⊢))|(refine VSeq.go ?_)|(refine VB.is ?_;refine bZ2 (by omega) fun _=>?_)
 all_goals (conv=>whnf)
 refine VLoop.mk (α:=MgS) (fun z=>(∀x∈z.t,EtyOk x)/\z.t.length<=l.length/\cK6 l z.t keys=true/\dQ3 l keys=(if z.more=true then dT0 l keys z.t else z.t)/\(0<z.t.length->∃g,z.p=some ⟨g,0,none⟩)) (fun z=>[(1000000,.tuple #[]),(4,.slice none 0 0),(5,.int .i64 0),(9,.func (.func 124) #[] #[.pointer (some ⟨c3,0,none⟩),.pointer (some ⟨b3,0,none⟩)]),(10,.slice z.p z.t.length z.c),(11,.bool z.more)])
  (fun z=>[.vec z.p z.t.length z.c 180 3 (bQ1 bY1 z.t),.row c3 28 [.slice pk keys.length ck],.row b3 28 [.slice (some ⟨g,0,none⟩) keys.length keys.length],.vec (some ⟨g,0,none⟩) keys.length keys.length 3 1 (bQ1 bQ6 (cK0 l keys))]) (fun z=>2*z.t.length+if z.more=true then 1 else 0) ⟨l,q,cq,true⟩ ⟨hl,qA _,dC0 l keys,by rw [jw rfl];rfl,hq⟩ aE aH ?_
 clear hq
 rintro ⟨t,q,cq,more⟩ ⟨hto,htl,hts,htm,htp⟩
 dsimp only at hto htl hts htm htp ⊢
 cases more with
 |true=>
  rw [jw rfl] at htm
  cases hms:bK2 l t keys with
  |some t'=>
   have hml:=cM8 hms
   have hmo:=dQ2 hto hms
   have hme:=fL4 hms
   have hj:=fun (w':World) h3 h6 hsk hsw bq oq (hq:Sl w' bY1 3 t q t.length bq oq)=>gQ6 l t hl hto (by omega) keys hk (by omega) c3 b3 pk ck bk ok (some ⟨g,0,none⟩) keys.length g 0 q cq bq oq w' h3 h6 hsk hsw hq hms
   repeat' (conv=>whnf);first|(refine bQ0 126 ?_;(refine bQ2 (fun w' hw'=>Exists.elim (Sl.own (f:=bY1) (l:=t) (k:=3) hw' aT (fun _=>rfl) rfl) fun bq hq=>hj w' (cQ3 hw' (e:=28) aT) (cQ3 hw' (e:=28) aT) (hsk.keep hw' (by simp)) (bZ1 hw' (l:=cK0 l keys) (f:=bQ6) (k:=1) (.tail _ (.tail _ (.tail _ (.head _)))) (fun _=>rfl) hwl) bq 0 hq) ?_;rintro ⟨gz,cz⟩ _))|(refine VSeq.go ?_)
   all_goals (conv=>whnf)
   refine VNext.mk ⟨t',some ⟨gz,0,none⟩,cz,true⟩ ⟨hmo.1,by dsimp only;omega,hmo.2,by dsimp only;rw [if_pos rfl,htm,hme],fun _=>⟨gz,rfl⟩⟩ (by dsimp only;omega) aE aH
  |none=>
   have hme:=fL3 hms
   have hj:=fun (w':World) h3 h6 hsk hsw bq oq (hq:Sl w' bY1 3 t q t.length bq oq)=>gQ7 l t hl hto (by omega) keys hk (by omega) c3 b3 pk ck bk ok (some ⟨g,0,none⟩) keys.length g 0 q cq bq oq w' h3 h6 hsk hsw hq hms
   repeat' (conv=>whnf);first|(refine bQ0 126 ?_;(refine bQ4 (fun w' hw'=>Exists.elim (Sl.own (f:=bY1) (l:=t) (k:=3) hw' aT (fun _=>rfl) rfl) fun bq hq=>hj w' (cQ3 hw' (e:=28) aT) (cQ3 hw' (e:=28) aT) (hsk.keep hw' (by simp)) (bZ1 hw' (l:=cK0 l keys) (f:=bQ6) (k:=1) (.tail _ (.tail _ (.tail _ (.head _)))) (fun _=>rfl) hwl) bq 0 hq) ?_))|(refine VSeq.go ?_)
   all_goals (conv=>whnf)
   refine VNext.mk ⟨t,q,cq,false⟩ ⟨hto,htl,hts,by dsimp only;rw [if_neg Bool.false_ne_true,htm,hme],htp⟩ (by dsimp only;rw [if_neg Bool.false_ne_true,if_pos rfl];omega) aE aH
 |false=>
  rw [jk Bool.false_ne_true] at htm
  repeat' (conv=>whnf);first|(refine VSeq.go ?_)|(refine VB.is ?_;refine bZ2 (by omega) fun _=>?_)|(refine VAr.is ?_;refine oA ?_)
  all_goals (conv=>whnf)
  rw [htm]
  exact ⟨fun w' hw'=>⟨(q,cq),rfl,htp,hw'.le aH⟩⟩
end Go.Proofs
