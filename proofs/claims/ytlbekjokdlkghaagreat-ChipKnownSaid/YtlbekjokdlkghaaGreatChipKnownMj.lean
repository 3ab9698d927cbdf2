import Derived.Test.YtlbekjokdlkghaaGreatChipKnownMi
set_option linter.unusedVariables false
set_option linter.unusedSimpArgs false
set_option maxHeartbeats 4000000
namespace Go.Gm
theorem bfrP_row {n k:Nat}{q:Nat×Nat->Prop}(h:∀p:Nat×Nat,p.1<p.2->p.2<n->bfrP k n p->q p):∀p:Nat×Nat,p.1<p.2->p.2<n->bfrP (k+1) 0 p->q p:=fun p h1 h2 h3=>h p h1 h2 (by
 unfold bfrP at*
 rcases h3 with h3|h3
 ·by_cases e:p.1=k
  ·exact .inr ⟨e,h2⟩
  ·exact .inl (by omega)
 ·omega)
theorem bfrP_beg {n k:Nat}{q:Nat×Nat->Prop}(h:∀p:Nat×Nat,p.1<p.2->p.2<n->bfrP k 0 p->q p):∀p:Nat×Nat,p.1<p.2->p.2<n->bfrP k (k+1) p->q p:=fun p h1 h2 h3=>h p h1 h2 (by
 unfold bfrP at*
 omega)
theorem bfrP_next {n k j:Nat}{q:Nat×Nat->Prop}(h:∀p:Nat×Nat,p.1<p.2->p.2<n->bfrP k j p->q p)(h0:q (k,j)):∀p:Nat×Nat,p.1<p.2->p.2<n->bfrP k (j+1) p->q p:=fun p h1 h2 h3=>by
 by_cases e:p=(k,j)
 ·rw [e];exact h0
 ·refine h p h1 h2 ?_
  unfold bfrP at*
  obtain ⟨a,b⟩:=p
  simp only [Prod.mk.injEq] at e
  dsimp only at*
  omega
end Go.Gm
namespace Go.Proofs
open Go Go.Vx Go.Gm
theorem etyV_sub (x:Ety):sub (etyV x) 0 3=some [.int .i64 x.key,.int .i64 x.mask,.int .i64 x.outs]:=rfl
theorem joined_walk (want l:List Ety)(hw:∀x∈want,EtyOk x)(hl:∀x∈l,EtyOk x)(hll:l.length<=65536)(keys:List Int)(hk:∀k∈keys,0<=k/\k<=65535)(hkl:keys.length<=65536)(b3 b6:Nat)(pk:Option Addr)(ck bk ok:Nat)(pw:Option Addr)(cw bw ow:Nat)(p:Option Addr)(c b o:Nat)(w:World)
  (h3:Cells w b3 0 [.slice pk keys.length ck]) (h6:Cells w b6 0 [.slice pw keys.length cw]) (hsk:Sl w intV 1 keys pk keys.length bk ok) (hsw:Sl w intV 1 (wantL want keys) pw keys.length bw ow) (h1:Sl w etyV 3 l p l.length b o):
  Calls Tryz.prog 126 #[.slice p l.length c,.func (.func 124) #[] #[.pointer (some ⟨b3,0,none⟩),.pointer (some ⟨b6,0,none⟩)]] w fun e w'=>
   (∃t g cz,mergeStep want l keys=some t/\e=.returned (.tuple #[.slice (some ⟨g,0,none⟩) t.length cz,.bool true])/\St w [] [.vec (some ⟨g,0,none⟩) t.length cz 180 3 (flat etyV t)] w')\/
   (mergeStep want l keys=none/\e=.returned (.tuple #[.slice p l.length c,.bool false])/\St w [] [] w'):=by
 refine enter (C:=Tryz.cx) (F:=Tryz.fx126) (args:=[_,_]) Tryz.func126 rfl rfl rfl Tryz.ok126 (St.start w []) ?_
 repeat' (conv=>whnf);first|(refine VSeq.go ?_)|(refine VB.is ?_;refine VB.no (by omega) fun _=>?_)|(refine VAr.is ?_;refine oA ?_)
 all_goals (conv=>whnf)
 refine VLoop.mk (α:=Nat) (fun k=>k<=l.length/\∀q:Nat×Nat,q.1<q.2->q.2<l.length->bfrP k 0 q->tryE want l keys q=none) (fun k=>[(1000000,.tuple #[]),(0,.slice p l.length c),(1,.func (.func 124) #[] #[.pointer (some ⟨b3,0,none⟩),.pointer (some ⟨b6,0,none⟩)]),(4,.slice none 0 0),(5,.bool false),(12,.slice p l.length c),(13,.int .i64 (l.length:Int)),(14,.int .i64 (k:Int))])
  (fun _=>[]) (fun k=>l.length - k) 0 ⟨qB _,fun q _ _ h=>by unfold bfrP at h;omega⟩ aE aH ?_
 rintro k ⟨hkb,hb⟩
 rcases qy k l.length with hlt|hge
 ·obtain ⟨x,hx⟩:=h1.get hlt
  have hxo:=hl x (qz hx)
  have hbb:=bfrP_beg hb
  clear hb
  repeat' (conv=>whnf);first|(refine VNew.mk fun b7=>?_)|(refine VIx.is ?_;refine VIx.mk (h1.ptr (by omega)) (by omega) (by omega) ?_)|(refine VLd.is ?_;refine VLd.mk (Rd.cast (h1.rd0 (by simp) (fun _=>rfl) hx (etyV_sub x)) (by first|omega|(dsimp only;omega)|rfl)) ?_)|(refine VSeq.go ?_)|(refine VB.is ?_;refine VB.yes (by omega) fun _=>?_)|(refine VSt.is ?_;refine VSt.row aT (by rfl) (by first|rfl|assumption) ?_)|(refine VAr.is ?_;refine oA ?_)
  all_goals (conv=>whnf)
  refine VLoop.mk (α:=Nat) (fun j=>k<j/\j<=l.length/\∀q:Nat×Nat,q.1<q.2->q.2<l.length->bfrP k j q->tryE want l keys q=none) (fun j=>[(1000000,.tuple #[]),(0,.slice p l.length c),(1,.func (.func 124) #[] #[.pointer (some ⟨b3,0,none⟩),.pointer (some ⟨b6,0,none⟩)]),(4,.slice none 0 0),(5,.bool false),(6,.int .i64 (k:Int)),(7,.pointer (some ⟨b7,0,none⟩)),(8,.int .i64 (j:Int)),(12,.slice p l.length c),(13,.int .i64 (l.length:Int)),(14,.int .i64 (k:Int))])
   (fun _=>[.row b7 180 [.int .i64 x.key,.int .i64 x.mask,.int .i64 x.outs]]) (fun j=>l.length - j) (k+1) ⟨by omega,by omega,hbb⟩ aE aH ?_
  clear hbb
  rintro j ⟨hkj,hjl,hb⟩
  rcases qy j l.length with hjt|hge
  ·obtain ⟨y,hy⟩:=h1.get hjt
   have hyo:=hl y (qz hy)
   have hjoin:=fun w'=>join_any x y hxo hyo w'
   have hjok:=fun z=>join_ok (y:=y) (z:=z) hxo
   have htr:tryE want l keys (k,j)=match joinE x y with
     |some z=>if sameE want (mergedAt l k j z) keys=true then some (mergedAt l k j z) else none
     |none=>none:=by
    unfold tryE
    dsimp only
    rw [hx,hy]
    rfl
   unfold etyV at hjoin
   cases hje:joinE x y with
   |none=>
    rw [hje] at hjoin htr
    have hnx:=bfrP_next hb htr
    repeat' (conv=>whnf);first|(refine VNew.mk fun b9=>?_)|(refine VIx.is ?_;refine VIx.mk (h1.ptr (by omega)) (by omega) (by omega) ?_)|(refine VLd.is ?_;refine VLd.mk (Rd.cast (h1.rd0 (by simp) (fun _=>rfl) hy (etyV_sub y)) (by first|omega|(dsimp only;omega)|rfl)) ?_)|(refine VCall.isF 184 ?_;(refine VCall.valR (fun w' _=>hjoin w') ?_))|(refine VSeq.go ?_)|(refine VB.is ?_;refine VB.yes (by omega) fun _=>?_)|(refine VLd.is ?_;refine VLd.mk (.row aT (by rfl)) ?_)|(refine VSt.is ?_;refine VSt.row aT (by rfl) (by first|rfl|assumption) ?_)|(refine VAr.is ?_;refine oA ?_)|(refine VKeep.is ?_;refine VKeep.mk aH ?_)|(refine VHs.mk _ (.refl _) ?_)|(refine And.intro ?_ ?_)
    all_goals (conv=>whnf)
    all_goals exact VNext.mk (j+1) ⟨by omega,by omega,hnx⟩ (by omega) aE aH
   |some z=>
    rw [hje] at hjoin htr
    have hzo:=hjok z hje
    have hml:(mergedAt l k j z).length=l.length - 1:=merged_len hjt
    have hmo:=merged_ok (k:=k) (j:=j) hl hzo
    have hdl:(l.eraseIdx j).length=l.length - 1:=by rw [List.length_eraseIdx_of_lt hjt]
    have hdk:(l.eraseIdx j)[k]? =some x:=by rw [List.getElem?_eraseIdx_of_lt hkj,hx]
    have hmd:(l.eraseIdx j).set k z=mergedAt l k j z:=rfl
    have hsame:=fun pt ct bt ot w' h3 h6 hsk hsw hst=>mSame_any want (mergedAt l k j z) hw hmo (by omega) keys hk hkl b3 b6 pk ck bk ok pw cw bw ow pt ct bt ot w' h3 h6 hsk hsw hst
    obtain ⟨sb,hsb⟩:=gX (sameE want (mergedAt l k j z) keys)
    rw [hml,hsb] at hsame
    dsimp only at htr
    rw [hsb] at htr
    have hcl:=fun w' h=>cloneEty_any l p c b o w' h (by omega)
    simp only [qY,Option.isSome_some] at hjoin
    clear hjok hyo hxo hje
    repeat' (conv=>whnf);first|(refine VNew.mk fun b9=>?_)|(refine VIx.is ?_;refine VIx.mk (h1.ptr (by omega)) (by omega) (by omega) ?_)|(refine VLd.is ?_;refine VLd.mk (Rd.cast (h1.rd0 (by simp) (fun _=>rfl) hy (etyV_sub y)) (by first|omega|(dsimp only;omega)|rfl)) ?_)|(refine VCall.isF 184 ?_;(refine VCall.valR (fun w' _=>hjoin w') ?_))|(refine VCall.isF 125 ?_;(refine VCall.genR (fun w' hw'=>hcl w' (h1.keep hw' (by simp))) ?_;rintro ⟨q,cq⟩ hq;dsimp only at hq ⊢;obtain ⟨gq,rfl⟩:=hq (by omega)))|(refine VCall.isF 185 ?_;(refine delete_call gq cq l (by omega) j hjt ?_))|(refine VSt.is ?_;refine VSt.is ?_;refine VSt.cast (off':=k*3) (by first|omega|(dsimp only;omega)|rfl) (VSt.vec aT (upd_flat0 (f:=etyV) (k:=3) (y:=z) (fun _=>rfl) hdk (etyV_upd x z)) rfl ?_);rw [hmd])|(refine VCall.isF 124 ?_;(refine VCall.valR (fun w' hw'=>hsame _ _ _ _ w' (h3.keep hw' (by simp)) (h6.keep hw' (by simp)) (hsk.keep hw' (by simp)) (hsw.keep hw' (by simp)) (Sl.own' hw' (l:=mergedAt l k j z) (f:=etyV) (k:=3) (by first|exact List.mem_cons_self|simp) (fun _=>rfl) hml)) ?_))|(refine VSeq.go ?_)|(refine VB.is ?_;refine VB.yes (by omega) fun _=>?_)|(refine boolE_split (fun h=>?_) (fun h=>?_)<;>subst h)|(refine VLd.is ?_;refine VLd.mk (.row aT (by rfl)) ?_)|(refine VSt.is ?_;refine VSt.row aT (by rfl) (by first|rfl|assumption) ?_)|(refine VAr.is ?_;refine oA ?_)|(refine VIx.is ?_;refine VIx.mk rfl (by omega) (by omega) ?_)|(refine VKeep.is ?_;refine VKeep.mk aH ?_)|(refine VHs.mk _ (.refl _) ?_)|(refine And.intro ?_ ?_)
    all_goals (conv=>whnf)
    all_goals (try rw [jz Bool.false_ne_true] at htr)
    all_goals (try rw [jx rfl] at htr)
    all_goals first
     |exact VNext.mk (j+1) ⟨by omega,by omega,bfrP_next hb htr⟩ (by omega) aE aH
     |exact ⟨fun w' hw'=>.inl ⟨mergedAt l k j z,gq,cq,mergeStep_at hkj hjt htr hb,by rw [hml];rfl,by rw [hml];exact hw'.le aH⟩⟩
  have hjx:j=l.length:=by omega
  subst hjx
  repeat' (conv=>whnf);first|(refine VSeq.go ?_)|(refine VB.is ?_;refine VB.no (by omega) fun _=>?_)|(refine VAr.is ?_;refine oA ?_)
  all_goals (conv=>whnf)
  exact VNext.mk (k+1) ⟨by omega,bfrP_row hb⟩ (by omega) aE aH
 have hkx:k=l.length:=by omega
 subst hkx
 repeat' (conv=>whnf);first|(refine VSeq.go ?_)|(refine VB.is ?_;refine VB.no (by omega) fun _=>?_)|(refine VAr.is ?_;refine oA ?_)
 all_goals (conv=>whnf)
 exact ⟨fun w' hw'=>.inr ⟨mergeStep_none fun q h1 h2=>hb q h1 h2 (.inl (by omega)),rfl,hw'.le .nil⟩⟩
theorem joined_some (want l:List Ety)(hw:∀x∈want,EtyOk x)(hl:∀x∈l,EtyOk x)(hll:l.length<=65536)(keys:List Int)(hk:∀k∈keys,0<=k/\k<=65535)(hkl:keys.length<=65536)(b3 b6:Nat)(pk:Option Addr)(ck bk ok:Nat)(pw:Option Addr)(cw bw ow:Nat)(p:Option Addr)(c b o:Nat)(w:World)(h3:Cells w b3 0 [.slice pk keys.length ck])(h6:Cells w b6 0 [.slice pw keys.length cw])(hsk:Sl w intV 1 keys pk keys.length bk ok)(hsw:Sl w intV 1 (wantL want keys) pw keys.length bw ow)(h1:Sl w etyV 3 l p l.length b o){t:List Ety}(hs:mergeStep want l keys=some t):
  Calls Tryz.prog 126 #[.slice p l.length c,.func (.func 124) #[] #[.pointer (some ⟨b3,0,none⟩),.pointer (some ⟨b6,0,none⟩)]] w fun e w'=>∃z:Nat×Nat,e=.returned (.tuple #[.slice (some ⟨z.1,0,none⟩) t.length z.2,.bool true])/\True/\St w [] [.vec (some ⟨z.1,0,none⟩) t.length z.2 180 3 (flat etyV t)] w':=by
 refine (joined_walk want l hw hl hll keys hk hkl b3 b6 pk ck bk ok pw cw bw ow p c b o w h3 h6 hsk hsw h1).mono fun e w' h=>?_
 rcases h with ⟨t2,g,cz,h1,h2,h3⟩|⟨h1,_⟩
 ·rw [hs] at h1
  cases h1
  exact ⟨(g,cz),h2,trivial,h3⟩
 ·rw [hs] at h1;cases h1
theorem joined_none (want l:List Ety)(hw:∀x∈want,EtyOk x)(hl:∀x∈l,EtyOk x)(hll:l.length<=65536)(keys:List Int)(hk:∀k∈keys,0<=k/\k<=65535)(hkl:keys.length<=65536)(b3 b6:Nat)(pk:Option Addr)(ck bk ok:Nat)(pw:Option Addr)(cw bw ow:Nat)(p:Option Addr)(c b o:Nat)(w:World)(h3:Cells w b3 0 [.slice pk keys.length ck])(h6:Cells w b6 0 [.slice pw keys.length cw])(hsk:Sl w intV 1 keys pk keys.length bk ok)(hsw:Sl w intV 1 (wantL want keys) pw keys.length bw ow)(h1:Sl w etyV 3 l p l.length b o)(hs:mergeStep want l keys=none):
  Calls Tryz.prog 126 #[.slice p l.length c,.func (.func 124) #[] #[.pointer (some ⟨b3,0,none⟩),.pointer (some ⟨b6,0,none⟩)]] w fun e w'=>e=.returned (.tuple #[.slice p l.length c,.bool false])/\St w [] [] w':=by
 refine (joined_walk want l hw hl hll keys hk hkl b3 b6 pk ck bk ok pw cw bw ow p c b o w h3 h6 hsk hsw h1).mono fun e w' h=>?_
 rcases h with ⟨t2,g,cz,h1,h2,h3⟩|⟨_,h2,h3⟩
 ·rw [hs] at h1;cases h1
 ·exact ⟨h2,h3⟩
def padZ (L:List Int)(i:Nat):List Int:=L.take i++List.replicate (L.length - i) 0
theorem padZ_zero (L:List Int):padZ L 0=List.replicate L.length 0:=by unfold padZ;simp
theorem padZ_all (L:List Int):padZ L L.length=L:=by unfold padZ;simp
theorem padZ_get {L:List Int}{i:Nat}(h:i<L.length):(padZ L i)[i]? =some 0:=by
 unfold padZ
 have e:(L.take i).length=i:=by rw [qh];omega
 rw [Qr (by omega),e,jq,QH,jx (by omega)]
theorem padZ_set {L:List Int}{i:Nat}{v:Int}(h:L[i]? =some v):(padZ L i).set i v=padZ L (i+1):=by
 have hlt:=(qx.1 h).1
 have e:(L.take i).length=i:=by rw [qh];omega
 unfold padZ
 rw [List.set_append_right _ _ (by omega),e,jq]
 obtain ⟨k,hk⟩:∃k,L.length - i=k+1:=⟨L.length - i - 1,by omega⟩
 rw [hk,List.replicate_succ,List.set_cons_zero,qi,h,show L.length - (i+1)=k by omega]
 simp
structure MgS where
 t:List Ety
 p:Option Addr
 c:Nat
 more:Bool
theorem meshMerge_any (l:List Ety)(hl:∀x∈l,EtyOk x)(hll:l.length<=1024)(keys:List Int)(hk:∀k∈keys,0<=k/\k<=65535)(hkl:keys.length<=1024)(p:Option Addr)(c b o:Nat)(pk:Option Addr)(ck bk ok:Nat)(w:World)(h1:Sl w etyV 3 l p l.length b o)(hsk:Sl w intV 1 keys pk keys.length bk ok):
  Calls Tryz.prog 67 #[.slice p l.length c,.slice pk keys.length ck] w fun e w'=>∃z:Option Addr×Nat,e=.returned (.tuple #[.slice z.1 (mergeM l keys).length z.2,.int .i64 0])/\(0<(mergeM l keys).length->∃g,z.1=some ⟨g,0,none⟩)/\St w [] [.vec z.1 (mergeM l keys).length z.2 180 3 (flat etyV (mergeM l keys))] w':=by
 have hbe:=fun w' h=>noBadE l hl (by omega) p c b o w' h
 have hbk:=fun w' h=>noBadK keys hk (by omega) pk ck bk ok w' h
 have hwl:(wantL l keys).length=keys.length:=by unfold wantL;rw [qv]
 refine enter (C:=Tryz.cx) (F:=Tryz.fx67) (args:=[_,_]) Tryz.func67 rfl rfl rfl Tryz.ok67 (St.start w []) ?_
 repeat' (conv=>whnf);first|(refine VNew.mk fun b3=>?_)|(refine VCall.isF 119 ?_;(refine VCall.valR (fun w' hw'=>hbe w' (h1.keep hw' (by simp))) ?_))|(refine VCall.isF 51 ?_;(refine VCall.valR (fun w' hw'=>hbk w' (hsk.keep hw' (by simp))) ?_))|(refine VMk.is ?_;refine VMk.mk (by omega) (by omega) (by (try dsimp only);omega) (by omega) fun g=>?_)|(refine VSeq.go ?_)|(refine VB.is ?_;refine VB.no (by omega) fun _=>?_)|(refine VLd.is ?_;refine VLd.mk (.row aT (by rfl)) ?_)|(refine VSt.is ?_;refine VSt.row aT (by rfl) (by first|rfl|assumption) ?_)
 all_goals (conv=>whnf)
 rename_i c3 _ _
 have hz:=padZ_zero (wantL l keys)
 rw [hwl] at hz
 refine VLoop.mk (α:=Nat) (fun i=>i<=keys.length) (fun i=>[(1000000,.tuple #[]),(0,.slice p l.length c),(3,.pointer (some ⟨c3,0,none⟩)),(4,.slice none 0 0),(5,.int .i64 0),(6,.pointer (some ⟨b3,0,none⟩)),(30,.slice pk keys.length ck),(31,.int .i64 (keys.length:Int)),(32,.int .i64 (i:Int))])
  (fun i=>[.row c3 28 [.slice pk keys.length ck],.row b3 28 [.slice (some ⟨g,0,none⟩) keys.length keys.length],.vec (some ⟨g,0,none⟩) keys.length keys.length 3 1 (flat intV (padZ (wantL l keys) i))]) (fun i=>keys.length - i) 0 (qB _) aE (by rw [hz,<-flat_rep];exact aH) ?_
 rintro i hi
 rcases qy i keys.length with hlt|hge
 ·obtain ⟨k,hki⟩:=hsk.get hlt
  have hkr:=hk k (qz hki)
  have hfi:=fun w' h=>find_any l hl (by omega) k hkr p c b o w' h
  have hwi:(wantL l keys)[i]? =some ((findE l k).getD 0):=by unfold wantL;rw [qj,hki];rfl
  have hps:=padZ_set hwi
  have hpg:=padZ_get (L:=wantL l keys) (i:=i) (by omega)
  obtain ⟨a,ha⟩:=gX ((findE l k).getD 0)
  rw [ha] at hfi hps
  repeat' (conv=>whnf);first|(refine VIx.is ?_;refine VIx.mk (hsk.ptr (by omega)) (by omega) (by omega) ?_)|(refine VLd.is ?_;refine VLd.mk (Rd.cast (hsk.rd0 (by simp) (fun _=>rfl) hki rfl) (by first|omega|(dsimp only;omega)|rfl)) ?_)|(refine VCall.isF 123 ?_;(refine VCall.valR (fun w' hw'=>hfi w' (h1.keep hw' (by simp))) ?_))|(refine VIx.is ?_;refine VIx.mk rfl (by omega) (by omega) ?_)|(refine VSt.is ?_;refine VSt.is ?_;refine VSt.cast (off':=i*1) (by first|omega|(dsimp only;omega)|rfl) (VSt.vec aT (upd_flat0 (f:=intV) (k:=1) (y:=a) (fun _=>rfl) hpg rfl) rfl ?_);rw [hps])|(refine VSeq.go ?_)|(refine VB.is ?_;refine VB.yes (by omega) fun _=>?_)|(refine VLd.is ?_;refine VLd.mk (.row aT (by rfl)) ?_)|(refine VAr.is ?_;refine oA ?_)|(refine VKeep.is ?_;refine VKeep.mk aH ?_)|(refine VHs.mk _ (.refl _) ?_)
  all_goals (conv=>whnf)
  exact VNext.mk (i+1) (by omega) (by omega) aE aH
 have hix:i=keys.length:=by omega
 subst hix
 have hpa:=padZ_all (wantL l keys)
 rw [hwl] at hpa
 rw [hpa]
 have hcl:=fun w' h=>cloneEty_any l p c b o w' h (by omega)
 clear hz hpa hbe hbk hge hi
 repeat' (conv=>whnf);first|(refine VCall.isF 125 ?_;(refine VCall.genR (fun w' hw'=>hcl w' (h1.keep hw' (by simp))) ?_;rintro ⟨q,cq⟩ hq;dsimp only at hq ⊢))|(refine VSeq.go ?_)|(refine VB.is ?_;refine VB.no (by omega) fun _=>?_)
 all_goals (conv=>whnf)
 refine VLoop.mk (α:=MgS) (fun z=>(∀x∈z.t,EtyOk x)/\z.t.length<=l.length/\sameE l z.t keys=true/\mergeM l keys=(if z.more=true then mergeE l keys z.t else z.t)/\(0<z.t.length->∃g,z.p=some ⟨g,0,none⟩)) (fun z=>[(1000000,.tuple #[]),(4,.slice none 0 0),(5,.int .i64 0),(9,.func (.func 124) #[] #[.pointer (some ⟨c3,0,none⟩),.pointer (some ⟨b3,0,none⟩)]),(10,.slice z.p z.t.length z.c),(11,.bool z.more)])
  (fun z=>[.vec z.p z.t.length z.c 180 3 (flat etyV z.t),.row c3 28 [.slice pk keys.length ck],.row b3 28 [.slice (some ⟨g,0,none⟩) keys.length keys.length],.vec (some ⟨g,0,none⟩) keys.length keys.length 3 1 (flat intV (wantL l keys))]) (fun z=>2*z.t.length+if z.more=true then 1 else 0) ⟨l,q,cq,true⟩ ⟨hl,qA _,sameE_refl l keys,by rw [jx rfl];rfl,hq⟩ aE aH ?_
 clear hq
 rintro ⟨t,q,cq,more⟩ ⟨hto,htl,hts,htm,htp⟩
 dsimp only at hto htl hts htm htp ⊢
 cases more with
 |true=>
  rw [jx rfl] at htm
  cases hms:mergeStep l t keys with
  |some t'=>
   have hml:=mergeStep_len hms
   have hmo:=mergeStep_ok hto hms
   have hme:=mergeE_step hms
   have hj:=fun (w':World) h3 h6 hsk hsw bq oq (hq:Sl w' etyV 3 t q t.length bq oq)=>joined_some l t hl hto (by omega) keys hk (by omega) c3 b3 pk ck bk ok (some ⟨g,0,none⟩) keys.length g 0 q cq bq oq w' h3 h6 hsk hsw hq hms
   repeat' (conv=>whnf);first|(refine VCall.isF 126 ?_;(refine VCall.genR (fun w' hw'=>Exists.elim (Sl.own (f:=etyV) (l:=t) (k:=3) hw' aT (fun _=>rfl) rfl) fun bq hq=>hj w' (Cells.ownA hw' (e:=28) aT) (Cells.ownA hw' (e:=28) aT) (hsk.keep hw' (by simp)) (Sl.own' hw' (l:=wantL l keys) (f:=intV) (k:=1) (.tail _ (.tail _ (.tail _ (.head _)))) (fun _=>rfl) hwl) bq 0 hq) ?_;rintro ⟨gz,cz⟩ _))|(refine VSeq.go ?_)
   all_goals (conv=>whnf)
   refine VNext.mk ⟨t',some ⟨gz,0,none⟩,cz,true⟩ ⟨hmo.1,by dsimp only;omega,hmo.2,by dsimp only;rw [if_pos rfl,htm,hme],fun _=>⟨gz,rfl⟩⟩ (by dsimp only;omega) aE aH
  |none=>
   have hme:=mergeE_stop hms
   have hj:=fun (w':World) h3 h6 hsk hsw bq oq (hq:Sl w' etyV 3 t q t.length bq oq)=>joined_none l t hl hto (by omega) keys hk (by omega) c3 b3 pk ck bk ok (some ⟨g,0,none⟩) keys.length g 0 q cq bq oq w' h3 h6 hsk hsw hq hms
   repeat' (conv=>whnf);first|(refine VCall.isF 126 ?_;(refine VCall.valR (fun w' hw'=>Exists.elim (Sl.own (f:=etyV) (l:=t) (k:=3) hw' aT (fun _=>rfl) rfl) fun bq hq=>hj w' (Cells.ownA hw' (e:=28) aT) (Cells.ownA hw' (e:=28) aT) (hsk.keep hw' (by simp)) (Sl.own' hw' (l:=wantL l keys) (f:=intV) (k:=1) (.tail _ (.tail _ (.tail _ (.head _)))) (fun _=>rfl) hwl) bq 0 hq) ?_))|(refine VSeq.go ?_)
   all_goals (conv=>whnf)
   refine VNext.mk ⟨t,q,cq,false⟩ ⟨hto,htl,hts,by dsimp only;rw [if_neg Bool.false_ne_true,htm,hme],htp⟩ (by dsimp only;rw [if_neg Bool.false_ne_true,if_pos rfl];omega) aE aH
 |false=>
  rw [jz Bool.false_ne_true] at htm
  repeat' (conv=>whnf);first|(refine VSeq.go ?_)|(refine VB.is ?_;refine VB.no (by omega) fun _=>?_)|(refine VAr.is ?_;refine oA ?_)
  all_goals (conv=>whnf)
  rw [htm]
  exact ⟨fun w' hw'=>⟨(q,cq),rfl,htp,hw'.le aH⟩⟩
end Go.Proofs
