import Derived.Test.YtlbekjokdlkghaaGreatChipMovesTa
import Derived.Test.YtlbekjokdlkghaaGreatChipMovesRm
import Derived.Test.YtlbekjokdlkghaaGreatChipMovesMi
import Derived.Test.YtlbekjokdlkghaaGreatChipMovesMc
set_option linter.unusedVariables false
set_option linter.unusedSimpArgs false
set_option maxHeartbeats 4000000
namespace Go.Gm
open Go.Proofs
structure WayM where
 key:Int
 home:Int
 tg:List Int
 p:Option Addr
 c:Nat
structure WaysOk (s:Spc) (T:Int->List Int) (l:List WayM):Prop where
 few:l.length<=1024
 asc:(l.map (·.key)).Pairwise fun a b=>a<b
 key:∀x∈l,0<=x.key/\x.key<=65535
 tree:∀x∈l,dV6 s x.home x.tg=(T x.key,0)
 home:∀x∈l,I64 x.home
 tgs:∀x∈l,(∀t∈x.tg,I64 t)/\x.tg.length<=65536
 len:∀x∈l,(T x.key).length=(s.wide*s.high).toNat
 ok:∀k,bF7 (T k)
structure TR where
 key:Int
 g:Nat
 c:Nat
structure ERow where
 p:Option Addr
 c:Nat
 l:List Ety
def ERow.ok (r:ERow):Prop:=0<r.l.length->∃g,r.p=some ⟨g,0,none⟩
theorem kT3 {l:List Int}(h:l.Pairwise fun a b=>a<b):∀{i j:Nat} {a b:Int},l[i]? =some a->l[j]? =some b->i<j->a<b:=by
 intro i j a b hi hj hij
 obtain ⟨h1,rfl⟩:=qx.1 hi
 obtain ⟨h2,rfl⟩:=qx.1 hj
 exact (List.pairwise_iff_getElem.1 h) i j h1 h2 hij
def gH2 (T:Int->List Int)(r:Nat)(ks:List Int):List Ety:=ks.filterMap (cC0 T r)
def fS4 (T:Int->List Int)(r:Nat)(k:Int):Int:=(T k)[r]?.getD 0
def hH5 (T:Int->List Int)(r:Nat)(ks:List Int):List Int:=ks.filter fun k=>decide (fS4 T r k≠0)
theorem dB0 (T:Int->List Int)(r:Nat):∀ks:List Int,gH2 T r ks=(hH5 T r ks).map fun k=>⟨k,65535,fS4 T r k⟩
 |[]=>rfl
 |k::ks=>by
  have ih:=dB0 T r ks
  unfold gH2 hH5 at*
  rw [List.filterMap_cons,List.filter_cons]
  unfold cC0
  dsimp only
  by_cases h:fS4 T r k=0
  ·have h':(T k)[r]?.getD 0=0:=h
   rw [jw h',jk (by simp [h])]
   exact ih
  ·have h':¬(T k)[r]?.getD 0=0:=h
   rw [jk h',jw (by simpa using h),qI]
   exact congrArg _ ih
def tabK (T:Int->List Int)(keys:List Int)(n r:Nat):List (List Ety):=(List.range n).map fun i=>if i<r then bW3 T keys i else []
theorem tabK_next (T:Int->List Int)(keys:List Int){n r:Nat}(hr:r<n):(tabK T keys n r).set r (bW3 T keys r)=tabK T keys n (r+1):=by
 unfold tabK
 apply qp
 intro j
 rw [qO]
 by_cases hj:r=j
 ·subst hj
  rw [jw rfl,jw (by simpa using hr),qj,qX hr]
  simp
 ·rw [jk hj,qj,qj]
  by_cases hjn:j<n
  ·rw [qX hjn]
   simp only [qV,qK]
   by_cases h:j<r
   ·rw [jw h,jw (by omega)]
   ·rw [jk h,jk (by omega)]
  ·rw [qf (by simp;omega)];rfl
theorem hD4 (T:Int->List Int)(r:Nat)(ks:List Int)(k:Int):gH2 T r (ks++[k])=gH2 T r ks++if fS4 T r k≠0 then [⟨k,65535,fS4 T r k⟩] else []:=by
 unfold gH2
 rw [List.filterMap_append]
 congr 1
 unfold cC0 fS4
 by_cases h:(T k)[r]?.getD 0=0<;>simp [h]
end Go.Gm
namespace Go.Proofs
open Go Go.Vx Go.Gm
def kM7 (x:WayM):List Value:=[.int .i64 x.key,.int .i64 x.home,.slice x.p x.tg.length x.c]
def trF (n:Nat)(d:TR):Int×Value:=(d.key,.slice (some ⟨d.g,0,none⟩) n d.c)
def trE (n:Nat)(T:Int->List Int)(d:TR):Ent:=.vec (some ⟨d.g,0,none⟩) n d.c 3 1 (bQ1 bQ6 (T d.key))
def erV (r:ERow):List Value:=[.slice r.p r.l.length r.c]
def erE (r:ERow):Ent:=.vec r.p r.l.length r.c 180 3 (bQ1 bY1 r.l)
theorem gF5 (T:Int->List Int)(r:Nat)(ks:List Int):bQ1 bY1 (gH2 T r ks)=bQ1 (dM5 (fS4 T r)) (hH5 T r ks):=by
 rw [dB0]
 unfold bQ1
 rw [List.flatMap_map]
 rfl
theorem cD0 {α β:Type}(f:α->β){l:List α}{i:Nat}(h:i<l.length)(y:α):((l.set i y).map f).Perm (f y::(l.eraseIdx i).map f):=by
 rw [List.set_eq_take_append_cons_drop,jw h,List.eraseIdx_eq_take_drop_succ,ql,ql,qI]
 exact List.perm_middle
theorem fV9 {α β:Type}(f:α->β){l:List α}{i:Nat}{x:α}(h:l[i]? =some x):(l.map f).Perm (f x::(l.eraseIdx i).map f):=by
 obtain ⟨hlt,rfl⟩:=qx.1 h
 have:=cD0 f hlt l[i]
 rw [List.set_getElem_self] at this
 exact this
theorem gN0 (a b x:Ent)(S:HP):(a::b::(S++[x])).Perm (x::a::b::S):=by
 have h:(a::b::(S++[x]))=(a::b::S)++[x]:=rfl
 rw [h]
 exact List.perm_append_singleton x (a::b::S)
theorem fF1 (a b c e:Ent)(A:HP){S S':HP}(h:S.Perm (e::S')):(a::b::c::(A++S)).Perm (e::a::b::c::(A++S')):=by
 have h1:(a::b::c::(A++S)).Perm ((a::b::c::A)++(e::S')):=by
  rw [<-Qw,<-Qw,<-Qw]
  exact QN _ h
 refine h1.trans ?_
 have:=List.perm_middle (a:=e) (l₁:=a::b::c::A) (l₂:=S')
 exact this
theorem hW0 (a b e:Ent)(A:HP){S S':HP}(h:S.Perm (e::S')):(a::b::(A++S)).Perm (e::a::b::(A++S')):=by
 have h1:(a::b::(A++S)).Perm ((a::b::A)++(e::S')):=by
  rw [<-Qw,<-Qw]
  exact QN _ h
 refine h1.trans ?_
 have:=List.perm_middle (a:=e) (l₁:=a::b::A) (l₂:=S')
 exact this
theorem lQ1 (r:ERow)(p:Option Addr)(c:Nat)(x:Ety):upd (erV r) 0 [.slice p (r.l.length+1) c]=some (erV ⟨p,c,r.l++[x]⟩):=by
 unfold erV
 rw [qw]
 rfl
theorem kY3 (p:Option Addr)(c:Nat)(l:List Ety)(x:Ety):erE ⟨p,c,l++[x]⟩=.vec p (l.length+1) c 180 3 (bQ1 bY1 l++[.int .i64 x.key,.int .i64 x.mask,.int .i64 x.outs]):=by
 unfold erE
 rw [qw,bQ7]
 rfl
theorem fZ3 {α:Type}{f:α->List Value}(l:List α)(i:Nat){a b:α}(h:f a=f b):bQ1 f (l.set i a)=bQ1 f (l.set i b):=by
 unfold bQ1
 rw [QF,QF,List.map_set,List.map_set,h]
theorem dM3 (s:Spc)(hs:s.wf)(hok:SpcOk s)(T:Int->List Int)(l:List WayM)(hl:WaysOk s T l)(p:Option Addr)(c b o:Nat)(w:World)(h1:Sl w kM7 3 l p l.length b o)(h2:∀x∈l,∃b o,Sl w bQ6 1 x.tg x.p x.tg.length b o):
  Calls Tryz.prog 66 #[.agg (cK4 s).toArray,.slice p l.length c] w fun e w'=>∃z:Nat×List ERow,e=.returned (.tuple #[.slice (some ⟨z.1,0,none⟩) z.2.length z.2.length,.int .i64 0])/\
   (z.2.map (·.l)=(List.range (s.wide*s.high).toNat).map (bW3 T (l.map (·.key)))/\∀r∈z.2,r.ok)/\St w [] (.vec (some ⟨z.1,0,none⟩) z.2.length z.2.length 178 1 (bQ1 erV z.2)::z.2.map erE) w':=by
 have hmc:=fun w'=>bN3 s hs w'
 have hme:cX3 s=0:=bN4.2 hok
 rw [hme] at hmc
 have hfew:=hl.few
 have hcw:=hok.wide
 have hch:=hok.high
 have hcells:1<=s.wide*s.high/\s.wide*s.high<=64:=by
  have h1:1*1<=s.wide*s.high:=Int.mul_le_mul hcw.1 hch.1 (by omega) (by omega)
  have h2:s.wide*s.high<=8*8:=Int.mul_le_mul hcw.2 hch.2 (by omega) (by omega)
  omega
 obtain ⟨n,hn⟩:∃n:Nat,s.wide*s.high=(n:Int):=⟨(s.wide*s.high).toNat,by omega⟩
 have hnn:(s.wide*s.high).toNat=n:=by omega
 have hlen:=hl.len
 rw [hnn] at hlen ⊢
 rw [hn] at hcells
 have htr:=fun (x:WayM) (hx:x∈l) (w':World) p c b o h=>cV3 s hs x.home (hl.home x hx) x.tg (hl.tgs x hx).1 (hl.tgs x hx).2 p c b o w' h
 unfold cK4 at hmc htr ⊢
 refine enter (C:=Tryz.cx) (F:=mF4) (args:=[_,_]) Tryz.func66 rfl rfl rfl ok66 (St.start w []) ?_
 repeat' (conv=>whnf);first|(refine VNew.mk fun b2=>?_)|(refine bQ0 115 ?_;(refine bQ4 (fun w' _=>hmc w') ?_))|(refine VSeq.go ?_)|(refine VB.is ?_;refine bZ2 (by omega) fun _=>?_)|(refine VLd.is ?_;refine VLd.mk (.row aT (by rfl)) ?_)
 all_goals (conv=>whnf)
 rename_i c2 _ _
 have hkeys:∀{i:Nat} {x:WayM},l[i]? =some x->∀{trs:List TR},trs.map (·.key)=(l.take i).map (·.key)->∀q∈trs.map (trF n),q.1≠x.key:=fun {i x} hx {trs} he q hq e=>by
  obtain ⟨d,hd,rfl⟩:=qo.1 hq
  have h1:d.key∈(l.take i).map (·.key):=by rw [<-he];exact qN hd
  obtain ⟨j,hj⟩:=jh h1
  have hjl:=(qx.1 hj).1
  rw [qv,qh] at hjl
  rw [qj,Qt,jw (by omega)] at hj
  have h2:(l.map (·.key))[j]? =some d.key:=by rw [qj];exact hj
  have h3:(l.map (·.key))[i]? =some x.key:=by rw [qj,hx];rfl
  have:=kT3 hl.asc h2 h3 (by omega)
  have e2:d.key=x.key:=e
  omega
 refine VLoop.mk (α:=Nat×List TR) (fun z=>z.1<=l.length/\z.2.map (·.key)=(l.take z.1).map (·.key)) (fun z=>[(1000000,.tuple #[]),(2,.pointer (some ⟨c2,0,none⟩)),(4,.slice none 0 0),(5,.int .i64 0),(7,.map (some b2)),(25,.slice p l.length c),(26,.int .i64 (l.length:Int)),(27,.int .i64 (z.1:Int))])
  (fun z=>.row c2 27 [.int .i64 s.wide,.int .i64 s.high,.int .i64 s.room]::.map b2 (z.2.map (trF n))::z.2.map (trE n T)) (fun z=>l.length - z.1) (0,[]) ⟨qB _,rfl⟩ aE aH ?_
 rintro ⟨i,trs⟩ ⟨hi,hk⟩
 dsimp only at hi hk ⊢
 rcases qy i l.length with hlt|hge
 ·obtain ⟨x,hx⟩:=h1.get hlt
  have hxm:=qz hx
  obtain ⟨bx,ox,hx2⟩:=h2 x hxm
  have hab:=fH3 (hkeys hx hk)
  have hxk:=hl.key x hxm
  have hxv:sub (kM7 x) 0 3=some [.int .i64 x.key,.int .i64 x.home,.slice x.p x.tg.length x.c]:=rfl
  have hTx:=htr x hxm
  rw [hl.tree x hxm] at hTx
  have hln:=hlen x hxm
  dsimp only at hTx
  rw [hln] at hTx
  have hkn:(trs++[(⟨x.key,0,0⟩:TR)]).map (·.key)=(l.take (i+1)).map (·.key):=by rw [ql,hk,qi,hx,qW,ql];rfl
  obtain ⟨TX,hTX⟩:=gX (T x.key)
  rw [hTX] at hTx
  clear hkeys hmc htr
  repeat' (conv=>whnf);first|(refine VNew.mk fun bw=>?_)|(refine VIx.is ?_;refine VIx.mk (h1.ptr (by omega)) (by omega) (by omega) ?_)|(refine VLd.is ?_;refine oC (h1.rd0 (by simp) (fun _=>rfl) hx hxv) ?_)|(refine VMp.is ?_;refine VMp.is ?_;refine VMp.mk aT ?_)|(refine VLk.is ?_;refine VLk.is ?_;refine VLk.lacks hab.1 ?_)|(refine bQ0 22 ?_;(refine bQ2 (fun w' hw'=>hTx w' _ _ _ _ (hx2.keep hw' (by simp))) ?_;rintro ⟨q,cq⟩ hq;dsimp only at hq ⊢;obtain ⟨gq,rfl⟩:=hq (by omega)))|(refine VMpU.is ?_;refine VMpU.is ?_;refine VMpU.mk aT ?_;rw [hab.2])|(refine VSeq.go ?_)|(refine VB.is ?_;refine bX5 (by omega) fun _=>?_)|(refine VB.is ?_;refine bZ2 (by omega) fun _=>?_)|(refine VLd.is ?_;refine VLd.mk (.row aT (by rfl)) ?_)|(refine VSt.is ?_;refine VSt.row aT (by rfl) (by first|rfl|assumption) ?_)|(refine VAr.is ?_;refine oA ?_)
  all_goals (conv=>whnf)
  refine VNext.mk (i+1,trs++[⟨x.key,gq,cq⟩]) ⟨by dsimp only;omega,by dsimp only;rw [<-hkn,List.map_append,List.map_append];rfl⟩ (by dsimp only;omega) aE ?_
  dsimp only
  rw [ql,ql,qU,qU]
  have e1:trE n T ⟨x.key,gq,cq⟩=.vec (some ⟨gq,0,none⟩) n cq 3 1 (bQ1 bQ6 TX):=by unfold trE;dsimp only;rw [hTX]
  rw [e1]
  refine HLe.permL ?_ (gN0 _ _ _ _)
  exact aH
 have hil:i=l.length:=by omega
 subst hil
 rw [Qk] at hk
 obtain ⟨keys,hkeysE⟩:=gX (l.map (·.key))
 have hasc:=hl.asc
 rw [hkeysE] at hk hasc ⊢
 have hTl:∀d∈trs,(T d.key).length=n:=fun d hd=>by
  have h1:d.key∈keys:=by rw [<-hk];exact qN hd
  rw [<-hkeysE] at h1
  obtain ⟨x,hx,he⟩:=qo.1 h1
  rw [<-he];exact hlen x hx
 have hkn:keys.length<=1024:=by rw [<-hkeysE,qv];exact hfew
 clear hkeys htr hmc hlen hkeysE hge hi
 repeat' (conv=>whnf);first|(refine VAr.is ?_;refine VAr.is ?_;refine VAr.mul hn (by omega) (by omega) ?_)|(refine VMk.is ?_;refine VMk.mk (by omega) (by omega) (by (try dsimp only);omega) (by omega) fun go=>?_)|(refine VSeq.go ?_)|(refine VB.is ?_;refine bZ2 (by omega) fun _=>?_)|(refine VLd.is ?_;refine VLd.mk (.row aT (by rfl)) ?_)
 all_goals (conv=>whnf)
 have hrE:bQ1 erV (List.replicate n (⟨none,0,[]⟩:ERow))=bB1 [.slice none 0 0] n:=(bV3 (f:=erV) (x:=(⟨none,0,[]⟩:ERow)) n).symm
 have hsE:(List.replicate n (⟨none,0,[]⟩:ERow)).map erE=List.replicate n (.vec none 0 0 180 3 []):=by rw [List.map_replicate];rfl
 refine VLoop.mk (α:=Nat×List ERow) (fun z=>z.1<=n/\z.2.map (·.l)=tabK T keys n z.1/\∀r∈z.2,r.ok) (fun z=>[(1000000,.tuple #[]),(4,.slice none 0 0),(5,.int .i64 0),(7,.map (some b2)),(12,.slice (some ⟨go,0,none⟩) n n),(68,.int .i64 (n:Int)),(69,.int .i64 (z.1:Int))])
  (fun z=>.map b2 (trs.map (trF n))::.vec (some ⟨go,0,none⟩) n n 178 1 (bQ1 erV z.2)::(trs.map (trE n T)++z.2.map erE)) (fun z=>n - z.1) (0,List.replicate n ⟨none,0,[]⟩) ⟨qB _,?_,?_⟩ aE ?_ ?_
 ·dsimp only
  rw [List.map_replicate]
  unfold tabK
  rw [cB6]
  exact List.map_congr_left fun i _=>(jk (by omega)).symm
 ·intro r hr
  rw [QM hr]
  intro h;cases h
 ·dsimp only
  rw [hrE,hsE]
  refine HLe.permL (cQ2 ?_ n) (A':=_) (A:=List.replicate n (.vec none 0 0 180 3 [])++(.map b2 (trs.map (trF n))::.vec (some ⟨go,0,none⟩) n n 178 1 (bB1 [.slice none 0 0] n)::trs.map (trE n T))) ?_
  ·exact aH
  ·exact List.perm_append_comm (l₁:=.map b2 (trs.map (trF n))::.vec (some ⟨go,0,none⟩) n n 178 1 (bB1 [.slice none 0 0] n)::trs.map (trE n T))
 rintro ⟨r,rows⟩ ⟨hr,hrows,hrok⟩
 dsimp only at hr hrows hrok ⊢
 have hrl:rows.length=n:=by
  have:=congrArg List.length hrows
  rw [qv] at this
  rw [this];unfold tabK;simp
 rcases qy r n with hlt|hge
 ·obtain ⟨row0,hrow0⟩:∃row0,rows[r]? =some row0:=⟨_,qq (by omega)⟩
  have hr0:row0.l=[]:=by
   have:=congrArg (fun L=>L[r]?) hrows
   rw [qj,hrow0] at this
   unfold tabK at this
   rw [qj,qX hlt] at this
   simpa using this
  have hself:rows.set r row0=rows:=by
   obtain ⟨h1,h2⟩:=qx.1 hrow0
   rw [<-h2];exact List.set_getElem_self h1
  repeat' (conv=>whnf);first|(refine VRgM.is ?_;refine VRgM.mk aT fun es clock it hes hst=>?_)|(refine VSeq.go ?_)|(refine VB.is ?_;refine bX5 (by omega) fun _=>?_)
  all_goals (conv=>whnf)
  refine VLoop.mk (α:=Array Nat×List MapEntry×List TR×ERow) (fun z=>Vis es z.1 z.2.1/\(∀d∈z.2.2.1,d∈trs)/\(z.2.1.map fun x=>kS5 x.key)=z.2.2.1.map (·.key)/\z.2.2.2.l=gH2 T r (z.2.2.1.map (·.key))/\z.2.2.2.ok) (fun z=>[(1000000,.tuple #[]),(4,.slice none 0 0),(5,.int .i64 0),(7,.map (some b2)),(12,.slice (some ⟨go,0,none⟩) n n),(13,.int .i64 (r:Int)),(68,.int .i64 (n:Int)),(69,.int .i64 (r:Int)),(73,.pointer (some ⟨it,0,none⟩))])
   (fun z=>.obj it (.mapIter (some b2) clock z.1 clock)::.obj b2 (.map es clock)::.vec (some ⟨go,0,none⟩) n n 178 1 (bQ1 erV (rows.set r z.2.2.2))::(trs.map (trE n T)++(rows.set r z.2.2.2).map erE)) (fun z=>hF6 es z.1) (#[],[],[],row0) ⟨Vis.nil es,by simp,rfl,by rw [hr0];rfl,hrok _ (List.mem_of_getElem? hrow0)⟩ aE (by dsimp only;rw [hself];exact aH) ?_
  rintro ⟨seen,vs,ds,row⟩ ⟨hvis,hds,hvk,hrowl,hrowk⟩
  dsimp only at hvis hds hvk hrowl hrowk ⊢
  have hrow:(rows.set r row)[r]? =some row:=by rw [qO,jw rfl,jw (by omega)]
  repeat' (conv=>whnf);first|(refine VNxM.is ?_;refine VNxM.mk aT aT hst.1 (qA _) (fun hend=>?_) (fun x hx hn=>?_))|(refine VSeq.go ?_)|(refine VIx.is ?_;refine VIx.mk rfl (by omega) (by omega) ?_)
  all_goals (conv=>whnf)
  ·have hperm:=hS3 hes (hvis.done hst hend)
   rw [hvk] at hperm
   have hpk:(ds.map (·.key)).Perm keys:=by rw [<-hk];exact hperm
   have hsort:cT7 (hH5 T r (ds.map (·.key)))=hH5 T r keys:=hL9 (hpk.filter _) (hasc.filter _)
   have htab:gH2 T r keys=bW3 T keys r:=rfl
   have hlen2:(gH2 T r keys).length=row.l.length:=by rw [hrowl];exact ((hpk.filterMap _).length_eq).symm
   have hpl:row.l.length<=1024:=by
    have h1:=List.length_filterMap_le (cC0 T r) keys
    have:(gH2 T r keys).length=(List.filterMap (cC0 T r) keys).length:=rfl
    omega
   have hrowf:bQ1 bY1 row.l=bQ1 (dM5 (fS4 T r)) (hH5 T r (ds.map (·.key))):=by rw [hrowl];exact gF5 T r _
   have hkl:(hH5 T r (ds.map (·.key))).length=row.l.length:=by rw [hrowl,dB0,qv]
   have hfin:bQ1 (dM5 (fS4 T r)) (hH5 T r keys)=bQ1 bY1 (gH2 T r keys):=(gF5 T r keys).symm
   have herE:erE row=.vec row.p row.l.length row.c 180 3 (bQ1 (dM5 (fS4 T r)) (hH5 T r (ds.map (·.key)))):=by unfold erE;rw [hrowf]
   have hgp:=fV9 erE hrow
   rw [herE,List.eraseIdx_set_eq] at hgp
   have hrows2:(rows.set r ⟨row.p,row.c,gH2 T r keys⟩).map (·.l)=tabK T keys n (r+1):=by rw [List.map_set,hrows];exact tabK_next T keys hlt
   clear hrows hself hrow0 hr0 hperm hend hds hvis
   repeat' (conv=>whnf);first|(refine VLd.is ?_;refine oC (.vec aT (bQ8 (f:=erV) (k:=1) (fun _=>rfl) hrow rfl)) ?_)|(refine bQ0 116 ?_;(refine VCall.le (H':=.vec row.p row.l.length row.c 180 3 (bQ1 (dM5 (fS4 T r)) (hH5 T r (ds.map (·.key))))::.map b2 (trs.map (trF n))::.vec (some ⟨go,0,none⟩) n n 178 1 (bQ1 erV (rows.set r row))::(trs.map (trE n T)++(rows.eraseIdx r).map erE)) ?_ (gD7 (fS4 T r) row.p row.l.length row.c _ hkl .here (by omega) ?_);rotate_left;rw [hsort,hfin]))|(refine VAr.is ?_;refine oA ?_)
   all_goals (conv=>whnf)
   ·refine VNext.mk (r+1,rows.set r ⟨row.p,row.c,gH2 T r keys⟩) ⟨by dsimp only;omega,hrows2,fun q hq=>?_⟩ (by dsimp only;omega) aE ?_
    ·rcases Qq hq with h|rfl
     ·exact hrok q h
     ·intro h
      dsimp only at h
      exact hrowk (by omega)
    ·dsimp only
     have hev:erV ⟨row.p,row.c,gH2 T r keys⟩=erV row:=by unfold erV;dsimp only;rw [hlen2]
     rw [fZ3 rows r hev]
     refine HLe.permL ?_ (hW0 _ _ _ _ (cD0 erE (by omega) _))
     unfold erE
     dsimp only
     rw [hlen2]
     exact aH
   ·refine HLe.perm (B:=.vec row.p row.l.length row.c 180 3 (bQ1 (dM5 (fS4 T r)) (hH5 T r (ds.map (·.key))))::.obj it (.mapIter (some b2) clock seen clock)::.obj b2 (.map es clock)::.vec (some ⟨go,0,none⟩) n n 178 1 (bQ1 erV (rows.set r row))::(trs.map (trE n T)++(rows.eraseIdx r).map erE)) ?_ (fF1 _ _ _ _ _ hgp).symm
    refine HLe.permL ?_ (.swap _ _ _)
    exact gK0 aT hes hst aH
  have hvn:=hvis.next hx hn
  have hln:=hvn.len hst
  have hess:es.size=trs.length:=by
   have:=congrArg List.length hes
   simpa using this
  have htl:trs.length<=1024:=by
   have:=congrArg List.length hk
   rw [qv] at this
   omega
  have hdl:ds.length=vs.length:=by
   have:=congrArg List.length hvk
   simpa using this.symm
  have hrl2:row.l.length<=ds.length:=by
   rw [hrowl]
   have:=List.length_filterMap_le (cC0 T r) (ds.map (·.key))
   rw [qv] at this
   exact this
  rw [qw,qM] at hln
  obtain ⟨d,hd,hk1,hv1⟩:=hS2 hes hx
  obtain ⟨jd,hjd⟩:=jh hd
  obtain ⟨v,hv⟩:∃v,(T d.key)[r]? =some v:=⟨_,qq (by rw [hTl d hd];omega)⟩
  have hout:fS4 T r d.key=v:=by unfold fS4;rw [hv];rfl
  have hsn:=hD4 T r (ds.map (·.key)) d.key
  rw [hout,<-hrowl] at hsn
  have hdk:(ds++[d]).map (·.key)=ds.map (·.key)++[d.key]:=by rw [ql];rfl
  have hvk2:((vs++[x]).map fun x=>kS5 x.key)=(ds++[d]).map (·.key):=by
   rw [ql,hvk,hdk,qU,hk1];rfl
  have hds2:∀q∈ds++[d],q∈trs:=fun q hq=>by
   rcases qH.1 hq with h|h
   ·exact hds q h
   ·rw [qt] at h;rw [h];exact hd
  have hlp:=dT5 hx hn
  clear hrows hrok hself hrow0 hr0
  repeat' (conv=>whnf);first|(refine VEn.is ?_;refine VEn.is ?_;refine VEn.mk aT aT (by simp) (fM5 hst hx) ?_;rw [hk1,hv1])|(refine VIx.is ?_;refine VIx.mk rfl (by omega) (by omega) ?_)|(refine VLd.is ?_;refine oC (Rd.seg (f:=trE n T) (l:=trs) aS hjd rfl (bQ8 (f:=bQ6) (k:=1) (fun _=>rfl) hv rfl)) ?_)|(refine VLd.is ?_;refine oC (.vec aT (bQ8 (f:=erV) (k:=1) (fun _=>rfl) hrow rfl)) ?_)|(refine VNew.mk fun bn=>?_)|(refine VAp.is ?_;refine VAp.seg (f:=erE) (l:=rows.set r row) aS hrow rfl (.at_ (.vec aT rfl)) (by simp [Value.oneCell']) (by (try dsimp only);omega) (by simp only [maxLen];omega) fun p1 c1 hp1=>?_)|(refine VSt.is ?_;refine VSt.is ?_;refine VSt.cast (off':=r*1) (by first|omega|(dsimp only;omega)|rfl) (VSt.vec aT (bZ9 (f:=erV) (k:=1) (y:=⟨p1,c1,row.l++[⟨d.key,65535,v⟩]⟩) (fun _=>rfl) hrow (lQ1 _ _ _ _)) rfl ?_);rw [List.set_set])|(refine VSeq.go ?_)|(refine VB.split (fun _=>?_) (fun _=>?_))|(refine VKeep.is ?_;refine VKeep.mk aH ?_)|(refine VHs.mk _ (.refl _) ?_)
  all_goals (conv=>whnf)
  ·refine VNext.mk (seen.push x.born,vs++[x],ds++[d],⟨p1,c1,row.l++[⟨d.key,65535,v⟩]⟩) ⟨hvn,hds2,hvk2,?_,fun _=>hp1 (by omega)⟩ hlp aE ?_
   ·dsimp only
    rw [hdk,hsn,jw (by omega)]
   ·dsimp only
    refine HLe.permL ?_ (fF1 _ _ _ _ _ (cD0 erE (by omega) _))
    rw [kY3,List.eraseIdx_set_eq]
    exact aH
  ·refine VNext.mk (seen.push x.born,vs++[x],ds++[d],row) ⟨hvn,hds2,hvk2,?_,hrowk⟩ hlp aE aH
   dsimp only
   rw [hdk,hsn,jk (by omega),qC]
 have hrn:r=n:=by omega
 subst hrn
 repeat' (conv=>whnf);first|(refine VSeq.go ?_)|(refine VB.is ?_;refine bZ2 (by omega) fun _=>?_)
 all_goals (conv=>whnf)
 refine ⟨fun w' hw'=>⟨(go,rows),?_,⟨?_,hrok⟩,?_⟩⟩
 ·rw [hrl];rfl
 ·rw [hrows]
  unfold tabK
  exact List.map_congr_left fun i hi=>jw (qL.1 hi)
 ·dsimp only
  rw [hrl]
  exact hw'.le aH
end Go.Proofs
