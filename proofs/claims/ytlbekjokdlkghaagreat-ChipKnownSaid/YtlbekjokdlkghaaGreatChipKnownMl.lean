import Derived.Test.YtlbekjokdlkghaaGreatChipKnownPz
import Derived.Test.YtlbekjokdlkghaaGreatChipKnownMz
import Derived.Test.YtlbekjokdlkghaaGreatChipKnownMj
set_option linter.unusedVariables false
set_option linter.unusedSimpArgs false
set_option maxHeartbeats 4000000
namespace Go.Gm
structure RRow where
 p:Option Addr
 c:Nat
 l:List RowE
def RRow.ok (r:RRow):Prop:=0<r.l.length->∃g,r.p=some ⟨g,0,none⟩
def rowsK (N:Net)(cores:List Int)(l:List (Syn×Int))(n:Nat):List (List RowE):=(List.range n).map fun (k:Nat)=>rowsM N cores l (k:Int)
theorem rowsK_next (N:Net)(cores:List Int)(l:List (Syn×Int)){x:Syn×Int}{n k:Nat}(hk:k<n)(h:cores[x.1.to.toNat]? =some (k:Int)):rowsK N cores (l++[x]) n=(rowsK N cores l n).set k (rowsM N cores l (k:Int)++[rowOf N cores x.1 x.2]):=by
 unfold rowsK
 rw [range_set (f:=fun (k:Nat)=>rowsM N cores l (k:Int)) (g:=fun (k:Nat)=>rowsM N cores (l++[x]) (k:Int)) hk (fun i hi=>by
  show rowsM N cores (l++[x]) (i:Int)=rowsM N cores l (i:Int)
  rw [rowsM_snoc,h,jz (by simp;omega),qC])]
 congr 1
 rw [rowsM_snoc,jx h]
end Go.Gm
namespace Go.Proofs
open Go Go.Vx Go.Gm
def rwV (x:RowE):List Value:=[.int .i64 x.key,.int .i64 x.slot,.int .i64 x.wt,.int .i64 x.dl]
def rrV (r:RRow):List Value:=[.slice r.p r.l.length r.c]
def rrE (r:RRow):Ent:=.vec r.p r.l.length r.c 158 4 (flat rwV r.l)
structure MapP where
 pc:Option Addr
 cc:Nat
 ps:Option Addr
 cs:Nat
 y:QP
 pr:Option Addr
 cr:Nat
 rr:List RRow
 pt:Option Addr
 ct:Nat
 tt:List ERow
 pw:Option Addr
 cw:Nat
def mapV (z:MapP)(R:MapM):List Value:=[.slice z.pc R.cores.length z.cc,.slice z.ps R.slots.length z.cs]++quantC z.y R.quant++[.slice z.pr z.rr.length z.cr,.slice z.pt z.tt.length z.ct,.slice z.pw R.waves.length z.cw,.int .i64 R.cost,.int .i64 R.load,.int .i64 R.steps]
def mapH (z:MapP)(R:MapM):HP:=.vec z.pc R.cores.length z.cc 3 1 (flat intV R.cores)::.vec z.ps R.slots.length z.cs 3 1 (flat intV R.slots)::.vec z.pr z.rr.length z.cr 155 1 (flat rrV z.rr)::.vec z.pt z.tt.length z.ct 178 1 (flat erV z.tt)::.vec z.pw R.waves.length z.cw 3 1 (flat intV R.waves)::(quantH z.y R.quant++(z.rr.map rrE++z.tt.map erE))
structure MapIs (z:MapP) (R:MapM):Prop where
 rows:z.rr.map (·.l)=R.rows
 tables:z.tt.map (·.l)=R.tables
 okR:∀r∈z.rr,r.ok
 okT:∀r∈z.tt,r.ok
def mpNil:MapP:=⟨none,0,none,0,qpNil,none,0,[],none,0,[],none,0⟩
theorem mpNil_is:MapIs mpNil mapNone:=⟨rfl,rfl,by simp [mpNil],by simp [mpNil]⟩
theorem _root_.Go.Proofs.CntIs.lk {m:List (Int×Value)}{f:Int->Nat}(h:CntIs m f)(j:Int){z:Value}(hz:z=.int .i64 0){k:Value->Prop}(hk:k (.int .i64 (f j:Int))):VLk m j fun r=>found false z r k:=by
 rcases h.look j with ⟨h1,h2⟩|⟨h1,h2⟩
 ·refine .lacks h1 ?_
  show k z
  rw [hz]
  rw [h2] at hk
  exact hk
 ·exact .has h1 hk
theorem placeMap_bad (X:PlnX)(w:World)(hX:PlnRd X w)(cores:List Int)(hcw:∀k∈cores,I64 k)(hlc:cores.length<=1000000)(p:Option Addr)(c b o:Nat)(h1:Sl w intV 1 cores p cores.length b o)(hbad:asgE X.N X.C cores≠0):
  Calls Tryz.prog 20 #[.agg X.net.toArray,.agg (chpC X.C X.pd X.cd).toArray,.slice p cores.length c] w fun e w'=>e=.returned (.tuple #[.agg (mapV mpNil mapNone).toArray,.int .i64 (asgE X.N X.C cores)])/\St w [] [] w':=by
 have hasg:=asgE_chk X.N X.C cores
 have hb:=fun he (w':World) h=>planned_bad X w' h he (.slice p cores.length c) rfl
 have hg:=fun he (w':World) h h1=>planned_any X w' h he cores hcw hlc p c b o h1
 by_cases he:Gm.planE X.N X.C≠0
 ·have hb:=hb he
  rw [jx he] at hasg
  rw [hasg]
  unfold PlnX.net chpC at hb ⊢
  refine enter (C:=Tryz.cx) (F:=Tryz.fx20) (args:=[_,_,_]) Tryz.func20 rfl rfl rfl Tryz.ok20 (St.start w []) ?_
  obtain ⟨E,hE⟩:=gX (Gm.planE X.N X.C)
  rw [hE] at hb he ⊢
  repeat' (conv=>whnf);first|(refine VNew.mk fun b3=>?_)|(refine VCall.isF 55 ?_;(refine VCall.valR (fun w' hw'=>hb w' (hX.keep hw')) ?_))|refine VSeq.go ?_|refine oY fun _=>?_|refine oL ?_|refine oT ?_
  all_goals (conv=>whnf)
  all_goals first
   |exact ⟨fun w' hw'=>⟨rfl,hw'.le .nil⟩⟩
   |(exfalso;omega)
 have hp0:=Qm.1 he
 have hg:=hg hp0
 rw [jz he] at hasg
 have hc:chkA X.N X.C cores≠0:=by rw [<-hasg];exact hbad
 rw [hasg]
 obtain ⟨E,hE⟩:=gX (chkA X.N X.C cores)
 rw [hE] at hg hc ⊢
 unfold PlnX.net chpC at hg ⊢
 refine enter (C:=Tryz.cx) (F:=Tryz.fx20) (args:=[_,_,_]) Tryz.func20 rfl rfl rfl Tryz.ok20 (St.start w []) ?_
 repeat' (conv=>whnf);first|(refine VNew.mk fun b3=>?_)|(refine VCall.isF 55 ?_;(refine VCall.genR (fun w' hw'=>hg w' (hX.keep hw') (h1.keep hw' (by simp))) ?_;rintro x hup))|refine VSeq.go ?_|refine oY fun _=>?_|refine oL ?_|refine oT ?_
 all_goals (conv=>whnf)
 all_goals first
  |exact ⟨fun w' hw'=>⟨rfl,hw'.le .nil⟩⟩
  |(exfalso;omega)
theorem _root_.Go.Vx.Sl.ownT {α:Type}{f:α->List Value}{k:Nat}{l:List α}{w0 w:World}{M:List Nat}{H r:HP}{u:Ent->HP}{g n cap e:Nat}(hs:St w0 M H w)(hat:At H (.vec (some ⟨g,0,none⟩) n cap e k (flat f l)) u r)(hk:∀x,(f x).length=k)(hl:l.length=n):
  Sl w f k l (some ⟨g,0,none⟩) n g 0:=Sl.own' hs hat.mem hk hl
theorem perm_v2 (a b v:Ent)(R:HP):(a::b::v::R).Perm (v::a::b::R):=((List.Perm.swap v b R).cons a).trans (.swap v a (b::R))
theorem synV_at {s:Syn}{t:Nat}(ht:s.to=(t:Int)):sub (synV s) 0 4=some [.int .i64 s.frm,.int .i64 (t:Int),.int .i64 s.wt,.int .i64 s.dl]:=by
 have:synV s=[.int .i64 s.frm,.int .i64 (t:Int),.int .i64 s.wt,.int .i64 s.dl]:=by rw [<-ht];rfl
 rw [this];rfl
theorem rrV_upd (r:RRow)(p:Option Addr)(c:Nat)(x:RowE):upd (rrV r) 0 [.slice p (r.l.length+1) c]=some (rrV ⟨p,c,r.l++[x]⟩):=by
 unfold rrV
 rw [qw]
 rfl
theorem rrE_snoc (p:Option Addr)(c:Nat)(l:List RowE)(x:RowE):rrE ⟨p,c,l++[x]⟩=.vec p (l.length+1) c 158 4 (flat rwV l++[.int .i64 x.key,.int .i64 x.slot,.int .i64 x.wt,.int .i64 x.dl]):=by
 unfold rrE
 rw [qw,flat_append]
 rfl
theorem put_seg {α:Type}{A:HP}{Z:HP->HP}{f:α->Ent}{l:List α}{i:Nat}{y:α}(h:AtS A ((l.set i y).map f) Z)(hi:i<l.length):A.Perm (f y::((l.eraseIdx i).map f++Z [])):=by
 refine h.perm.trans ?_
 exact List.Perm.append_right (Z []) (wset_perm f hi y)
def mpE (X:PlnX)(cores:List Int):SrcE:=⟨srcTree X.N X.C cores,X.C.mesh.wide,homeM X.N cores,coresM X.N X.C cores⟩
def tgE (w:WayM):Ent:=.vec w.p w.tg.length w.c 3 1 (flat intV w.tg)
structure MpS where
 ws:List WvM
 am:List (Value×Value)
 aks:List Int
 ways:List WayM
 wp:Option Addr
 wc:Nat
 pw:Option Addr
 cw:Nat
 wv:List Int
 n:Nat
structure MpOk (X:PlnX) (cores:List Int) (k:Nat) (v:MpS):Prop where
 ws:v.ws.map (·.ks)=wavesM (srcTree X.N X.C cores) X.C.mesh.room (keysK X.N k)
 wok:∀x∈v.ws,WvOk (mpE X cores) x/\x.ks.length<=k
 wl:v.ws.length<=k
 pw:0<v.ws.length->∃g,v.pw=some ⟨g,0,none⟩
 aks:v.aks=keysK X.N k
 aok:CntOf v.am (cntM (v.aks.map (srcTree X.N X.C cores)))
 ways:v.ways.map (·.key)=keysK X.N k
 way:∀w∈v.ways,w.home=homeM X.N cores w.key/\w.tg=coresM X.N X.C cores w.key/\∃g,w.p=some ⟨g,0,none⟩
 wv:v.wv=(List.range (nSrc X.N)).map fun (j:Nat)=>waveOf (wavesM (srcTree X.N X.C cores) X.C.mesh.room (keysK X.N k)) (j:Int)
 n:v.n=costK X.N X.C cores k
theorem mhome_range {N:Net}{C:Chp}{cores:List Int}(h:AsgOk N C cores){key:Int}(hk:0<=key):0<=homeM N cores key/\homeM N cores key<C.mesh.wide*C.mesh.high:=by
 have hn:=nCores_ok h.plan.chip
 unfold homeM
 split
 ·rename_i hlt
  have hl:key.toNat<cores.length:=by rw [h.len];omega
  rw [qq hl,qY]
  exact (h.core _ (Qu hl)).1
 ·omega
theorem core_range {N:Net}{C:Chp}{cores:List Int}(h:AsgOk N C cores){key t:Int}(ht:t∈coresM N C cores key):0<=t/\t<C.mesh.wide*C.mesh.high:=by
 have hn:=nCores_ok h.plan.chip
 unfold coresM at ht
 rw [qP,qo] at ht
 obtain ⟨⟨a,ha,rfl⟩,_⟩:=ht
 rw [qL] at ha
 omega
theorem core_dist {N:Net}{C:Chp}{cores:List Int}(h:AsgOk N C cores){key t:Int}(hk:0<=key)(ht:t∈coresM N C cores key):I64 t/\distR C.mesh (homeM N cores key) t=((distM C.mesh.wide (homeM N cores key) t:Int),0)/\distM C.mesh.wide (homeM N cores key) t<=1000:=by
 have h1:=mhome_range h hk
 have h2:=core_range h ht
 have ha:=area_ok h.plan.chip.mesh
 have hw:=h.plan.chip.mesh.wide
 have hh:=h.plan.chip.mesh.high
 have hz:knownE C.mesh [homeM N cores key,t]=0:=knownE_zero.2 ⟨h.plan.chip.mesh,fun x hx=>by
  rcases qQ.1 hx with rfl|hx
  ·exact h1
  ·rw [qt] at hx;subst hx;exact h2⟩
 have hd:=dist_le qZ h1 h2
 refine ⟨by unfold I64;omega,?_,by omega⟩
 unfold distR
 rw [hz,jz (by simp)]
theorem cores_len {N:Net}{C:Chp}(h:ChpOk C)(cores:List Int)(key:Int):(coresM N C cores key).length<=64:=by
 have h1:=qD (fun q=>decide (∃s∈N.syns,keyM N s.frm=key/\cores[s.to.toNat]? =some q)) ((List.range (nCores C)).map fun (k:Nat)=>(k:Int))
 rw [qv,Qg] at h1
 have:=nCores_ok h
 unfold coresM
 omega
theorem reach_le {X:PlnX}{cores:List Int}(h:AsgOk X.N X.C cores){ks:List Int}(hk:∀k∈ks,0<=k):reachM (mpE X cores).W (mpE X cores).home (mpE X cores).tg ks<=1000:=by
 unfold reachM
 refine foldl_maxB _ _ _ (qB _) fun x hx=>?_
 rw [QY] at hx
 obtain ⟨key,hkey,hx⟩:=hx
 obtain ⟨t,ht,rfl⟩:=qo.1 hx
 exact (core_dist h (hk key hkey) ht).2.2
theorem k11 (X:PlnX)(x:PlnM):sub (plnV X x) 11 1=some [.slice (some ⟨x.gt,0,none⟩) x.T.length x.T.length]:=rfl
theorem _root_.Go.Vx.Rd.pln {w0:World}{M:List Nat}{H:HP}{Z:HP->HP}{X:PlnX}{x:PlnM}{off s:Nat}{vs:List Value}(h:AtS H (plnH X x) Z)(hs:sub (plnV X x) off s=some vs):Rd w0 M H x.b off s vs:=by
 obtain ⟨u,r,_,hat,_⟩:=h.uncons rfl
 exact .row hat hs
theorem MpOk.init (X:PlnX)(cores:List Int){n:Nat}(hn:n=nSrc X.N):MpOk X cores 0 ⟨[],[],[],[],none,0,none,0,List.replicate n (-1),0⟩ where
 ws:=rfl
 wok:=fun x hx=>by cases hx
 wl:=qA _
 pw:=fun h=>by cases h
 aks:=rfl
 aok:=CntOf.nil
 ways:=rfl
 way:=fun x hx=>by cases hx
 wv:=by
  subst hn
  show _=(List.range (nSrc X.N)).map fun (j:Nat)=>(-1:Int)
  rw [map_rep]
 n:=rfl
theorem MpOk.skip {X:PlnX}{cores:List Int}{k:Nat}{v:MpS}(h:MpOk X cores k v)(he:tgtM X.N X.N.syns (k:Int)=[]):MpOk X cores (k+1) v:=by
 have e1:keysK X.N (k+1)=keysK X.N k:=by rw [keysK_next,jz (fun h=>h he),qC]
 have e2:costK X.N X.C cores (k+1)=costK X.N X.C cores k:=by rw [costK_next,jz (fun h=>h he)];rfl
 exact ⟨by rw [e1];exact h.ws,fun x hx=>⟨(h.wok x hx).1,by have:=(h.wok x hx).2;omega⟩,by have:=h.wl;omega,h.pw,by rw [e1];exact h.aks,h.aok,by rw [e1];exact h.ways,h.way,by rw [e1];exact h.wv,by rw [e2];exact h.n⟩
theorem MpOk.waves {X:PlnX}{cores:List Int}{k:Nat}{v:MpS}(h:MpOk X cores k v)(hk:k<nSrc X.N)(hne:tgtM X.N X.N.syns (k:Int)≠[]){i:Nat}(hi:waveIx (srcTree X.N X.C cores) X.C.mesh.room (v.ws.map (·.ks)) (k:Int)=i):
  keysK X.N (k+1)=keysK X.N k++[(k:Int)]/\
  v.wv.set k (i:Int)=((List.range (nSrc X.N)).map fun (j:Nat)=>waveOf (wavesM (srcTree X.N X.C cores) X.C.mesh.room (keysK X.N (k+1))) (j:Int))/\
  wavesM (srcTree X.N X.C cores) X.C.mesh.room (keysK X.N (k+1))=if i<v.ws.length then (v.ws.map (·.ks)).set i (((v.ws.map (·.ks))[i]?.getD [])++[(k:Int)]) else v.ws.map (·.ks)++[[(k:Int)]]:=by
 have e1:keysK X.N (k+1)=keysK X.N k++[(k:Int)]:=by rw [keysK_next,jx hne]
 have e2:wavesM (srcTree X.N X.C cores) X.C.mesh.room (keysK X.N (k+1))=waveAdd (srcTree X.N X.C cores) X.C.mesh.room (v.ws.map (·.ks)) (k:Int):=by rw [e1,wavesM_snoc,h.ws]
 have hn:∀w∈v.ws.map (·.ks),(k:Int)∉w:=fun w hw hm=>by
  rw [h.ws] at hw
  have:=keysK_mem ((mem_wavesM (keysK X.N k)).1 ⟨w,hw,hm⟩)
  omega
 refine ⟨e1,?_,?_⟩
 ·rw [e2,h.wv]
  have hfe:=range_set (f:=fun (j:Nat)=>waveOf (wavesM (srcTree X.N X.C cores) X.C.mesh.room (keysK X.N k)) (j:Int)) (g:=fun (j:Nat)=>waveOf (waveAdd (srcTree X.N X.C cores) X.C.mesh.room (v.ws.map (·.ks)) (k:Int)) (j:Int)) hk (fun j hj=>by
   rw [waveOf_add hn,jz qZ,h.ws])
  rw [hfe,waveOf_add hn,jx rfl,hi]
 ·rw [e2,waveAdd_eq,hi,qv]
theorem MpOk.next_at {X:PlnX}{cores:List Int}{k:Nat}{v:MpS}(h:MpOk X cores k v)(hk:k<nSrc X.N)(hne:tgtM X.N X.N.syns (k:Int)≠[]){i:Nat}{x:WvM}(hi:waveIx (srcTree X.N X.C cores) X.C.mesh.room (v.ws.map (·.ks)) (k:Int)=i)(hx:v.ws[i]? =some x)
  {m1 m2:List (Value×Value)} {a1:Nat×Nat} (h1:WvOk (mpE X cores) ⟨a1.1,a1.2,m1,v.aks++[(k:Int)]⟩) (h2:WvOk (mpE X cores) ⟨x.b,x.bm,m2,x.ks++[(k:Int)]⟩) (wp:Option Addr) (wc g c:Nat):
  MpOk X cores (k+1) ⟨v.ws.set i ⟨x.b,x.bm,m2,x.ks++[(k:Int)]⟩,m1,v.aks++[(k:Int)],v.ways++[⟨(k:Int),homeM X.N cores (k:Int),coresM X.N X.C cores (k:Int),some ⟨g,0,none⟩,c⟩],wp,wc,v.pw,v.cw,v.wv.set k (i:Int),v.n+linksM (srcTree X.N X.C cores (k:Int))⟩:=by
 obtain ⟨e1,e2,e3⟩:=h.waves hk hne hi
 have hil:=(qx.1 hx).1
 refine ⟨?_,fun y hy=>?_,?_,fun hl=>h.pw (by simpa using hl),?_,h1,?_,?_,e2,?_⟩
 ·rw [e3,jx hil,List.map_set,qj,hx];rfl
 ·rcases Qq hy with hy|rfl
  ·exact ⟨(h.wok y hy).1,by have:=(h.wok y hy).2;omega⟩
  ·refine ⟨h2,?_⟩
   have:=(h.wok x (qz hx)).2
   rw [qw,qM];omega
 ·have:=h.wl
  rw [QF];omega
 ·rw [e1,h.aks]
 ·rw [e1,ql,h.ways];rfl
 ·intro y hy
  rcases qH.1 hy with hy|hy
  ·exact h.way y hy
  ·rw [qt] at hy;subst hy
   exact ⟨rfl,rfl,g,rfl⟩
 ·rw [costK_next,jx hne,<-h.n]
theorem MpOk.next_new {X:PlnX}{cores:List Int}{k:Nat}{v:MpS}(h:MpOk X cores k v)(hk:k<nSrc X.N)(hne:tgtM X.N X.N.syns (k:Int)≠[])(hi:waveIx (srcTree X.N X.C cores) X.C.mesh.room (v.ws.map (·.ks)) (k:Int)=v.ws.length)
  {m1 m2:List (Value×Value)} {a1:Nat×Nat} {b bm:Nat} (h1:WvOk (mpE X cores) ⟨a1.1,a1.2,m1,v.aks++[(k:Int)]⟩) (h2:WvOk (mpE X cores) ⟨b,bm,m2,[(k:Int)]⟩) (wp:Option Addr) (wc g c:Nat) {pw:Option Addr} (hpw:∃g,pw=some ⟨g,0,none⟩) (cw:Nat):
  MpOk X cores (k+1) ⟨v.ws++[⟨b,bm,m2,[(k:Int)]⟩],m1,v.aks++[(k:Int)],v.ways++[⟨(k:Int),homeM X.N cores (k:Int),coresM X.N X.C cores (k:Int),some ⟨g,0,none⟩,c⟩],wp,wc,pw,cw,v.wv.set k (v.ws.length:Int),v.n+linksM (srcTree X.N X.C cores (k:Int))⟩:=by
 obtain ⟨e1,e2,e3⟩:=h.waves hk hne hi
 refine ⟨?_,fun y hy=>?_,?_,fun _=>hpw,?_,h1,?_,?_,e2,?_⟩
 ·rw [e3,jz (Nat.lt_irrefl _),ql];rfl
 ·rcases qH.1 hy with hy|hy
  ·exact ⟨(h.wok y hy).1,by have:=(h.wok y hy).2;omega⟩
  ·rw [qt] at hy;subst hy
   exact ⟨h2,by simp⟩
 ·have:=h.wl
  rw [qw,qM];omega
 ·rw [e1,h.aks]
 ·rw [e1,ql,h.ways];rfl
 ·intro y hy
  rcases qH.1 hy with hy|hy
  ·exact h.way y hy
  ·rw [qt] at hy;subst hy
   exact ⟨rfl,rfl,g,rfl⟩
 ·rw [costK_next,jx hne,<-h.n]
theorem wv_set {ws:List WvM}{i:Nat}{x:WvM}(h:ws[i]? =some x)(m:List (Value×Value))(ks:List Int):flat wvV (ws.set i ⟨x.b,x.bm,m,ks⟩)=flat wvV ws:=by
 unfold flat
 have:(ws.set i ⟨x.b,x.bm,m,ks⟩).map wvV=ws.map wvV:=by
  rw [List.map_set]
  apply qp
  intro j
  rw [qO]
  by_cases hj:i=j
  ·subst hj
   rw [jx rfl,qj,h,jx (by rw [qv];exact (qx.1 h).1)];rfl
  ·rw [jz hj]
 rw [QG,QG,this]
theorem wv_last (ws:List WvM)(b:Nat):sub (flat wvV ws++[.pointer (some ⟨b,0,none⟩)]) (ws.length*1) 1=some [.pointer (some ⟨b,0,none⟩)]:=by
 have:=sub_flat0 (f:=wvV) (k:=1) (l:=ws++[⟨b,0,[],[]⟩]) (i:=ws.length) (x:=⟨b,0,[],[]⟩) (vs:=[.pointer (some ⟨b,0,none⟩)]) (s:=1) (fun _=>rfl) (by simp) rfl
 rw [flat_append] at this
 exact this
theorem tg_snoc (ways:List WayM)(y:WayM)(R:HP):(ways++[y]).map tgE++R=ways.map tgE++(tgE y::R):=by simp
theorem wv_mem {E:SrcE}{ws:List WvM}{i:Nat}{x:WvM}(h:ws[i]? =some x):Ent.row x.b 164 [.map (some x.bm),.int .i64 (mostM (x.ks.map E.T):Int),.int .i64 (reachM E.W E.home E.tg x.ks:Int)]∈ws.flatMap (wvE E):=
 QY.2 ⟨x,qz h,qg⟩
theorem MpOk.waysOk {X:PlnX}{cores:List Int}{v:MpS}(hA:AsgOk X.N X.C cores)(hns:nSrc X.N<=256)(h:MpOk X cores (nSrc X.N) v):WaysOk X.C.mesh (srcTree X.N X.C cores) v.ways where
 few:=by
  have h1:=congrArg List.length h.ways
  rw [qv] at h1
  have:=keysK_len X.N (nSrc X.N)
  omega
 asc:=by rw [h.ways];exact keysK_asc _ _
 key:=fun x hx=>by
  have h1:x.key∈keysK X.N (nSrc X.N):=by rw [<-h.ways];exact qN hx
  have:=keysK_mem h1
  omega
 tree:=fun x hx=>by
  have h1:x.key∈keysK X.N (nSrc X.N):=by rw [<-h.ways];exact qN hx
  have h2:=keysK_mem h1
  obtain ⟨e1,e2,_⟩:=h.way x hx
  rw [e1,e2]
  refine tree_known hA h2.1 ?_
  unfold keysK at h1
  rw [qP] at h1
  exact tgt_some.1 (of_decide_eq_true h1.2)
 home:=fun x hx=>by
  have h1:x.key∈keysK X.N (nSrc X.N):=by rw [<-h.ways];exact qN hx
  have h2:=keysK_mem h1
  have h3:=mhome_range hA h2.1
  have h4:=area_ok hA.plan.chip.mesh
  rw [(h.way x hx).1]
  unfold I64;omega
 tgs:=fun x hx=>by
  have h1:x.key∈keysK X.N (nSrc X.N):=by rw [<-h.ways];exact qN hx
  have h2:=keysK_mem h1
  rw [(h.way x hx).2.1]
  refine ⟨fun t ht=>(core_dist hA h2.1 ht).1,?_⟩
  have:=cores_len (N:=X.N) hA.plan.chip cores x.key
  omega
 len:=fun x hx=>tree_length ..
 ok:=fun k=>Gm.tree_ok _ _ _ _
theorem ways_sl {w0 w:World}{M:List Nat}{H:HP}(hs:St w0 M H w){ways:List WayM}(hp:∀x∈ways,∃g,x.p=some ⟨g,0,none⟩)(hm:∀x∈ways,tgE x∈H):∀x∈ways,∃b o,Sl w intV 1 x.tg x.p x.tg.length b o:=fun x hx=>by
 obtain ⟨g,hg⟩:=hp x hx
 have h1:=hm x hx
 unfold tgE at h1
 rw [hg] at h1 ⊢
 exact ⟨g,0,Sl.own' hs h1 (fun _=>rfl) rfl⟩
theorem mapErr_bad {N:Net}{C:Chp}{cores:List Int}(h:asgE N C cores=0){i:Nat}(hi:i<nCores C)(hb:¬((tabF (srcTree N C cores) (keysM N) C.en i).length:Int)<=C.en):mapErr N C cores=15:=by
 unfold mapErr
 rw [jz (by rw [h];simp),jx]
 exact ⟨_,qN (qL.2 hi),hb⟩
theorem mapErr_ok {N:Net}{C:Chp}{cores:List Int}(h:asgE N C cores=0)(hall:∀i,i<nCores C->((tabF (srcTree N C cores) (keysM N) C.en i).length:Int)<=C.en):mapErr N C cores=0:=by
 unfold mapErr
 rw [jz (by rw [h];simp),jz]
 rintro ⟨t,ht,hb⟩
 obtain ⟨i,hi,rfl⟩:=qo.1 ht
 exact hb (hall i (qL.1 hi))
def tabK (T:Int->List Int)(keys:List Int)(en:Int)(n i:Nat):List (List Ety):=(List.range n).map fun j=>if j<i then tabF T keys en j else tableM T keys j
theorem tabK_zero (T:Int->List Int)(keys:List Int)(en:Int)(n:Nat):tabK T keys en n 0=(List.range n).map (tableM T keys):=by
 unfold tabK
 simp
theorem tabK_all (T:Int->List Int)(keys:List Int)(en:Int)(n:Nat):tabK T keys en n n=(List.range n).map (tabF T keys en):=by
 unfold tabK
 refine List.map_congr_left fun j hj=>?_
 rw [jx (qL.1 hj)]
theorem tabK_next (T:Int->List Int)(keys:List Int)(en:Int){n i:Nat}(hi:i<n):tabK T keys en n (i+1)=(tabK T keys en n i).set i (tabF T keys en i):=by
 unfold tabK
 rw [range_set (f:=fun j=>if j<i then tabF T keys en j else tableM T keys j) (g:=fun j=>if j<i+1 then tabF T keys en j else tableM T keys j) hi (fun j hj=>by
  by_cases h:j<i
  ·rw [jx h,jx qZ]
  ·rw [jz h,jz qZ])]
 rw [jx (Nat.lt_succ_self i)]
theorem tabK_get {T:Int->List Int}{keys:List Int}{en:Int}{n i:Nat}(hi:i<n):(tabK T keys en n i)[i]? =some (tableM T keys i):=by
 unfold tabK
 rw [qj,qX hi]
 simp
theorem take_seg {α:Type}{H:HP}{Z:HP->HP}{f:α->Ent}{l:List α}{i:Nat}{x:α}(h:AtS H (l.map f) Z)(hx:l[i]? =some x):HLe (f x::((l.eraseIdx i).map f++Z [])) H:=by
 refine HLe.ofPerm (h.perm.trans ?_)
 exact List.Perm.append_right (Z []) (wget_perm f hx)
theorem _root_.Go.Vx.At.ofMem {H:HP}{x:Ent}(h:x∈H):∃u r,At H x u r:=by
 induction H with
 |nil=>cases h
 |cons y H ih=>
  rcases qQ.1 h with rfl|h
  ·exact ⟨_,_,.here⟩
  ·obtain ⟨u,r,hat⟩:=ih h
   exact ⟨_,_,.there hat⟩
theorem _root_.Go.Vx.Rd.mRow {w0:World}{M:List Nat}{H:HP}{b e off s:Nat}{cs vs:List Value}(h:Ent.row b e cs∈H)(hs:sub cs off s=some vs):Rd w0 M H b off s vs:=by
 obtain ⟨u,r,hat⟩:=At.ofMem h
 exact .row hat hs
theorem _root_.Go.Vx.Rd.mVec {w0:World}{M:List Nat}{H:HP}{b n cap e size off s:Nat}{xs vs:List Value}(h:Ent.vec (some ⟨b,0,none⟩) n cap e size xs∈H)(hs:sub xs off s=some vs):Rd w0 M H b off s vs:=by
 obtain ⟨u,r,hat⟩:=At.ofMem h
 exact .vec hat hs
theorem _root_.Go.Vx.VLd.atB (b:Nat){w0:World}{M:List Nat}{H:HP}{off s:Nat}{k:List Value->Prop}(hh:VLd w0 M H b off s k):VLd w0 M H b off s k:=hh
theorem tabK_skip {T:Int->List Int}{keys:List Int}{en:Int}{n i:Nat}(hi:i<n)(h:((tableM T keys i).length:Int)<=en):tabK T keys en n (i+1)=tabK T keys en n i/\tabF T keys en i=tableM T keys i:=by
 have e:tabF T keys en i=tableM T keys i:=by unfold tabF;rw [jx h]
 refine ⟨?_,e⟩
 rw [tabK_next T keys en hi,e]
 apply qp
 intro j
 rw [qO]
 by_cases hj:i=j
 ·subst hj
  rw [jx rfl,tabK_get hi,jx]
  unfold tabK
  simpa using hi
 ·rw [jz hj]
end Go.Proofs
