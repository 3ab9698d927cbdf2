import Derived.Test.YtlbekjokdlkghaaGreatChipMovesPz
import Derived.Test.YtlbekjokdlkghaaGreatChipMovesMz
import Derived.Test.YtlbekjokdlkghaaGreatChipMovesMj
set_option linter.unusedVariables false
set_option linter.unusedSimpArgs false
set_option maxHeartbeats 4000000
namespace Go.Gm
structure RRow where
 p:Option Addr
 c:Nat
 l:List RowE
def RRow.ok (r:RRow):Prop:=0<r.l.length->∃g,r.p=some ⟨g,0,none⟩
def fR6 (N:Net)(cores:List Int)(l:List (Syn×Int))(n:Nat):List (List RowE):=(List.range n).map fun (k:Nat)=>bM1 N cores l (k:Int)
theorem gM1 (N:Net)(cores:List Int)(l:List (Syn×Int)){x:Syn×Int}{n k:Nat}(hk:k<n)(h:cores[x.1.to.toNat]? =some (k:Int)):fR6 N cores (l++[x]) n=(fR6 N cores l n).set k (bM1 N cores l (k:Int)++[cM1 N cores x.1 x.2]):=by
 unfold fR6
 rw [bS9 (f:=fun (k:Nat)=>bM1 N cores l (k:Int)) (g:=fun (k:Nat)=>bM1 N cores (l++[x]) (k:Int)) hk (fun i hi=>by
  show bM1 N cores (l++[x]) (i:Int)=bM1 N cores l (i:Int)
  rw [dC1,h,jk (by simp;omega),qC])]
 congr 1
 rw [dC1,jw h]
end Go.Gm
namespace Go.Proofs
open Go Go.Vx Go.Gm
def rwV (x:RowE):List Value:=[.int .i64 x.key,.int .i64 x.slot,.int .i64 x.wt,.int .i64 x.dl]
def rrV (r:RRow):List Value:=[.slice r.p r.l.length r.c]
def rrE (r:RRow):Ent:=.vec r.p r.l.length r.c 158 4 (bQ1 rwV r.l)
structure MapP where
 pc:Option Addr
 cc:Nat
 ps:Option Addr
 cs:Nat
 y:QP
 pr:Option Addr
 cr:Nat
 rr:List RRow
 pt:Option Addr
 ct:Nat
 tt:List ERow
 pw:Option Addr
 cw:Nat
def kR8 (z:MapP)(R:MapM):List Value:=[.slice z.pc R.cores.length z.cc,.slice z.ps R.slots.length z.cs]++cF6 z.y R.quant++[.slice z.pr z.rr.length z.cr,.slice z.pt z.tt.length z.ct,.slice z.pw R.waves.length z.cw,.int .i64 R.cost,.int .i64 R.load,.int .i64 R.steps]
def lV9 (z:MapP)(R:MapM):HP:=.vec z.pc R.cores.length z.cc 3 1 (bQ1 bQ6 R.cores)::.vec z.ps R.slots.length z.cs 3 1 (bQ1 bQ6 R.slots)::.vec z.pr z.rr.length z.cr 155 1 (bQ1 rrV z.rr)::.vec z.pt z.tt.length z.ct 178 1 (bQ1 erV z.tt)::.vec z.pw R.waves.length z.cw 3 1 (bQ1 bQ6 R.waves)::(cM4 z.y R.quant++(z.rr.map rrE++z.tt.map erE))
structure MapIs (z:MapP) (R:MapM):Prop where
 rows:z.rr.map (·.l)=R.rows
 tables:z.tt.map (·.l)=R.tables
 okR:∀r∈z.rr,r.ok
 okT:∀r∈z.tt,r.ok
def gN9:MapP:=⟨none,0,none,0,lK0,none,0,[],none,0,[],none,0⟩
theorem gY7:MapIs gN9 dF4:=⟨rfl,rfl,by simp [gN9],by simp [gN9]⟩
theorem _root_.Go.Proofs.CntIs.lk {m:List (Int×Value)}{f:Int->Nat}(h:CntIs m f)(j:Int){z:Value}(hz:z=.int .i64 0){k:Value->Prop}(hk:k (.int .i64 (f j:Int))):VLk m j fun r=>fX9 false z r k:=by
 rcases h.look j with ⟨h1,h2⟩|⟨h1,h2⟩
 ·refine .lacks h1 ?_
  show k z
  rw [hz]
  rw [h2] at hk
  exact hk
 ·exact .has h1 hk
theorem fG9 (X:PlnX)(w:World)(hX:PlnRd X w)(cores:List Int)(hcw:∀k∈cores,I64 k)(hlc:cores.length<=1000000)(p:Option Addr)(c b o:Nat)(h1:Sl w bQ6 1 cores p cores.length b o)(hbad:gS1 X.N X.C cores≠0):
  Calls Tryz.prog 20 #[.agg X.net.toArray,.agg (bD5 X.C X.pd X.cd).toArray,.slice p cores.length c] w fun e w'=>e=.returned (.tuple #[.agg (kR8 gN9 dF4).toArray,.int .i64 (gS1 X.N X.C cores)])/\St w [] [] w':=by
 have hasg:=gB7 X.N X.C cores
 have hb:=fun he (w':World) h=>fS2 X w' h he (.slice p cores.length c) rfl
 have hg:=fun he (w':World) h h1=>dG1 X w' h he cores hcw hlc p c b o h1
 by_cases he:Gm.planE X.N X.C≠0
 ·have hb:=hb he
  rw [jw he] at hasg
  rw [hasg]
  unfold PlnX.net bD5 at hb ⊢
  refine enter (C:=Tryz.cx) (F:=lC3) (args:=[_,_,_]) Tryz.func20 rfl rfl rfl lR7 (St.start w []) ?_
  obtain ⟨E,hE⟩:=gX (Gm.planE X.N X.C)
  rw [hE] at hb he ⊢
  repeat' (conv=>whnf);first|(refine VNew.mk fun b3=>?_)|(refine bQ0 55 ?_;(refine bQ4 (fun w' hw'=>hb w' (hX.keep hw')) ?_))|refine VSeq.go ?_|refine oY fun _=>?_|refine oL ?_|refine oT ?_
  all_goals (conv=>whnf)
  all_goals first
   |exact ⟨fun w' hw'=>⟨rfl,hw'.le .nil⟩⟩
   |(exfalso;omega)
 have hp0:=Qm.1 he
 have hg:=hg hp0
 rw [jk he] at hasg
 have hc:lZ5 X.N X.C cores≠0:=by rw [<-hasg];exact hbad
 rw [hasg]
 obtain ⟨E,hE⟩:=gX (lZ5 X.N X.C cores)
 rw [hE] at hg hc ⊢
 unfold PlnX.net bD5 at hg ⊢
 refine enter (C:=Tryz.cx) (F:=lC3) (args:=[_,_,_]) Tryz.func20 rfl rfl rfl lR7 (St.start w []) ?_
 repeat' (conv=>whnf);first|(refine VNew.mk fun b3=>?_)|(refine bQ0 55 ?_;(refine bQ2 (fun w' hw'=>hg w' (hX.keep hw') (h1.keep hw' oU)) ?_;rintro x hup))|refine VSeq.go ?_|refine oY fun _=>?_|refine oL ?_|refine oT ?_
 all_goals (conv=>whnf)
 all_goals first
  |exact ⟨fun w' hw'=>⟨rfl,hw'.le .nil⟩⟩
  |(exfalso;omega)
theorem _root_.Go.Vx.gJ9 {α:Type}{f:α->List Value}{k:Nat}{l:List α}{w0 w:World}{M:List Nat}{H r:HP}{u:Ent->HP}{g n cap e:Nat}(hs:St w0 M H w)(hat:At H (.vec (some ⟨g,0,none⟩) n cap e k (bQ1 f l)) u r)(hk:∀x,(f x).length=k)(hl:l.length=n):
  Sl w f k l (some ⟨g,0,none⟩) n g 0:=bZ1 hs hat.mem hk hl
theorem kT0 (a b v:Ent)(R:HP):(a::b::v::R).Perm (v::a::b::R):=((List.Perm.swap v b R).cons a).trans (.swap v a (b::R))
theorem kN4 {s:Syn}{t:Nat}(ht:s.to=(t:Int)):sub (bP1 s) 0 4=some [.int .i64 s.frm,.int .i64 (t:Int),.int .i64 s.wt,.int .i64 s.dl]:=by
 have:bP1 s=[.int .i64 s.frm,.int .i64 (t:Int),.int .i64 s.wt,.int .i64 s.dl]:=by rw [<-ht];rfl
 rw [this];rfl
theorem kC0 (r:RRow)(p:Option Addr)(c:Nat)(x:RowE):upd (rrV r) 0 [.slice p (r.l.length+1) c]=some (rrV ⟨p,c,r.l++[x]⟩):=by
 unfold rrV
 rw [qw]
 rfl
theorem kQ7 (p:Option Addr)(c:Nat)(l:List RowE)(x:RowE):rrE ⟨p,c,l++[x]⟩=.vec p (l.length+1) c 158 4 (bQ1 rwV l++[.int .i64 x.key,.int .i64 x.slot,.int .i64 x.wt,.int .i64 x.dl]):=by
 unfold rrE
 rw [qw,bQ7]
 rfl
theorem cH8 {α:Type}{A:HP}{Z:HP->HP}{f:α->Ent}{l:List α}{i:Nat}{y:α}(h:AtS A ((l.set i y).map f) Z)(hi:i<l.length):A.Perm (f y::((l.eraseIdx i).map f++Z [])):=by
 refine h.perm.trans ?_
 exact List.Perm.append_right (Z []) (cD0 f hi y)
def mpE (X:PlnX)(cores:List Int):SrcE:=⟨bQ5 X.N X.C cores,X.C.mesh.wide,bJ2 X.N cores,bX7 X.N X.C cores⟩
def tgE (w:WayM):Ent:=.vec w.p w.tg.length w.c 3 1 (bQ1 bQ6 w.tg)
structure MpS where
 ws:List WvM
 am:List (Value×Value)
 aks:List Int
 ways:List WayM
 wp:Option Addr
 wc:Nat
 pw:Option Addr
 cw:Nat
 wv:List Int
 n:Nat
structure MpOk (X:PlnX) (cores:List Int) (k:Nat) (v:MpS):Prop where
 ws:v.ws.map (·.ks)=bT6 (bQ5 X.N X.C cores) X.C.mesh.room (bK3 X.N k)
 wok:∀x∈v.ws,hC2 (mpE X cores) x/\x.ks.length<=k
 wl:v.ws.length<=k
 pw:0<v.ws.length->∃g,v.pw=some ⟨g,0,none⟩
 aks:v.aks=bK3 X.N k
 aok:CntOf v.am (bS5 (v.aks.map (bQ5 X.N X.C cores)))
 ways:v.ways.map (·.key)=bK3 X.N k
 way:∀w∈v.ways,w.home=bJ2 X.N cores w.key/\w.tg=bX7 X.N X.C cores w.key/\∃g,w.p=some ⟨g,0,none⟩
 wv:v.wv=(List.range (bV2 X.N)).map fun (j:Nat)=>bW0 (bT6 (bQ5 X.N X.C cores) X.C.mesh.room (bK3 X.N k)) (j:Int)
 n:v.n=gZ0 X.N X.C cores k
theorem bC4 {N:Net}{C:Chp}{cores:List Int}(h:AsgOk N C cores){key:Int}(hk:0<=key):0<=bJ2 N cores key/\bJ2 N cores key<C.mesh.wide*C.mesh.high:=by
 have hn:=bX6 h.plan.chip
 unfold bJ2
 split
 ·rename_i hlt
  have hl:key.toNat<cores.length:=by rw [h.len];omega
  rw [qq hl,qY]
  exact (h.core _ (Qu hl)).1
 ·omega
theorem cG4 {N:Net}{C:Chp}{cores:List Int}(h:AsgOk N C cores){key t:Int}(ht:t∈bX7 N C cores key):0<=t/\t<C.mesh.wide*C.mesh.high:=by
 have hn:=bX6 h.plan.chip
 unfold bX7 at ht
 rw [qP,qo] at ht
 obtain ⟨⟨a,ha,rfl⟩,_⟩:=ht
 rw [qL] at ha
 omega
theorem dB2 {N:Net}{C:Chp}{cores:List Int}(h:AsgOk N C cores){key t:Int}(hk:0<=key)(ht:t∈bX7 N C cores key):I64 t/\gX8 C.mesh (bJ2 N cores key) t=((bG0 C.mesh.wide (bJ2 N cores key) t:Int),0)/\bG0 C.mesh.wide (bJ2 N cores key) t<=1000:=by
 have h1:=bC4 h hk
 have h2:=cG4 h ht
 have ha:=cZ7 h.plan.chip.mesh
 have hw:=h.plan.chip.mesh.wide
 have hh:=h.plan.chip.mesh.high
 have hz:bR0 C.mesh [bJ2 N cores key,t]=0:=bC6.2 ⟨h.plan.chip.mesh,fun x hx=>by
  rcases qQ.1 hx with rfl|hx
  ·exact h1
  ·rw [qt] at hx;subst hx;exact h2⟩
 have hd:=hD6 qZ h1 h2
 refine ⟨by unfold I64;omega,?_,by omega⟩
 unfold gX8
 rw [hz,jk oU]
theorem fP9 {N:Net}{C:Chp}(h:ChpOk C)(cores:List Int)(key:Int):(bX7 N C cores key).length<=64:=by
 have h1:=qD (fun q=>decide (∃s∈N.syns,bG1 N s.frm=key/\cores[s.to.toNat]? =some q)) ((List.range (bX1 C)).map fun (k:Nat)=>(k:Int))
 rw [qv,Qg] at h1
 have:=bX6 h
 unfold bX7
 omega
theorem reach_le {X:PlnX}{cores:List Int}(h:AsgOk X.N X.C cores){ks:List Int}(hk:∀k∈ks,0<=k):bW9 (mpE X cores).W (mpE X cores).home (mpE X cores).tg ks<=1000:=by
 unfold bW9
 refine dR2 _ _ _ (qB _) fun x hx=>?_
 rw [QG] at hx
 obtain ⟨key,hkey,hx⟩:=hx
 obtain ⟨t,ht,rfl⟩:=qo.1 hx
 exact (dB2 h (hk key hkey) ht).2.2
theorem k11 (X:PlnX)(x:PlnM):sub (fS0 X x) 11 1=some [.slice (some ⟨x.gt,0,none⟩) x.T.length x.T.length]:=rfl
theorem _root_.Go.Vx.kM0 {w0:World}{M:List Nat}{H:HP}{Z:HP->HP}{X:PlnX}{x:PlnM}{off s:Nat}{vs:List Value}(h:AtS H (fQ3 X x) Z)(hs:sub (fS0 X x) off s=some vs):Rd w0 M H x.b off s vs:=by
 obtain ⟨u,r,_,hat,_⟩:=h.uncons rfl
 exact .row hat hs
theorem hT4 (X:PlnX)(cores:List Int){n:Nat}(hn:n=bV2 X.N):MpOk X cores 0 ⟨[],[],[],[],none,0,none,0,List.replicate n (-1),0⟩ where
 ws:=rfl
 wok:=fun x hx=>by cases hx
 wl:=qA _
 pw:=fun h=>by cases h
 aks:=rfl
 aok:=CntOf.nil
 ways:=rfl
 way:=fun x hx=>by cases hx
 wv:=by
  subst hn
  show _=(List.range (bV2 X.N)).map fun (j:Nat)=>(-1:Int)
  rw [cB6]
 n:=rfl
theorem MpOk.skip {X:PlnX}{cores:List Int}{k:Nat}{v:MpS}(h:MpOk X cores k v)(he:cK1 X.N X.N.syns (k:Int)=[]):MpOk X cores (k+1) v:=by
 have e1:bK3 X.N (k+1)=bK3 X.N k:=by rw [dT7,jk (fun h=>h he),qC]
 have e2:gZ0 X.N X.C cores (k+1)=gZ0 X.N X.C cores k:=by rw [cG3,jk (fun h=>h he)];rfl
 exact ⟨by rw [e1];exact h.ws,fun x hx=>⟨(h.wok x hx).1,by have:=(h.wok x hx).2;omega⟩,by have:=h.wl;omega,h.pw,by rw [e1];exact h.aks,h.aok,by rw [e1];exact h.ways,h.way,by rw [e1];exact h.wv,by rw [e2];exact h.n⟩
theorem MpOk.waves {X:PlnX}{cores:List Int}{k:Nat}{v:MpS}(h:MpOk X cores k v)(hk:k<bV2 X.N)(hne:cK1 X.N X.N.syns (k:Int)≠[]){i:Nat}(hi:bH7 (bQ5 X.N X.C cores) X.C.mesh.room (v.ws.map (·.ks)) (k:Int)=i):
  bK3 X.N (k+1)=bK3 X.N k++[(k:Int)]/\
  v.wv.set k (i:Int)=((List.range (bV2 X.N)).map fun (j:Nat)=>bW0 (bT6 (bQ5 X.N X.C cores) X.C.mesh.room (bK3 X.N (k+1))) (j:Int))/\
  bT6 (bQ5 X.N X.C cores) X.C.mesh.room (bK3 X.N (k+1))=if i<v.ws.length then (v.ws.map (·.ks)).set i (((v.ws.map (·.ks))[i]?.getD [])++[(k:Int)]) else v.ws.map (·.ks)++[[(k:Int)]]:=by
 have e1:bK3 X.N (k+1)=bK3 X.N k++[(k:Int)]:=by rw [dT7,jw hne]
 have e2:bT6 (bQ5 X.N X.C cores) X.C.mesh.room (bK3 X.N (k+1))=bB8 (bQ5 X.N X.C cores) X.C.mesh.room (v.ws.map (·.ks)) (k:Int):=by rw [e1,dK9,h.ws]
 have hn:∀w∈v.ws.map (·.ks),(k:Int)∉w:=fun w hw hm=>by
  rw [h.ws] at hw
  have:=bP6 ((cG0 (bK3 X.N k)).1 ⟨w,hw,hm⟩)
  omega
 refine ⟨e1,?_,?_⟩
 ·rw [e2,h.wv]
  have hfe:=bS9 (f:=fun (j:Nat)=>bW0 (bT6 (bQ5 X.N X.C cores) X.C.mesh.room (bK3 X.N k)) (j:Int)) (g:=fun (j:Nat)=>bW0 (bB8 (bQ5 X.N X.C cores) X.C.mesh.room (v.ws.map (·.ks)) (k:Int)) (j:Int)) hk (fun j hj=>by
   rw [dN3 hn,jk qZ,h.ws])
  rw [hfe,dN3 hn,jw rfl,hi]
 ·rw [e2,cY4,hi,qv]
theorem MpOk.next_at {X:PlnX}{cores:List Int}{k:Nat}{v:MpS}(h:MpOk X cores k v)(hk:k<bV2 X.N)(hne:cK1 X.N X.N.syns (k:Int)≠[]){i:Nat}{x:WvM}(hi:bH7 (bQ5 X.N X.C cores) X.C.mesh.room (v.ws.map (·.ks)) (k:Int)=i)(hx:v.ws[i]? =some x)
  {m1 m2:List (Value×Value)} {a1:Nat×Nat} (h1:hC2 (mpE X cores) ⟨a1.1,a1.2,m1,v.aks++[(k:Int)]⟩) (h2:hC2 (mpE X cores) ⟨x.b,x.bm,m2,x.ks++[(k:Int)]⟩) (wp:Option Addr) (wc g c:Nat):
  MpOk X cores (k+1) ⟨v.ws.set i ⟨x.b,x.bm,m2,x.ks++[(k:Int)]⟩,m1,v.aks++[(k:Int)],v.ways++[⟨(k:Int),bJ2 X.N cores (k:Int),bX7 X.N X.C cores (k:Int),some ⟨g,0,none⟩,c⟩],wp,wc,v.pw,v.cw,v.wv.set k (i:Int),v.n+bK7 (bQ5 X.N X.C cores (k:Int))⟩:=by
 obtain ⟨e1,e2,e3⟩:=h.waves hk hne hi
 have hil:=(qx.1 hx).1
 refine ⟨?_,fun y hy=>?_,?_,fun hl=>h.pw (by simpa using hl),?_,h1,?_,?_,e2,?_⟩
 ·rw [e3,jw hil,List.map_set,qj,hx];rfl
 ·rcases Qq hy with hy|rfl
  ·exact ⟨(h.wok y hy).1,by have:=(h.wok y hy).2;omega⟩
  ·refine ⟨h2,?_⟩
   have:=(h.wok x (qz hx)).2
   rw [qw,qM];omega
 ·have:=h.wl
  rw [QH];omega
 ·rw [e1,h.aks]
 ·rw [e1,ql,h.ways];rfl
 ·intro y hy
  rcases qH.1 hy with hy|hy
  ·exact h.way y hy
  ·rw [qt] at hy;subst hy
   exact ⟨rfl,rfl,g,rfl⟩
 ·rw [cG3,jw hne,<-h.n]
theorem MpOk.next_new {X:PlnX}{cores:List Int}{k:Nat}{v:MpS}(h:MpOk X cores k v)(hk:k<bV2 X.N)(hne:cK1 X.N X.N.syns (k:Int)≠[])(hi:bH7 (bQ5 X.N X.C cores) X.C.mesh.room (v.ws.map (·.ks)) (k:Int)=v.ws.length)
  {m1 m2:List (Value×Value)} {a1:Nat×Nat} {b bm:Nat} (h1:hC2 (mpE X cores) ⟨a1.1,a1.2,m1,v.aks++[(k:Int)]⟩) (h2:hC2 (mpE X cores) ⟨b,bm,m2,[(k:Int)]⟩) (wp:Option Addr) (wc g c:Nat) {pw:Option Addr} (hpw:∃g,pw=some ⟨g,0,none⟩) (cw:Nat):
  MpOk X cores (k+1) ⟨v.ws++[⟨b,bm,m2,[(k:Int)]⟩],m1,v.aks++[(k:Int)],v.ways++[⟨(k:Int),bJ2 X.N cores (k:Int),bX7 X.N X.C cores (k:Int),some ⟨g,0,none⟩,c⟩],wp,wc,pw,cw,v.wv.set k (v.ws.length:Int),v.n+bK7 (bQ5 X.N X.C cores (k:Int))⟩:=by
 obtain ⟨e1,e2,e3⟩:=h.waves hk hne hi
 refine ⟨?_,fun y hy=>?_,?_,fun _=>hpw,?_,h1,?_,?_,e2,?_⟩
 ·rw [e3,jk (Nat.lt_irrefl _),ql];rfl
 ·rcases qH.1 hy with hy|hy
  ·exact ⟨(h.wok y hy).1,by have:=(h.wok y hy).2;omega⟩
  ·rw [qt] at hy;subst hy
   exact ⟨h2,by simp⟩
 ·have:=h.wl
  rw [qw,qM];omega
 ·rw [e1,h.aks]
 ·rw [e1,ql,h.ways];rfl
 ·intro y hy
  rcases qH.1 hy with hy|hy
  ·exact h.way y hy
  ·rw [qt] at hy;subst hy
   exact ⟨rfl,rfl,g,rfl⟩
 ·rw [cG3,jw hne,<-h.n]
theorem lZ7 {ws:List WvM}{i:Nat}{x:WvM}(h:ws[i]? =some x)(m:List (Value×Value))(ks:List Int):bQ1 wvV (ws.set i ⟨x.b,x.bm,m,ks⟩)=bQ1 wvV ws:=by
 unfold bQ1
 have:(ws.set i ⟨x.b,x.bm,m,ks⟩).map wvV=ws.map wvV:=by
  rw [List.map_set]
  apply qp
  intro j
  rw [qO]
  by_cases hj:i=j
  ·subst hj
   rw [jw rfl,qj,h,jw (by rw [qv];exact (qx.1 h).1)];rfl
  ·rw [jk hj]
 rw [QF,QF,this]
theorem kM2 (ws:List WvM)(b:Nat):sub (bQ1 wvV ws++[.pointer (some ⟨b,0,none⟩)]) (ws.length*1) 1=some [.pointer (some ⟨b,0,none⟩)]:=by
 have:=bQ8 (f:=wvV) (k:=1) (l:=ws++[⟨b,0,[],[]⟩]) (i:=ws.length) (x:=⟨b,0,[],[]⟩) (vs:=[.pointer (some ⟨b,0,none⟩)]) (s:=1) oR oU rfl
 rw [bQ7] at this
 exact this
theorem hX0 (ways:List WayM)(y:WayM)(R:HP):(ways++[y]).map tgE++R=ways.map tgE++(tgE y::R):=by simp
theorem lJ0 {E:SrcE}{ws:List WvM}{i:Nat}{x:WvM}(h:ws[i]? =some x):Ent.row x.b 164 [.map (some x.bm),.int .i64 (bJ7 (x.ks.map E.T):Int),.int .i64 (bW9 E.W E.home E.tg x.ks:Int)]∈ws.flatMap (wvE E):=
 QG.2 ⟨x,qz h,qg⟩
theorem MpOk.waysOk {X:PlnX}{cores:List Int}{v:MpS}(hA:AsgOk X.N X.C cores)(hns:bV2 X.N<=256)(h:MpOk X cores (bV2 X.N) v):WaysOk X.C.mesh (bQ5 X.N X.C cores) v.ways where
 few:=by
  have h1:=congrArg List.length h.ways
  rw [qv] at h1
  have:=bL4 X.N (bV2 X.N)
  omega
 asc:=by rw [h.ways];exact hH2 _ _
 key:=fun x hx=>by
  have h1:x.key∈bK3 X.N (bV2 X.N):=by rw [<-h.ways];exact qN hx
  have:=bP6 h1
  omega
 tree:=fun x hx=>by
  have h1:x.key∈bK3 X.N (bV2 X.N):=by rw [<-h.ways];exact qN hx
  have h2:=bP6 h1
  obtain ⟨e1,e2,_⟩:=h.way x hx
  rw [e1,e2]
  refine dN4 hA h2.1 ?_
  unfold bK3 at h1
  rw [qP] at h1
  exact cD2.1 (of_decide_eq_true h1.2)
 home:=fun x hx=>by
  have h1:x.key∈bK3 X.N (bV2 X.N):=by rw [<-h.ways];exact qN hx
  have h2:=bP6 h1
  have h3:=bC4 hA h2.1
  have h4:=cZ7 hA.plan.chip.mesh
  rw [(h.way x hx).1]
  unfold I64;omega
 tgs:=fun x hx=>by
  have h1:x.key∈bK3 X.N (bV2 X.N):=by rw [<-h.ways];exact qN hx
  have h2:=bP6 h1
  rw [(h.way x hx).2.1]
  refine ⟨fun t ht=>(dB2 hA h2.1 ht).1,?_⟩
  have:=fP9 (N:=X.N) hA.plan.chip cores x.key
  omega
 len:=fun x hx=>bW2 ..
 ok:=fun k=>Gm.tree_ok _ _ _ _
theorem kM6 {w0 w:World}{M:List Nat}{H:HP}(hs:St w0 M H w){ways:List WayM}(hp:∀x∈ways,∃g,x.p=some ⟨g,0,none⟩)(hm:∀x∈ways,tgE x∈H):∀x∈ways,∃b o,Sl w bQ6 1 x.tg x.p x.tg.length b o:=fun x hx=>by
 obtain ⟨g,hg⟩:=hp x hx
 have h1:=hm x hx
 unfold tgE at h1
 rw [hg] at h1 ⊢
 exact ⟨g,0,bZ1 hs h1 oR rfl⟩
theorem gC0 {N:Net}{C:Chp}{cores:List Int}(h:gS1 N C cores=0){i:Nat}(hi:i<bX1 C)(hb:¬((fV0 (bQ5 N C cores) (bX0 N) C.en i).length:Int)<=C.en):bV5 N C cores=15:=by
 unfold bV5
 rw [jk (by rw [h];simp),jw]
 exact ⟨_,qN (qL.2 hi),hb⟩
theorem hG5 {N:Net}{C:Chp}{cores:List Int}(h:gS1 N C cores=0)(hall:∀i,i<bX1 C->((fV0 (bQ5 N C cores) (bX0 N) C.en i).length:Int)<=C.en):bV5 N C cores=0:=by
 unfold bV5
 rw [jk (by rw [h];simp),jk]
 rintro ⟨t,ht,hb⟩
 obtain ⟨i,hi,rfl⟩:=qo.1 ht
 exact hb (hall i (qL.1 hi))
def tabK (T:Int->List Int)(keys:List Int)(en:Int)(n i:Nat):List (List Ety):=(List.range n).map fun j=>if j<i then fV0 T keys en j else bW3 T keys j
theorem hX6 (T:Int->List Int)(keys:List Int)(en:Int)(n:Nat):tabK T keys en n 0=(List.range n).map (bW3 T keys):=by
 unfold tabK
 simp
theorem hL5 (T:Int->List Int)(keys:List Int)(en:Int)(n:Nat):tabK T keys en n n=(List.range n).map (fV0 T keys en):=by
 unfold tabK
 refine List.map_congr_left fun j hj=>?_
 rw [jw (qL.1 hj)]
theorem tabK_next (T:Int->List Int)(keys:List Int)(en:Int){n i:Nat}(hi:i<n):tabK T keys en n (i+1)=(tabK T keys en n i).set i (fV0 T keys en i):=by
 unfold tabK
 rw [bS9 (f:=fun j=>if j<i then fV0 T keys en j else bW3 T keys j) (g:=fun j=>if j<i+1 then fV0 T keys en j else bW3 T keys j) hi (fun j hj=>by
  by_cases h:j<i
  ·rw [jw h,jw qZ]
  ·rw [jk h,jk qZ])]
 rw [jw (Nat.lt_succ_self i)]
theorem gV2 {T:Int->List Int}{keys:List Int}{en:Int}{n i:Nat}(hi:i<n):(tabK T keys en n i)[i]? =some (bW3 T keys i):=by
 unfold tabK
 rw [qj,qX hi]
 simp
theorem dL4 {α:Type}{H:HP}{Z:HP->HP}{f:α->Ent}{l:List α}{i:Nat}{x:α}(h:AtS H (l.map f) Z)(hx:l[i]? =some x):HLe (f x::((l.eraseIdx i).map f++Z [])) H:=by
 refine cF2 (h.perm.trans ?_)
 exact List.Perm.append_right (Z []) (fV9 f hx)
theorem _root_.Go.Vx.fK8 {H:HP}{x:Ent}(h:x∈H):∃u r,At H x u r:=by
 induction H with
 |nil=>cases h
 |cons y H ih=>
  rcases qQ.1 h with rfl|h
  ·exact ⟨_,_,.here⟩
  ·obtain ⟨u,r,hat⟩:=ih h
   exact ⟨_,_,.there hat⟩
theorem _root_.Go.Vx.bS4 {w0:World}{M:List Nat}{H:HP}{b e off s:Nat}{cs vs:List Value}(h:Ent.row b e cs∈H)(hs:sub cs off s=some vs):Rd w0 M H b off s vs:=by
 obtain ⟨u,r,hat⟩:=fK8 h
 exact .row hat hs
theorem _root_.Go.Vx.fK5 {w0:World}{M:List Nat}{H:HP}{b n cap e size off s:Nat}{xs vs:List Value}(h:Ent.vec (some ⟨b,0,none⟩) n cap e size xs∈H)(hs:sub xs off s=some vs):Rd w0 M H b off s vs:=by
 obtain ⟨u,r,hat⟩:=fK8 h
 exact .vec hat hs
theorem _root_.Go.Vx.gJ6 (b:Nat){w0:World}{M:List Nat}{H:HP}{off s:Nat}{k:List Value->Prop}(hh:VLd w0 M H b off s k):VLd w0 M H b off s k:=hh
theorem hX7 {T:Int->List Int}{keys:List Int}{en:Int}{n i:Nat}(hi:i<n)(h:((bW3 T keys i).length:Int)<=en):tabK T keys en n (i+1)=tabK T keys en n i/\fV0 T keys en i=bW3 T keys i:=by
 have e:fV0 T keys en i=bW3 T keys i:=by unfold fV0;rw [jw h]
 refine ⟨?_,e⟩
 rw [tabK_next T keys en hi,e]
 apply qp
 intro j
 rw [qO]
 by_cases hj:i=j
 ·subst hj
  rw [jw rfl,gV2 hi,jw]
  unfold tabK
  simpa using hi
 ·rw [jk hj]
end Go.Proofs
