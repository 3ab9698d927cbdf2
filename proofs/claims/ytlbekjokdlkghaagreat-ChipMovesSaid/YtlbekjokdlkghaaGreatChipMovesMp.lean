import Derived.Test.YtlbekjokdlkghaaGreatChipMovesMc
import Derived.Test.YtlbekjokdlkghaaGreatChipMovesNa
set_option linter.unusedVariables false
set_option linter.unusedSimpArgs false
set_option maxHeartbeats 4000000
namespace Go.Gm
def dL2 (N:Net)(n:Nat)(l:List Syn):List (List Int):=(List.range n).map fun (k:Nat)=>cK1 N l (k:Int)
def gC9 (N:Net)(n:Nat)(l:List Syn):List (List Int):=(List.range n).map fun (k:Nat)=>gL0 N l (k:Int)
def gM2 (n:Nat)(l:List Syn):List Int:=(List.range n).map fun (k:Nat)=>(fY8 l (k:Int):Int)
theorem hQ8 {N:Net}{l:List Syn}{i:Nat}{s:Syn}(h:l[i]? =some s)(k:Int):cK1 N (l.take (i+1)) k=gS7 N k (cK1 N (l.take i) k) s:=dR1 h
theorem hB9 {N:Net}{l:List Syn}{i:Nat}{s:Syn}(h:l[i]? =some s)(k:Int):gL0 N (l.take (i+1)) k=gL1 N k (gL0 N (l.take i) k) s:=dR1 h
theorem hQ9 {N:Net}{n:Nat}{l:List Syn}{i:Nat}{s:Syn}(h:l[i]? =some s){k:Nat}(hk:bG1 N s.frm=(k:Int)):
  dL2 N n (l.take (i+1))=if s.to∈cK1 N (l.take i) k then dL2 N n (l.take i) else (dL2 N n (l.take i)).set k (cK1 N (l.take i) k++[s.to]):=by
 apply qp
 intro j
 have e1:(dL2 N n (l.take (i+1)))[j]? =(List.range n)[j]?.map fun (q:Nat)=>gS7 N (q:Int) (cK1 N (l.take i) q) s:=by
  unfold dL2
  rw [qj]
  congr 1
  funext q
  exact hQ8 h _
 have e2:(dL2 N n (l.take i))[j]? =(List.range n)[j]?.map fun (q:Nat)=>cK1 N (l.take i) q:=by unfold dL2;rw [qj]
 rw [e1]
 by_cases hj:j<n
 ·rw [qX hj]
  show some (gS7 N (j:Int) (cK1 N (l.take i) j) s)=_
  unfold gS7
  rw [hk]
  by_cases hjk:k=j
  ·subst hjk
   by_cases hm:s.to∈cK1 N (l.take i) k
   ·rw [jw hm,e2,qX hj,jk (fun h=>h.2 hm)];rfl
   ·rw [jk hm,jw ⟨rfl,hm⟩,QZ (by unfold dL2;simpa using hj)]
  ·rw [jk (fun h=>hjk (by omega))]
   split
   ·rw [e2,qX hj];rfl
   ·rw [List.getElem?_set_ne hjk,e2,qX hj];rfl
 ·rw [qf (l:=List.range n) (by simp;omega)]
  show none=_
  symm
  split
  ·exact qf (by unfold dL2;simp;omega)
  ·exact qf (by unfold dL2;simp;omega)
theorem hP0 {N:Net}{n:Nat}{l:List Syn}{i:Nat}{s:Syn}(h:l[i]? =some s){t:Nat}(ht:s.to=(t:Int)):
  gC9 N n (l.take (i+1))=if s.to∈cK1 N (l.take i) (bG1 N s.frm) then gC9 N n (l.take i) else (gC9 N n (l.take i)).set t (gL0 N (l.take i) t++[bG1 N s.frm]):=by
 have hiff:s.to∈cK1 N (l.take i) (bG1 N s.frm)<->bG1 N s.frm∈gL0 N (l.take i) t:=by
  rw [cG1,kJ9,<-ht]
  exact ⟨fun ⟨a,h1,h2,h3⟩=>⟨a,h1,h3,h2⟩,fun ⟨a,h1,h2,h3⟩=>⟨a,h1,h3,h2⟩⟩
 apply qp
 intro j
 have e1:(gC9 N n (l.take (i+1)))[j]? =(List.range n)[j]?.map fun (q:Nat)=>gL1 N (q:Int) (gL0 N (l.take i) q) s:=by
  unfold gC9
  rw [qj]
  congr 1
  funext q
  exact hB9 h _
 have e2:(gC9 N n (l.take i))[j]? =(List.range n)[j]?.map fun (q:Nat)=>gL0 N (l.take i) q:=by unfold gC9;rw [qj]
 rw [e1]
 by_cases hj:j<n
 ·rw [qX hj]
  show some (gL1 N (j:Int) (gL0 N (l.take i) j) s)=_
  unfold gL1
  rw [ht] at hiff ⊢
  by_cases hjk:t=j
  ·subst hjk
   by_cases hm:(t:Int)∈cK1 N (l.take i) (bG1 N s.frm)
   ·rw [jw hm,e2,qX hj,jk (fun h=>h.2 (hiff.1 hm))];rfl
   ·rw [jk hm,jw ⟨rfl,fun h=>hm (hiff.2 h)⟩,QZ (by unfold gC9;simpa using hj)]
  ·rw [jk (fun h=>hjk (by omega))]
   split
   ·rw [e2,qX hj];rfl
   ·rw [List.getElem?_set_ne hjk,e2,qX hj];rfl
 ·rw [qf (l:=List.range n) (by simp;omega)]
  show none=_
  symm
  split
  ·exact qf (by unfold gC9;simp;omega)
  ·exact qf (by unfold gC9;simp;omega)
theorem hK6 {n:Nat}{l:List Syn}{i:Nat}{s:Syn}(h:l[i]? =some s){t:Nat}(ht:s.to=(t:Int)):
  gM2 n (l.take (i+1))=(gM2 n (l.take i)).set t ((fY8 (l.take i) t:Int)+1):=by
 apply qp
 intro j
 have e1:(gM2 n (l.take (i+1)))[j]? =(List.range n)[j]?.map fun (q:Nat)=>((fY8 (l.take i) q+if s.to=(q:Int) then 1 else 0:Nat):Int):=by
  unfold gM2
  rw [qj]
  congr 1
  funext q
  rw [hK5 h]
 have e2:(gM2 n (l.take i))[j]? =(List.range n)[j]?.map fun (q:Nat)=>(fY8 (l.take i) q:Int):=by unfold gM2;rw [qj]
 rw [e1]
 by_cases hj:j<n
 ·rw [qX hj]
  by_cases hjt:t=j
  ·subst hjt
   rw [QZ (by unfold gM2;simpa using hj)]
   rw [qV]
   rw [jw ht];rfl
  ·rw [List.getElem?_set_ne hjt,e2,qX hj]
   rw [qV,qV]
   rw [jk (by omega)];rfl
 ·rw [qf (l:=List.range n) (by simp;omega),qf (by unfold gM2;simp;omega)]
  rfl
end Go.Gm
namespace Go.Proofs
open Go Go.Vx Go.Gm
structure SRow where
 p:Option Addr
 c:Nat
 l:List Int
def srV (r:SRow):List Value:=[.slice r.p r.l.length r.c]
def srE (r:SRow):Ent:=.vec r.p r.l.length r.c 3 1 (bQ1 bQ6 r.l)
def SRow.ok (r:SRow):Prop:=0<r.l.length->∃g,r.p=some ⟨g,0,none⟩
structure PlnX where
 C:Chp
 pd:Option Addr
 cd:Nat
 N:Net
 pn:Option Addr
 cn:Nat
 qs:Option Addr
 cs:Nat
structure PlnM where
 b:Nat
 gt:Nat
 gf:Nat
 gr:Nat
 T:List SRow
 F:List SRow
 R:List Int
def PlnX.net (X:PlnX):List Value:=[.slice X.pn X.N.ps.length X.cn,.int .i64 X.N.inputs,.slice X.qs X.N.syns.length X.cs]
def fS0 (X:PlnX)(x:PlnM):List Value:=[.int .i64 X.C.mesh.wide,.int .i64 X.C.mesh.high,.int .i64 X.C.mesh.room,.int .i64 X.C.nr,.int .i64 X.C.sy,.int .i64 X.C.en,.int .i64 X.C.bits,.slice X.pd X.C.dead.length X.cd,
 .slice X.pn X.N.ps.length X.cn,.int .i64 X.N.inputs,.slice X.qs X.N.syns.length X.cs,.slice (some ⟨x.gt,0,none⟩) x.T.length x.T.length,.slice (some ⟨x.gf,0,none⟩) x.F.length x.F.length,.slice (some ⟨x.gr,0,none⟩) x.R.length x.R.length]
def fQ3 (X:PlnX)(x:PlnM):HP:=.row x.b 151 (fS0 X x)::.vec (some ⟨x.gt,0,none⟩) x.T.length x.T.length 28 1 (bQ1 srV x.T)::.vec (some ⟨x.gf,0,none⟩) x.F.length x.F.length 28 1 (bQ1 srV x.F)::
 .vec (some ⟨x.gr,0,none⟩) x.R.length x.R.length 3 1 (bQ1 bQ6 x.R)::(x.T.map srE++x.F.map srE)
structure PlnUp (X:PlnX) (l:List Syn) (x:PlnM):Prop where
 T:x.T.map (·.l)=dL2 X.N (bV2 X.N) l
 F:x.F.map (·.l)=gC9 X.N X.N.ps.length l
 R:x.R=gM2 X.N.ps.length l
 okT:∀d∈x.T,d.ok
 okF:∀d∈x.F,d.ok
theorem fQ5 (pn:Option Addr)(n cn:Nat)(b:Nat)(cs:List Value)(hk:sub cs 8 1=some [.slice pn n cn])(f:Int)(hf:I64 f)(hn:n<=1024)(hf2: -1000000<=f)(w:World)(hb:Cells w b 0 cs):
  Calls Tryz.prog 59 #[.pointer (some ⟨b,0,none⟩),.int .i64 f] w fun e w'=>e=.returned (.int .i64 (if f<0 then (n:Int) - 1 - f else f))/\St w [] [] w':=by
 unfold I64 at hf
 refine enter (C:=Tryz.cx) (F:=mH1) (args:=[_,_]) Tryz.func59 rfl rfl rfl ok59 (St.start w []) ?_
 rcases Int.lt_or_le f 0 with h|h
 ·rw [jw h]
  repeat' (conv=>whnf);first|(refine VLd.is ?_;refine oC (.old (hb.part hk) rfl (by simp)) ?_)|(refine VSeq.go ?_)|(refine VB.is ?_;refine bX5 (by omega) fun _=>?_)|(refine VAr.is ?_;refine oA ?_)
  all_goals (conv=>whnf)
  exact ⟨fun w' hw'=>⟨rfl,hw'.le .nil⟩⟩
 ·rw [jk (by omega)]
  repeat' (conv=>whnf);first|(refine VSeq.go ?_)|(refine VB.is ?_;refine bZ2 (by omega) fun _=>?_)|(refine VLd.is ?_;refine VLd.mk (.row aT (by rfl)) ?_)
  all_goals (conv=>whnf)
  exact ⟨fun w' hw'=>⟨rfl,hw'.le .nil⟩⟩
theorem fY2 {α:Type}{l:List α}{j:Nat}{x:α}(y:α)(h:l[j]? =some x):(l.set j y).Perm (y::l.eraseIdx j):=by
 induction l generalizing j with
 |nil=>simp at h
 |cons z l ih=>
  cases j with
  |zero=>simp
  |succ j=>
   simp only [Qv] at h
   simp only [List.set_cons_succ,List.eraseIdx_cons_succ]
   exact ((ih h).cons z).trans (.swap _ _ _)
theorem gD2 {T F:List SRow}{k t:Nat}{r q:SRow}(y z:SRow)(hT:T[k]? =some r)(hF:F[t]? =some q):
  ((T.set k y).map srE++(F.set t z).map srE).Perm (srE z::srE y::((T.eraseIdx k).map srE++(F.eraseIdx t).map srE)):=by
 have h1:=(fY2 y hT).map srE
 have h2:=(fY2 z hF).map srE
 refine (h1.append h2).trans ?_
 simp only [qI,Qw]
 exact (List.Perm.cons _ List.perm_middle).trans (.swap _ _ _)
theorem hZ6 {w0 w:World}{M:List Nat}{H:HP}{Z:HP->HP}{T:List SRow}{k:Nat}{r:SRow}(hs:St w0 M H w)(h:AtS H (T.map srE) Z)(hk:T[k]? =some r):∃b,Sl w bQ6 1 r.l r.p r.l.length b 0:=by
 obtain ⟨u,r',h1,_,_⟩:=h.one hk
 exact Sl.own hs (by unfold srE at h1;exact h1) (fun _=>rfl) rfl
theorem _root_.Go.Vx.Cells.own {w0 w:World}{M:List Nat}{H:HP}{b e:Nat}{cs:List Value}(hs:St w0 M H w)(h:Ent.row b e cs∈H):Cells w b 0 cs:=by
 have hb:=hs.own (.row b e cs) h
 have hb':w.heap[b]? =some (.cells cs.toArray e (0,0)):=hb
 intro j v hj
 simpa [World.cell?,hb'] using hj
theorem _root_.Go.Vx.cQ3 {w0 w:World}{M:List Nat}{H r:HP}{u:Ent->HP}{b e:Nat}{cs:List Value}(hs:St w0 M H w)(h:At H (.row b e cs) u r):Cells w b 0 cs:=Cells.own hs h.mem
theorem dL7 (p:Option Addr)(c:Nat)(l:List Int)(v:Int):srE ⟨p,c,l++[v]⟩=.vec p (l.length+1) c 3 1 (bQ1 bQ6 l++[.int .i64 v]):=by
 unfold srE
 rw [qw,bQ7]
 rfl
theorem cB6 {α:Type}(n:Nat)(a:α):List.replicate n a=(List.range n).map (fun _=>a):=by
 rw [List.map_const',Qg]
theorem gM9 (a b c d:Ent)(A B:HP):(a::b::c::d::(A++B)).Perm (A++(B++[a,b,c,d])):=by
 rw [<-qJ]
 exact (List.perm_append_comm (l₁:=[a,b,c,d]) (l₂:=A++B))
theorem cQ2 {H' H:HP}{e size:Nat}(hr:HLe H' H):∀n:Nat,HLe (List.replicate n (.vec none 0 0 e size [])++H') H
 |0=>hr
 |n+1=>HLe.nilv (cQ2 hr n)
theorem fT7 (r:SRow)(p':Option Addr)(c':Nat)(v:Int):upd (srV r) 0 [.slice p' (r.l.length+1) c']=some (srV ⟨p',c',r.l++[v]⟩):=by
 unfold srV
 rw [qw]
 rfl
structure PlnRd (X:PlnX) (w:World):Prop where
 net:X.N.wf
 chip:X.C.wf
 cap:X.C.dead.length<=X.cd
 dead:∃b o,Sl w bQ6 1 X.C.dead X.pd X.C.dead.length b o
 ps:∃b o,Sl w bH3 8 X.N.ps X.pn X.N.ps.length b o
 syns:∃b o,Sl w bP1 4 X.N.syns X.qs X.N.syns.length b o
theorem dM1 (X:PlnX)(w:World)(hX:PlnRd X w)(he:planE X.N X.C≠0):
  Calls Tryz.prog 108 #[.agg X.net.toArray,.agg (bD5 X.C X.pd X.cd).toArray] w fun e w'=>e=.returned (.tuple #[.pointer none,.int .i64 (planE X.N X.C)])/\St w [] [] w':=by
 obtain ⟨hN,hC,hcc,⟨bd,od,hd⟩,⟨bp,op,hp⟩,⟨bs,os,hs⟩⟩:=hX
 have hin:=hN.inputs
 unfold I64 at hin
 have hm:=fun (w':World) hp hs=>bT4 X.N hN X.pn X.cn bp op X.qs X.cs bs os w' hp hs
 have hm2:=fun (w':World) hd=>cC8 X.C hC X.pd X.cd bd od hcc w' hd
 unfold PlnX.net
 unfold bD5 at hm2 ⊢
 refine enter (C:=Tryz.cx) (F:=kL8) (args:=[_,_]) Tryz.func108 rfl rfl rfl lV2 (St.start w []) ?_
 unfold Gm.planE at he ⊢
 by_cases h1:bG3 X.N≠0
 ·rw [jw h1]
  repeat' (conv=>whnf);first|(refine bQ0 78 ?_;(refine bQ4 (fun w' hw'=>hm w' (hp.keep hw' (by simp)) (hs.keep hw' (by simp))) ?_))|(refine VSeq.go ?_)|(refine VB.is ?_;refine bX5 (by omega) fun _=>?_)|(refine VLd.is ?_;refine VLd.mk (.row aT (by rfl)) ?_)|(refine VNew.mk fun _=>?_)
  all_goals (conv=>whnf)
  exact ⟨fun w' hw'=>⟨rfl,hw'.le .nil⟩⟩
 rw [jk h1] at he ⊢
 have h1:=Qm.1 h1
 rw [h1] at hm
 by_cases h2:dZ5 X.C≠0
 ·rw [jw h2]
  repeat' (conv=>whnf);first|(refine bQ0 78 ?_;(refine bQ4 (fun w' hw'=>hm w' (hp.keep hw' (by simp)) (hs.keep hw' (by simp))) ?_))|(refine bQ0 170 ?_;(refine bQ4 (fun w' hw'=>hm2 w' (hd.keep hw' (by simp))) ?_))|(refine VSeq.go ?_)|(refine VB.is ?_;refine bX5 (by omega) fun _=>?_)|(refine VB.is ?_;refine bZ2 (by omega) fun _=>?_)|(refine VLd.is ?_;refine VLd.mk (.row aT (by rfl)) ?_)|(refine VNew.mk fun _=>?_)|(refine VAr.is ?_;refine oA ?_)
  all_goals (conv=>whnf)
  exact ⟨fun w' hw'=>⟨rfl,hw'.le .nil⟩⟩
 rw [jk h2] at he ⊢
 have h2:=Qm.1 h2
 rw [h2] at hm2
 obtain ⟨g1,g2,g3,g4,g5,g6⟩:=bJ4.1 h1
 by_cases h3:256<(X.N.ps.length:Int)+X.N.inputs
 ·rw [jw h3]
  repeat' (conv=>whnf);first|(refine bQ0 78 ?_;(refine bQ4 (fun w' hw'=>hm w' (hp.keep hw' (by simp)) (hs.keep hw' (by simp))) ?_))|(refine bQ0 170 ?_;(refine bQ4 (fun w' hw'=>hm2 w' (hd.keep hw' (by simp))) ?_))|(refine VSeq.go ?_)|(refine VB.is ?_;refine bX5 (by omega) fun _=>?_)|(refine VB.is ?_;refine bZ2 (by omega) fun _=>?_)|(refine VLd.is ?_;refine VLd.mk (.row aT (by rfl)) ?_)|(refine VNew.mk fun _=>?_)|(refine VAr.is ?_;refine oA ?_)
  all_goals (conv=>whnf)
  exact ⟨fun w' hw'=>⟨rfl,hw'.le .nil⟩⟩
 rw [jk h3] at he
 exact absurd rfl he
theorem dM2 (X:PlnX)(w:World)(hX:PlnRd X w)(he:planE X.N X.C=0):
  Calls Tryz.prog 108 #[.agg X.net.toArray,.agg (bD5 X.C X.pd X.cd).toArray] w fun e w'=>∃x:PlnM,e=.returned (.tuple #[.pointer (some ⟨x.b,0,none⟩),.int .i64 0])/\PlnUp X X.N.syns x/\St w [] (fQ3 X x) w':=by
 obtain ⟨hnet,hchip,hfew⟩:=cR1 he
 have hchk:bG3 X.N=0:=bJ4.2 hnet
 have hce:dZ5 X.C=0:=by
  unfold Gm.planE at he
  rw [jk (by rw [hchk];simp)] at he
  split at he<;>omega
 obtain ⟨hN,hC,hcc,⟨bd,od,hd⟩,⟨bp,op,hp⟩,⟨bs,os,hs⟩⟩:=hX
 have hm:=fun (w':World) hp hs=>bT4 X.N hN X.pn X.cn bp op X.qs X.cs bs os w' hp hs
 have hm2:=fun (w':World) hd=>cC8 X.C hC X.pd X.cd bd od hcc w' hd
 rw [hchk] at hm
 rw [hce] at hm2
 have hkr:∀s∈X.N.syns,0<=bG1 X.N s.frm/\bG1 X.N s.frm<bV2 X.N:=fun s hs=>bL5 hnet hs
 obtain ⟨g1,g2,g3,g4,g5,g6⟩:=hnet
 obtain ⟨inp,hinp⟩:∃inp:Nat,X.N.inputs=(inp:Int):=⟨X.N.inputs.toNat,by omega⟩
 have hns:bV2 X.N=X.N.ps.length+inp:=by unfold bV2;omega
 unfold PlnX.net
 rw [hinp] at hm hfew ⊢
 unfold bD5 at hm2 ⊢
 refine enter (C:=Tryz.cx) (F:=kL8) (args:=[_,_]) Tryz.func108 rfl rfl rfl lV2 (St.start w []) ?_
 have hkey:=fQ5
 repeat' (conv=>whnf);first|(refine VNew.mk fun bb=>?_)|(refine bQ0 78 ?_;(refine bQ4 (fun w' hw'=>hm w' (hp.keep hw' (by simp)) (hs.keep hw' (by simp))) ?_))|(refine bQ0 170 ?_;(refine bQ4 (fun w' hw'=>hm2 w' (hd.keep hw' (by simp))) ?_))|(refine VMk.is ?_;refine VMk.mk (by omega) (by omega) (by (try dsimp only);omega) (by omega) fun g=>?_)|(refine VSeq.is ?_;refine bF1 10 rfl ?_;rename_i b2 q1 q2 q3;refine VSeq.cut (at_:=10) (α:=Nat×Nat×Nat×Nat) (fun _=>True) (fun z=>[(1000000,.tuple #[]),(2,.pointer (some ⟨b2,0,none⟩)),(4,.pointer none),(5,.int .i64 0),(8,.pointer (some ⟨z.1,0,none⟩))]) (fun z=>.row b2 25 [.slice X.pn X.N.ps.length X.cn,.int .i64 (inp:Int),.slice X.qs X.N.syns.length X.cs]::[.row z.1 151 [.int .i64 X.C.mesh.wide,.int .i64 X.C.mesh.high,.int .i64 X.C.mesh.room,.int .i64 X.C.nr,.int .i64 X.C.sy,.int .i64 X.C.en,.int .i64 X.C.bits,.slice X.pd X.C.dead.length X.cd,.slice X.pn X.N.ps.length X.cn,.int .i64 (inp:Int),.slice X.qs X.N.syns.length X.cs,.slice (some ⟨z.2.1,0,none⟩) (X.N.ps.length+inp) (X.N.ps.length+inp),.slice (some ⟨z.2.2.1,0,none⟩) X.N.ps.length X.N.ps.length,.slice (some ⟨z.2.2.2,0,none⟩) X.N.ps.length X.N.ps.length],.vec (some ⟨z.2.1,0,none⟩) (X.N.ps.length+inp) (X.N.ps.length+inp) 28 1 (bB1 [.slice none 0 0] (X.N.ps.length+inp)),.vec (some ⟨z.2.2.1,0,none⟩) X.N.ps.length X.N.ps.length 28 1 (bB1 [.slice none 0 0] X.N.ps.length),.vec (some ⟨z.2.2.2,0,none⟩) X.N.ps.length X.N.ps.length 3 1 (bB1 [.int .i64 0] X.N.ps.length)]) ?_ ?_)|(refine VSeq.go ?_)|(refine VB.is ?_;refine bZ2 (by omega) fun _=>?_)|(refine VLd.is ?_;refine VLd.mk (.row aT (by rfl)) ?_)|(refine VAr.is ?_;refine oA ?_)|(refine VKeep.is ?_;refine VKeep.mk aH ?_)|(refine VHs.mk _ (.refl _) ?_)|(refine And.intro ?_ ?_)
 all_goals (conv=>whnf)
 any_goals (rename_i u v;first|exact VMid.mk (bb,u,v,g) trivial aE aH|exact VMid.mk (bb,u,g,v) trivial aE aH|exact VMid.mk (bb,v,u,g) trivial aE aH|exact VMid.mk (bb,v,g,u) trivial aE aH|exact VMid.mk (bb,g,u,v) trivial aE aH|exact VMid.mk (bb,g,v,u) trivial aE aH)
 rintro ⟨b8,gt,gf,gr⟩ _
 dsimp only
 repeat' (conv=>whnf);first|(refine VSeq.go ?_)|(refine VB.is ?_;refine bZ2 (by omega) fun _=>?_)|(refine VLd.is ?_;refine VLd.mk (.row aT (by rfl)) ?_)
 all_goals (conv=>whnf)
 have hrT:=bV3 (f:=srV) (x:=(⟨none,0,[]⟩:SRow)) (X.N.ps.length+inp)
 have hrR:=bV3 (f:=bQ6) (x:=(0:Int)) X.N.ps.length
 have hrF:=bV3 (f:=srV) (x:=(⟨none,0,[]⟩:SRow)) X.N.ps.length
 have hsE:∀n:Nat,(List.replicate n (⟨none,0,[]⟩:SRow)).map srE=List.replicate n (.vec none 0 0 3 1 []):=fun n=>by rw [List.map_replicate];rfl
 refine VLoop.mk (α:=Nat×List SRow×List SRow×List Int) (fun z=>z.1<=X.N.syns.length/\PlnUp X (X.N.syns.take z.1) ⟨b8,gt,gf,gr,z.2.1,z.2.2.1,z.2.2.2⟩)
  (fun z=>[(1000000,.tuple #[]),(4,.pointer none),(5,.int .i64 0),(8,.pointer (some ⟨b8,0,none⟩)),(49,.slice X.qs X.N.syns.length X.cs),(50,.int .i64 (X.N.syns.length:Int)),(51,.int .i64 (z.1:Int))])
  (fun z=>.row b8 151 [.int .i64 X.C.mesh.wide,.int .i64 X.C.mesh.high,.int .i64 X.C.mesh.room,.int .i64 X.C.nr,.int .i64 X.C.sy,.int .i64 X.C.en,.int .i64 X.C.bits,.slice X.pd X.C.dead.length X.cd,.slice X.pn X.N.ps.length X.cn,.int .i64 (inp:Int),.slice X.qs X.N.syns.length X.cs,.slice (some ⟨gt,0,none⟩) z.2.1.length z.2.1.length,.slice (some ⟨gf,0,none⟩) z.2.2.1.length z.2.2.1.length,.slice (some ⟨gr,0,none⟩) z.2.2.2.length z.2.2.2.length]::.vec (some ⟨gt,0,none⟩) z.2.1.length z.2.1.length 28 1 (bQ1 srV z.2.1)::.vec (some ⟨gf,0,none⟩) z.2.2.1.length z.2.2.1.length 28 1 (bQ1 srV z.2.2.1)::.vec (some ⟨gr,0,none⟩) z.2.2.2.length z.2.2.2.length 3 1 (bQ1 bQ6 z.2.2.2)::(z.2.1.map srE++z.2.2.1.map srE)) (fun z=>X.N.syns.length - z.1) (0,List.replicate (X.N.ps.length+inp) ⟨none,0,[]⟩,List.replicate X.N.ps.length ⟨none,0,[]⟩,List.replicate X.N.ps.length 0) ⟨by dsimp only;omega,?_⟩ aE ?_ ?_
 ·refine ⟨?_,?_,?_,?_,?_⟩
  ·dsimp only
   rw [List.map_replicate,hns]
   exact cB6 _ _
  ·dsimp only
   rw [List.map_replicate]
   exact cB6 _ _
  ·dsimp only
   exact cB6 _ _
  ·intro d hd2
   rw [QM hd2]
   intro h;cases h
  ·intro d hd2
   rw [QM hd2]
   intro h;cases h
 ·dsimp only
  rw [Qn,Qn,Qn,<-hrT,<-hrF,<-hrR,hsE,hsE]
  refine HLe.permL (cQ2 (cQ2 ?_ X.N.ps.length) (X.N.ps.length+inp)) (A':=_) (A:=List.replicate (X.N.ps.length+inp) (.vec none 0 0 3 1 [])++(List.replicate X.N.ps.length (.vec none 0 0 3 1 [])++[.row b8 151 [.int .i64 X.C.mesh.wide,.int .i64 X.C.mesh.high,.int .i64 X.C.mesh.room,.int .i64 X.C.nr,.int .i64 X.C.sy,.int .i64 X.C.en,.int .i64 X.C.bits,.slice X.pd X.C.dead.length X.cd,.slice X.pn X.N.ps.length X.cn,.int .i64 (inp:Int),.slice X.qs X.N.syns.length X.cs,.slice (some ⟨gt,0,none⟩) (X.N.ps.length+inp) (X.N.ps.length+inp),.slice (some ⟨gf,0,none⟩) X.N.ps.length X.N.ps.length,.slice (some ⟨gr,0,none⟩) X.N.ps.length X.N.ps.length],.vec (some ⟨gt,0,none⟩) (X.N.ps.length+inp) (X.N.ps.length+inp) 28 1 (bB1 [.slice none 0 0] (X.N.ps.length+inp)),.vec (some ⟨gf,0,none⟩) X.N.ps.length X.N.ps.length 28 1 (bB1 [.slice none 0 0] X.N.ps.length),.vec (some ⟨gr,0,none⟩) X.N.ps.length X.N.ps.length 3 1 (bB1 [.int .i64 0] X.N.ps.length)])) (gM9 _ _ _ _ _ _)
  exact aH
 rintro ⟨i,T,F,R⟩ ⟨hi,hup⟩
 dsimp only at hi ⊢
 obtain ⟨hT,hF,hR,hokT,hokF⟩:=hup
 dsimp only at hT hF hR hokT hokF
 have hTl:T.length=X.N.ps.length+inp:=by
  have:=congrArg List.length hT
  rw [qv] at this
  rw [this,hns];unfold dL2;simp
 have hFl:F.length=X.N.ps.length:=by
  have:=congrArg List.length hF
  rw [qv] at this
  rw [this];unfold gC9;simp
 have hRl:R.length=X.N.ps.length:=by rw [hR];unfold gM2;simp
 rcases qy i X.N.syns.length with hlt|hge
 ·obtain ⟨s,hsi⟩:=hs.get hlt
  have hsm:=qz hsi
  have hsw:=hN.syns s hsm
  have hkr2:=hkr s hsm
  have hso:=(g6 s hsm).2.1
  obtain ⟨k,hk⟩:∃k:Nat,bG1 X.N s.frm=(k:Int):=⟨(bG1 X.N s.frm).toNat,by omega⟩
  obtain ⟨t,ht⟩:∃t:Nat,s.to=(t:Int):=⟨s.to.toNat,by omega⟩
  have hfr:=(g6 s hsm).1
  unfold cT4 at hfr
  have hkl:=hT
  obtain ⟨rT,hTk⟩:∃rT,T[k]? =some rT:=⟨_,qq (by omega)⟩
  obtain ⟨rF,hFt⟩:∃rF,F[t]? =some rF:=⟨_,qq (by omega)⟩
  obtain ⟨vR,hRt⟩:∃vR,R[t]? =some vR:=⟨_,qq (by omega)⟩
  have hrT:rT.l=cK1 X.N (X.N.syns.take i) k:=by
   have:=congrArg (fun L=>L[k]?) hT
   rw [qj,hTk] at this
   unfold dL2 at this
   rw [qj,qX (by omega)] at this
   simpa using this
  have hrF:rF.l=gL0 X.N (X.N.syns.take i) t:=by
   have:=congrArg (fun L=>L[t]?) hF
   rw [qj,hFt] at this
   unfold gC9 at this
   rw [qj,qX (by omega)] at this
   simpa using this
  have hvR:vR=(fY8 (X.N.syns.take i) t:Int):=by
   have:=hRt
   rw [hR] at this
   unfold gM2 at this
   rw [qj,qX (by omega)] at this
   simpa using this.symm
  have hl1:rT.l.length<=8192:=by
   have:=fT0 (N:=X.N) (key:=(k:Int)) (X.N.syns.take i) []
   rw [qh] at this
   rw [hrT];unfold cK1
   simp only [List.length_nil] at this
   omega
  have hl2:rF.l.length<=8192:=by
   have:=hB8 (N:=X.N) (to:=(t:Int)) (X.N.syns.take i) []
   rw [qh] at this
   rw [hrF];unfold gL0
   simp only [List.length_nil] at this
   omega
  have hl3:vR<=8192/\0<=vR:=by
   have h0:=qT (p:=fun s:Syn=>decide (s.to=(t:Int))) (l:=X.N.syns.take i)
   rw [qh] at h0
   rw [hvR];unfold fY8
   omega
  have hkc:=fun (w':World) (cs:List Value) hcel hsub=>fQ5 X.pn X.N.ps.length X.cn b8 cs hsub s.frm hsw.1 (by omega) (by omega) w' hcel
  have hke:(if s.frm<0 then (X.N.ps.length:Int) - 1 - s.frm else s.frm)=(k:Int):=hk
  rw [hke] at hkc
  have hsy:bP1 s=[.int .i64 s.frm,.int .i64 (t:Int),.int .i64 s.wt,.int .i64 s.dl]:=by rw [<-ht];rfl
  have hnT:=hQ9 (N:=X.N) (n:=bV2 X.N) hsi hk
  have hnF:=hP0 (N:=X.N) (n:=X.N.ps.length) hsi ht
  have hnR:=hK6 (n:=X.N.ps.length) hsi ht
  rw [<-hrT] at hnT
  rw [hk,<-hrT,<-hrF] at hnF
  rw [<-hvR] at hnR
  rw [<-hT] at hnT
  rw [<-hF] at hnF
  rw [<-hR] at hnR
  rw [ht] at hnT hnF
  have hsx:sub (bP1 s) 0 4=some [.int .i64 s.frm,.int .i64 (t:Int),.int .i64 s.wt,.int .i64 s.dl]:=by rw [hsy];rfl
  have hk3:k<X.N.ps.length+inp:=by omega
  have ht3:t<X.N.ps.length:=by omega
  clear hkl hke hsy g1 g2 g3 g5 g6 hm hm2 hT hF hkr hkr2 hfr hcc he hchk hce hsw hrT hrF hvR hR hd hp hinp
  repeat' (conv=>whnf);first|(refine VHs.is ?_;refine VHs.is ?_;refine VHs.mk [.row _ 154 [.int .i64 s.frm,.int .i64 (t:Int),.int .i64 s.wt,.int .i64 s.dl],.row b8 151 [.int .i64 X.C.mesh.wide,.int .i64 X.C.mesh.high,.int .i64 X.C.mesh.room,.int .i64 X.C.nr,.int .i64 X.C.sy,.int .i64 X.C.en,.int .i64 X.C.bits,.slice X.pd X.C.dead.length X.cd,.slice X.pn X.N.ps.length X.cn,.int .i64 (inp:Int),.slice X.qs X.N.syns.length X.cs,.slice (some ⟨gt,0,none⟩) T.length T.length,.slice (some ⟨gf,0,none⟩) F.length F.length,.slice (some ⟨gr,0,none⟩) R.length R.length],.vec (some ⟨gt,0,none⟩) T.length T.length 28 1 (bQ1 srV T),.vec (some ⟨gf,0,none⟩) F.length F.length 28 1 (bQ1 srV F),.vec (some ⟨gr,0,none⟩) R.length R.length 3 1 (bQ1 bQ6 R)] aH ?_)|(refine VHs.is ?_;refine VHs.is ?_;refine VHs.mk [.row _ 154 [.int .i64 s.frm,.int .i64 (t:Int),.int .i64 s.wt,.int .i64 s.dl],.row b8 151 [.int .i64 X.C.mesh.wide,.int .i64 X.C.mesh.high,.int .i64 X.C.mesh.room,.int .i64 X.C.nr,.int .i64 X.C.sy,.int .i64 X.C.en,.int .i64 X.C.bits,.slice X.pd X.C.dead.length X.cd,.slice X.pn X.N.ps.length X.cn,.int .i64 (inp:Int),.slice X.qs X.N.syns.length X.cs,.slice (some ⟨gt,0,none⟩) T.length T.length,.slice (some ⟨gf,0,none⟩) F.length F.length,.slice (some ⟨gr,0,none⟩) R.length R.length],.vec (some ⟨gf,0,none⟩) F.length F.length 28 1 (bQ1 srV F),.vec (some ⟨gr,0,none⟩) R.length R.length 3 1 (bQ1 bQ6 R)] aH ?_)|(refine VHs.is ?_;refine VHs.is ?_;refine VHs.mk [.row _ 154 [.int .i64 s.frm,.int .i64 (t:Int),.int .i64 s.wt,.int .i64 s.dl],.row b8 151 [.int .i64 X.C.mesh.wide,.int .i64 X.C.mesh.high,.int .i64 X.C.mesh.room,.int .i64 X.C.nr,.int .i64 X.C.sy,.int .i64 X.C.en,.int .i64 X.C.bits,.slice X.pd X.C.dead.length X.cd,.slice X.pn X.N.ps.length X.cn,.int .i64 (inp:Int),.slice X.qs X.N.syns.length X.cs,.slice (some ⟨gt,0,none⟩) T.length T.length,.slice (some ⟨gf,0,none⟩) F.length F.length,.slice (some ⟨gr,0,none⟩) R.length R.length],.vec (some ⟨gr,0,none⟩) R.length R.length 3 1 (bQ1 bQ6 R)] aH ?_)|(refine VNew.mk fun b10=>?_)|(refine VIx.is ?_;refine VIx.mk (hs.ptr (by omega)) (by omega) (by omega) ?_)|(refine VLd.is ?_;refine oC (hs.rd0 (by simp) (fun _=>rfl) hsi hsx) ?_)|(refine bQ0 59 ?_;(refine bQ4 (fun w' hw'=>hkc w' _ (cQ3 hw' (e:=151) aT) (by rfl)) ?_))|(refine VIx.is ?_;refine VIx.mk rfl (by omega) (by omega) ?_)|(refine VLd.is ?_;refine oC (.vec aT (bQ8 (f:=srV) (k:=1) (fun _=>rfl) hTk rfl)) ?_)|(refine VLd.is ?_;refine oC (.vec aT (bQ8 (f:=srV) (k:=1) (fun _=>rfl) hFt rfl)) ?_)|(refine VLd.is ?_;refine oC (.vec aT (bQ8 (f:=bQ6) (k:=1) (fun _=>rfl) hRt rfl)) ?_)|(refine bQ0 145 ?_;(refine bQ2 (fun w' hw'=>Exists.elim (hZ6 hw' aS hTk) fun bq hq=>bR5 rT.l (by omega) (t:Int) _ _ bq 0 w' hq) ?_;intro cc hcc;cases cc<;>simp only [Bool.false_eq_true,false_iff,true_iff] at hcc))|(refine VAp.is ?_;refine VAp.seg (f:=srE) (l:=T) aS hTk rfl (.at_ (.vec aT rfl)) (by simp [Value.oneCell']) (by (try dsimp only);omega) (by simp only [maxLen];omega) fun p1 c1 hp1=>?_)|(refine VAp.is ?_;refine VAp.seg (f:=srE) (l:=F) aS hFt rfl (.at_ (.vec aT rfl)) (by simp [Value.oneCell']) (by (try dsimp only);omega) (by simp only [maxLen];omega) fun p2 c2 hp2=>?_)|(refine VSt.is ?_;refine VSt.is ?_;refine VSt.cast (off':=k*1) (by first|omega|(dsimp only;omega)|rfl) (VSt.vec aT (bZ9 (f:=srV) (k:=1) (y:=⟨p1,c1,rT.l++[(t:Int)]⟩) (fun _=>rfl) hTk (fT7 _ _ _ _)) rfl ?_))|(refine VSt.is ?_;refine VSt.is ?_;refine VSt.cast (off':=t*1) (by first|omega|(dsimp only;omega)|rfl) (VSt.vec aT (bZ9 (f:=srV) (k:=1) (y:=⟨p2,c2,rF.l++[(k:Int)]⟩) (fun _=>rfl) hFt (fT7 _ _ _ _)) rfl ?_))|(refine VSt.is ?_;refine VSt.is ?_;refine VSt.cast (off':=t*1) (by first|omega|(dsimp only;omega)|rfl) (VSt.vec aT (bZ9 (f:=bQ6) (k:=1) (y:=vR+1) (fun _=>rfl) hRt rfl) rfl ?_))|(refine VSeq.go ?_)|(refine VB.is ?_;refine bX5 (by omega) fun _=>?_)|(refine VLd.is ?_;refine VLd.mk (.row aT (by rfl)) ?_)|(refine VSt.is ?_;refine VSt.row aT (by rfl) (by first|rfl|assumption) ?_)|(refine VAr.is ?_;refine oA ?_)|(refine VKeep.is ?_;refine VKeep.mk aH ?_)
  all_goals (conv=>whnf)
  all_goals first
   |(refine VNext.mk (i+1,T,F,R.set t (vR+1)) ⟨by dsimp only;omega,(hnT.trans (if_pos hcc)).symm,(hnF.trans (if_pos hcc)).symm,hnR.symm,hokT,hokF⟩ (by dsimp only;omega) aE ?_
     dsimp only
     rw [QH]
     exact aH)
   |(refine VNext.mk (i+1,T.set k ⟨p1,c1,rT.l++[(t:Int)]⟩,F.set t ⟨p2,c2,rF.l++[(k:Int)]⟩,R.set t (vR+1)) ⟨by dsimp only;omega,?_,?_,hnR.symm,?_,?_⟩ (by dsimp only;omega) aE ?_
     ·dsimp only
      rw [List.map_set]
      exact (hnT.trans (jk hcc)).symm
     ·dsimp only
      rw [List.map_set]
      exact (hnF.trans (jk hcc)).symm
     ·intro d hd2
      rcases Qq hd2 with h|rfl
      ·exact hokT d h
      ·exact fun _=>hp1 (by omega)
     ·intro d hd2
      rcases Qq hd2 with h|rfl
      ·exact hokF d h
      ·exact fun _=>hp2 (by omega)
     ·dsimp only
      rw [QH,QH,QH]
      refine HLe.permL ?_ (((((gD2 _ _ hTk hFt).cons _).cons _).cons _).cons _)
      rw [dL7,dL7]
      exact aH)
 rw [qe hge] at hT hF hR
 repeat' (conv=>whnf);first|(refine VSeq.go ?_)|(refine VB.is ?_;refine bZ2 (by omega) fun _=>?_)|(refine VLd.is ?_;refine VLd.mk (.row aT (by rfl)) ?_)
 all_goals (conv=>whnf)
 refine ⟨fun w' hw'=>⟨⟨b8,gt,gf,gr,T,F,R⟩,rfl,⟨hT,hF,hR,hokT,hokF⟩,?_⟩⟩
 unfold fQ3 fS0
 rw [hinp]
 exact hw'.le aH
end Go.Proofs
