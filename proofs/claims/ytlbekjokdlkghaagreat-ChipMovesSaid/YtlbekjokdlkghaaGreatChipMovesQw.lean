import Derived.Test.YtlbekjokdlkghaaGreatChipMovesRm
import Derived.Test.YtlbekjokdlkghaaGreatChipMovesNb
set_option linter.unusedVariables false
set_option linter.unusedSimpArgs false
set_option maxHeartbeats 4000000
namespace Go.Gm
structure QR where
 ps:List Par
 inp:Int
 syns:List Syn
 scales:List Int
 quots:List Int
 errs:List Int
 exact:Bool
def fN8 (N:Net)(bits:Int):Int:=if bG3 N≠0 then bG3 N else if¬(2<=bits/\bits<=16) then 3 else 0
def kC5:QR:=⟨[],0,[],[],[],[],false⟩
def bQ9 (N:Net)(bits:Int):QR:=if fN8 N bits≠0 then kC5 else
 let Q:=hV4 N bits
 ⟨N.ps,N.inputs,Q.syns,Q.scales,Q.quots,Q.errs,Q.exact⟩
theorem bS9 {α:Type}{f g:Nat->α}{n t:Nat}(ht:t<n)(h:∀i,i≠t->g i=f i):(List.range n).map g=((List.range n).map f).set t (g t):=by
 apply qp
 intro i
 by_cases hi:i<n
 ·by_cases e:i=t
  ·subst e
   rw [qj,qX hi,QZ (by simpa using hi)];rfl
  ·rw [qj,qX hi,List.getElem?_set_ne (Ne.symm e),qj,qX hi]
   simp [h i e]
 ·rw [qf (by simp;omega),qf (by simp;omega)]
theorem bL0 {α:Type}{f:Nat->α}{n t:Nat}(ht:t<n):((List.range n).map f)[t]? =some (f t):=by
 rw [qj,qX ht];rfl
theorem cH6 {α:Type}(a:α)(n:Nat):(List.range n).map (fun _=>a)=List.replicate n a:=by
 apply qp
 intro i
 by_cases hi:i<n
 ·rw [qj,qX hi,QB,jw hi];rfl
 ·rw [qf (by simp;omega),qf (by simp;omega)]
theorem dM9 (l:List Syn)(s:Syn)(i:Int):dX8 (l++[s]) i=dX8 l i++if s.to=i then [s.wt] else []:=by
 unfold dX8
 rw [Qa,ql]
 congr 1
 by_cases h:s.to=i<;>simp [h]
theorem gG6 (l:List Syn)(s:Syn)(i:Int):loM (l++[s]) i=if s.to=i then min (loM l i) s.wt else loM l i:=by
 unfold loM
 rw [dM9,Qx]
 split<;>rfl
theorem gF3 (l:List Syn)(s:Syn)(i:Int):hiM (l++[s]) i=if s.to=i then max (hiM l i) s.wt else hiM l i:=by
 unfold hiM
 rw [dM9,Qx]
 split<;>rfl
theorem fP7 (Z:List Int)(l:List Syn)(s:Syn)(i:Nat):kY2 Z (l++[s]) i=if s.to=(i:Int) then max (kY2 Z l i) (gS9 Z s) else kY2 Z l i:=by
 unfold kY2
 rw [Qa,ql,Qx]
 by_cases h:s.to=(i:Int)<;>simp [h]
def kK4 (l:List Syn)(n:Nat):List Int:=(List.range n).map fun (i:Nat)=>loM l (i:Int)
def kW1 (l:List Syn)(n:Nat):List Int:=(List.range n).map fun (i:Nat)=>hiM l (i:Int)
def fZ9 (Z:List Int)(l:List Syn)(n:Nat):List Int:=(List.range n).map (kY2 Z l)
theorem hG9 {l:List Syn}{n t:Nat}{s:Syn}(ht:t<n)(hs:s.to=(t:Int)):kK4 (l++[s]) n=(kK4 l n).set t (min (loM l (t:Int)) s.wt):=by
 unfold kK4
 rw [bS9 (f:=fun (i:Nat)=>loM l (i:Int)) ht fun i hi=>by rw [gG6,jk (by omega)],gG6,jw hs]
theorem hB5 {l:List Syn}{n t:Nat}{s:Syn}(ht:t<n)(hs:s.to=(t:Int)):kW1 (l++[s]) n=(kW1 l n).set t (max (hiM l (t:Int)) s.wt):=by
 unfold kW1
 rw [bS9 (f:=fun (i:Nat)=>hiM l (i:Int)) ht fun i hi=>by rw [gF3,jk (by omega)],gF3,jw hs]
theorem gT4 {Z:List Int}{l:List Syn}{n t:Nat}{s:Syn}(ht:t<n)(hs:s.to=(t:Int)):fZ9 Z (l++[s]) n=(fZ9 Z l n).set t (max (kY2 Z l t) (gS9 Z s)):=by
 unfold fZ9
 rw [bS9 (f:=kY2 Z l) ht fun i hi=>by rw [fP7,jk (by omega)],fP7,jw hs]
theorem kK3 (n:Nat):kK4 [] n=List.replicate n 0:=cH6 0 n
theorem kW0 (n:Nat):kW1 [] n=List.replicate n 0:=cH6 0 n
theorem hP8 (Z:List Int)(n:Nat):fZ9 Z [] n=List.replicate n 0:=cH6 0 n
theorem cK3 {α:Type}{l:List α}{i:Nat}{x:α}(h:l[i]? =some x):l.take (i+1)=l.take i++[x]:=by
 rw [qi,h];rfl
def hY9 (Z:List Int)(l:List Syn)(j:Nat):List Syn:=(l.take j).map (fN7 Z)++l.drop j
theorem kJ7 (Z:List Int)(l:List Syn){j:Nat}(h:j<=l.length):(hY9 Z l j).length=l.length:=by
 unfold hY9
 rw [qw,qv,qh,Qs]
 omega
theorem kJ8 {Z:List Int}{l:List Syn}{j:Nat}{s:Syn}(h:l[j]? =some s):(hY9 Z l j)[j]? =some s:=by
 have hlt:=(qx.1 h).1
 unfold hY9
 rw [Qr (by simp;omega)]
 simp only [qv,qh,Qy]
 rw [show j+(j - min j l.length)=j by omega,h]
theorem kJ6 {Z:List Int}{l:List Syn}{j:Nat}{s:Syn}(h:l[j]? =some s):(hY9 Z l j).set j (fN7 Z s)=hY9 Z l (j+1):=by
 have hlt:=(qx.1 h).1
 unfold hY9
 rw [cK3 h,ql,qU]
 obtain ⟨_,hh⟩:=qx.1 h
 rw [qG hlt,hh,List.set_append,jk (by simp;omega)]
 simp only [qv,qh]
 rw [show j - min j l.length=0 by omega,List.set_cons_zero,qJ]
 rfl
theorem hF0 {l:List Syn}(hl:lX8 l)(i:Int):(-32768<=loM l i/\loM l i<=0)/\(0<=hiM l i/\hiM l i<=32768):=by
 refine ⟨⟨?_,(bR1 _ _).1⟩,(bR2 _ _).1,?_⟩
 ·rcases cX9 (dX8 l i) 0 with e|e
  ·unfold loM;rw [e];omega
  ·obtain ⟨s,hs,_,h⟩:=cM9.1 e
   have:=hl s hs
   unfold loM;omega
 ·rcases cZ0 (dX8 l i) 0 with e|e
  ·unfold hiM;rw [e];omega
  ·obtain ⟨s,hs,_,h⟩:=cM9.1 e
   have:=hl s hs
   unfold hiM;omega
theorem kH9 {N:Net}(h:NetOk N):lX8 N.syns:=fun s hs=>by
 have:=(h.syns s hs).2.2.1
 omega
theorem dW7 (N:Net)(half:Int):(bX2 N half).length=N.ps.length:=by unfold bX2;simp
theorem cH5 {N:Net}{half:Int}{i:Nat}(h:i<N.ps.length):(bX2 N half)[i]? =some (cL5 N.syns half i:Int):=bL0 h
theorem cH7 {N:Net}(hN:NetOk N){half:Int}(hh:2<=half/\half<=32768){s:Syn}(hs:s∈N.syns):
  ∃(t:Nat) (z:Int),s.to=(t:Int)/\t<N.ps.length/\(bX2 N half)[t]? =some z/\(1<=z/\z<=65537)/\bL1 (bX2 N half) s=bG4 s.wt z/\okQ half z s.wt:=by
 have ht:=(hN.syns s hs).2.1
 obtain ⟨t,hte⟩:∃t:Nat,s.to=t:=⟨s.to.toNat,by omega⟩
 have htl:t<N.ps.length:=by omega
 obtain ⟨h1,h2,h3,_⟩:=dN9 (kH9 hN) hh.1 t
 refine ⟨t,_,hte,htl,cH5 htl,by omega,?_,?_⟩
 ·unfold bL1
  rw [hte,jf,cH5 htl];rfl
 ·exact h1 _ (cM9.2 ⟨s,hs,hte,rfl⟩)
end Go.Gm
namespace Go.Proofs
open Go Go.Vx Go.Gm
structure QP where
 pp:Option Addr
 cp:Nat
 ps:Option Addr
 cs:Nat
 pz:Option Addr
 cz:Nat
 pq:Option Addr
 cq:Nat
 pe:Option Addr
 ce:Nat
def cF6 (y:QP)(R:QR):List Value:=[.slice y.pp R.ps.length y.cp,.int .i64 R.inp,.slice y.ps R.syns.length y.cs,.slice y.pz R.scales.length y.cz,.slice y.pq R.quots.length y.cq,.slice y.pe R.errs.length y.ce,.bool R.exact]
def cM4 (y:QP)(R:QR):HP:=[.vec y.pp R.ps.length y.cp 140 8 (bQ1 bH3 R.ps),.vec y.ps R.syns.length y.cs 154 4 (bQ1 bP1 R.syns),.vec y.pz R.scales.length y.cz 3 1 (bQ1 bQ6 R.scales),.vec y.pq R.quots.length y.cq 3 1 (bQ1 bQ6 R.quots),.vec y.pe R.errs.length y.ce 3 1 (bQ1 bQ6 R.errs)]
def lK0:QP:=⟨none,0,none,0,none,0,none,0,none,0⟩
theorem dH7 (n:Nat):bB1 [.int .i64 0] n=bQ1 bQ6 (List.replicate n 0):=bV3 (f:=bQ6) (x:=0) n
theorem dX7 (N:Net)(hN:N.wf)(bits:Int)(hbi:I64 bits)(pn:Option Addr)(cn bn on:Nat)(qs:Option Addr)(cs bs os:Nat)(w:World)(h1:Sl w bH3 8 N.ps pn N.ps.length bn on)(h2:Sl w bP1 4 N.syns qs N.syns.length bs os):
  Calls Tryz.prog 27 #[.agg #[.slice pn N.ps.length cn,.int .i64 N.inputs,.slice qs N.syns.length cs],.int .i64 bits] w fun e w'=>∃y:QP,e=.returned (.tuple #[.agg (cF6 y (bQ9 N bits)).toArray,.int .i64 (fN8 N bits)])/\True/\St w [] (cM4 y (bQ9 N bits)) w':=by
 have hfin:∀w' H,St w [] H w'->∀E,E≠0->fN8 N bits=E->∃y:QP,Ending.returned (.tuple #[.agg #[.slice none 0 0,.int .i64 0,.slice none 0 0,.slice none 0 0,.slice none 0 0,.slice none 0 0,.bool false],.int .i64 E])=.returned (.tuple #[.agg (cF6 y (bQ9 N bits)).toArray,.int .i64 (fN8 N bits)])/\True/\St w [] (cM4 y (bQ9 N bits)) w':=by
  intro w' H hw' E hE he
  have hr:bQ9 N bits=kC5:=by unfold bQ9;rw [jw (by omega)]
  rw [hr,he]
  exact ⟨lK0,rfl,trivial,hw'.le (HLe.nilv (HLe.nilv (HLe.nilv (HLe.nilv (HLe.nilv .nil)))))⟩
 unfold I64 at hbi
 refine enter (C:=Tryz.cx) (F:=mB7) (args:=[_,_]) Tryz.func27 rfl rfl rfl ok27 (St.start w []) ?_
 refine VSeq.go ?_
 repeat' (conv=>whnf);first|(refine VNew.mk fun b4=>?_)
 all_goals (conv=>whnf)
 rename_i b2
 by_cases hq:fN8 N bits≠0
 ·have hq2:=hq
  unfold fN8 at hq2
  repeat' (conv=>whnf);first|(refine bQ0 79 ?_;refine VCall.inl (F:=kL2) Tryz.func79 rfl rfl rfl lZ3 ?_)|(refine bQ0 78 ?_;refine bQ4 (fun w' hw'=>bT4 N hN _ _ _ _ _ _ _ _ _ (h1.keep hw' (by simp)) (h2.keep hw' (by simp))) ?_)|(refine VSeq.go ?_)|(refine VB.is ?_;refine bZ2 (by omega) fun _=>?_)|(refine VB.split (fun _=>?_) (fun _=>?_))|(refine VLd.is ?_;refine VLd.mk (.row aT (by rfl)) ?_)|(refine VSt.is ?_;refine VSt.row aT (by rfl) (by first|rfl|assumption) ?_)
  all_goals (conv=>whnf)
  all_goals first
   |exact ⟨fun w' hw'=>hfin w' _ hw' _ (by omega) (by unfold fN8;first|rw [jw (by omega)]|rw [jk (by omega),jw (by omega)])⟩
   |trace_state
 have hq0:=Qm.1 hq
 have hzero:bG3 N=0/\(2<=bits/\bits<=16):=by
  unfold fN8 at hq0
  split at hq0
  ·omega
  ·split at hq0
   ·omega
   ·rename_i a b;exact ⟨by omega,by omega⟩
 obtain ⟨hc0,hb⟩:=hzero
 have hOk:=bJ4.1 hc0
 have hfewP:=hOk.few
 have hsomeP:=hOk.some
 have hfewS:=hOk.fewS
 have hwts:=kH9 hOk
 have hhalf:=gX3 hb
 obtain ⟨half,hhf⟩:=gX (bW6 bits)
 rw [hhf] at hhalf
 have hshl:(2:Int) ^ (bits - 1).toNat=half:=by
  rw [<-hhf]
  unfold bW6
  congr 1
  omega
 have hres:bQ9 N bits=⟨N.ps,N.inputs,N.syns.map (fN7 (bX2 N half)),bX2 N half,N.syns.map (bL1 (bX2 N half)),fZ9 (bX2 N half) N.syns N.ps.length,N.syns.all fun s=>decide (gS9 (bX2 N half) s=0)⟩:=by
  unfold bQ9
  rw [jk (by omega),<-hhf]
  rfl
 clear hfin hq
 repeat' (conv=>whnf);first|(refine bQ0 79 ?_;refine VCall.inl (F:=kL2) Tryz.func79 rfl rfl rfl lZ3 ?_)|(refine bQ0 78 ?_;refine bQ4 (fun w' hw'=>bT4 N hN _ _ _ _ _ _ _ _ _ (h1.keep hw' (by simp)) (h2.keep hw' (by simp))) ?_)|(refine VShL.is ?_;refine VShL.is ?_;refine VShL.one (by omega) (by omega) ?_;rw [hshl])|(refine VNew.mk fun b8=>?_)|(refine VMk.is ?_;refine VMk.mk (by omega) (by omega) (by (try dsimp only);omega) (by omega) fun be=>?_)|(refine bQ0 80 ?_;(refine bQ2 (fun w' hw'=>cW8 N.ps _ _ _ _ w' (h1.keep hw' (by simp)) (by omega)) ?_;rintro ⟨p1,c1⟩ hp1;dsimp only))|(refine bQ0 81 ?_;(refine bQ2 (fun w' hw'=>fD7 N.syns _ _ _ _ w' (h2.keep hw' (by simp)) (by omega)) ?_;rintro ⟨p2,c2⟩ hp2;dsimp only))|(refine VSeq.is ?_;refine bF1 8 rfl ?_;refine VSeq.cut (at_:=8) (α:=(QP×Nat)×Nat) (fun y=>0<N.syns.length->∃g,y.1.1.ps=some ⟨g,0,none⟩) (fun y=>[(1000000,.tuple #[]),(2,.pointer (some ⟨b2,0,none⟩)),(4,.pointer (some ⟨b4,0,none⟩)),(5,.int .i64 0),(7,.int .i64 half),(8,.pointer (some ⟨y.1.2,0,none⟩))]) (fun y=>[.row b2 25 [.slice pn N.ps.length cn,.int .i64 N.inputs,.slice qs N.syns.length cs],.row b4 57 [.slice none 0 0,.int .i64 0,.slice none 0 0,.slice none 0 0,.slice none 0 0,.slice none 0 0,.bool false],.row y.1.2 57 [.slice y.1.1.pp N.ps.length y.1.1.cp,.int .i64 N.inputs,.slice y.1.1.ps N.syns.length y.1.1.cs,.slice none 0 0,.slice none 0 0,.slice (some ⟨y.2,0,none⟩) N.ps.length N.ps.length,.bool true],.vec y.1.1.pp N.ps.length y.1.1.cp 140 8 (bQ1 bH3 N.ps),.vec y.1.1.ps N.syns.length y.1.1.cs 154 4 (bQ1 bP1 N.syns),.vec (some ⟨y.2,0,none⟩) N.ps.length N.ps.length 3 1 (bQ1 bQ6 (List.replicate N.ps.length 0))]) ?_ ?_)|(refine VSeq.go ?_)|(refine VB.is ?_;refine bX5 (by omega) fun _=>?_)|(refine VB.is ?_;refine bZ2 (by omega) fun _=>?_)|(refine VLd.is ?_;refine VLd.mk (.row aT (by rfl)) ?_)|(refine VSt.is ?_;refine VSt.row aT (by rfl) (by first|rfl|assumption) ?_)|(refine VAr.is ?_;refine oA ?_)|(refine VKeep.is ?_;refine VKeep.mk aH ?_)|(refine VHs.mk _ (.refl _) ?_)|(refine And.intro ?_ ?_)
 all_goals (conv=>whnf)
 any_goals (exact VMid.mk ((⟨p1,c1,p2,c2,none,0,none,0,none,0⟩,b8),be) hp2 aE (by rw [<-dH7];exact aH))
 rintro ⟨⟨y,b8⟩,be⟩ hys
 obtain ⟨yp,ycp,ys,ycs,_,_,_,_,_,_⟩:=y
 dsimp only at hys ⊢
 refine VSeq.cut (at_:=9) (α:=Nat×Nat) (fun _=>True) (fun z=>[(1000000,.tuple #[]),(2,.pointer (some ⟨b2,0,none⟩)),(4,.pointer (some ⟨b4,0,none⟩)),(5,.int .i64 0),(7,.int .i64 half),(8,.pointer (some ⟨b8,0,none⟩)),(9,.slice (some ⟨z.1,0,none⟩) N.ps.length N.ps.length),(10,.slice (some ⟨z.2,0,none⟩) N.ps.length N.ps.length)])
  (fun z=>[.row b2 25 [.slice pn N.ps.length cn,.int .i64 N.inputs,.slice qs N.syns.length cs],.row b4 57 [.slice none 0 0,.int .i64 0,.slice none 0 0,.slice none 0 0,.slice none 0 0,.slice none 0 0,.bool false],.row b8 57 [.slice yp N.ps.length ycp,.int .i64 N.inputs,.slice ys N.syns.length ycs,.slice none 0 0,.slice none 0 0,.slice (some ⟨be,0,none⟩) N.ps.length N.ps.length,.bool true],.vec yp N.ps.length ycp 140 8 (bQ1 bH3 N.ps),.vec ys N.syns.length ycs 154 4 (bQ1 bP1 N.syns),.vec (some ⟨be,0,none⟩) N.ps.length N.ps.length 3 1 (bQ1 bQ6 (List.replicate N.ps.length 0)),.vec (some ⟨z.1,0,none⟩) N.ps.length N.ps.length 3 1 (bQ1 bQ6 (List.replicate N.ps.length 0)),.vec (some ⟨z.2,0,none⟩) N.ps.length N.ps.length 3 1 (bQ1 bQ6 (List.replicate N.ps.length 0))]) ?_ ?_
 ·repeat' (conv=>whnf);first|(refine VMk.is ?_;refine VMk.mk (by omega) (by omega) (by (try dsimp only);omega) (by omega) fun bx=>?_)|(refine VLd.is ?_;refine VLd.mk (.row aT (by rfl)) ?_)|(refine VKeep.is ?_;refine VKeep.mk aH ?_)|(refine VHs.mk _ (.refl _) ?_)|(refine And.intro ?_ ?_)
  all_goals (conv=>whnf)
  all_goals (rename_i bx by1;first|exact VMid.mk (bx,by1) trivial aE (by rw [<-dH7];exact aH)|exact VMid.mk (by1,bx) trivial aE (by rw [<-dH7];exact aH))
 rintro ⟨bl,bh⟩ _
 dsimp only
 -- the least weight and the greatest one of each neuron
 repeat' (conv=>whnf);first|(refine VSeq.go ?_)|(refine VB.is ?_;refine bX5 (by omega) fun _=>?_)|(refine VB.is ?_;refine bZ2 (by omega) fun _=>?_)|(refine VLd.is ?_;refine VLd.mk (.row aT (by rfl)) ?_)|(refine VSt.is ?_;refine VSt.row aT (by rfl) (by first|rfl|assumption) ?_)
 all_goals (conv=>whnf)
 refine VLoop.mk (α:=Nat) (fun j=>j<=N.syns.length) (fun j=>[(1000000,.tuple #[]),(2,.pointer (some ⟨b2,0,none⟩)),(4,.pointer (some ⟨b4,0,none⟩)),(5,.int .i64 0),(7,.int .i64 half),(8,.pointer (some ⟨b8,0,none⟩)),(9,.slice (some ⟨bl,0,none⟩) N.ps.length N.ps.length),(10,.slice (some ⟨bh,0,none⟩) N.ps.length N.ps.length),(55,.slice qs N.syns.length cs),(56,.int .i64 (N.syns.length:Int)),(57,.int .i64 (j:Int))])
  (fun j=>[.row b2 25 [.slice pn N.ps.length cn,.int .i64 N.inputs,.slice qs N.syns.length cs],.row b4 57 [.slice none 0 0,.int .i64 0,.slice none 0 0,.slice none 0 0,.slice none 0 0,.slice none 0 0,.bool false],.row b8 57 [.slice yp N.ps.length ycp,.int .i64 N.inputs,.slice ys N.syns.length ycs,.slice none 0 0,.slice none 0 0,.slice (some ⟨be,0,none⟩) N.ps.length N.ps.length,.bool true],.vec yp N.ps.length ycp 140 8 (bQ1 bH3 N.ps),.vec ys N.syns.length ycs 154 4 (bQ1 bP1 N.syns),.vec (some ⟨be,0,none⟩) N.ps.length N.ps.length 3 1 (bQ1 bQ6 (List.replicate N.ps.length 0)),.vec (some ⟨bl,0,none⟩) N.ps.length N.ps.length 3 1 (bQ1 bQ6 (kK4 (N.syns.take j) N.ps.length)),.vec (some ⟨bh,0,none⟩) N.ps.length N.ps.length 3 1 (bQ1 bQ6 (kW1 (N.syns.take j) N.ps.length))]) (fun j=>N.syns.length - j) 0 (by omega) aE (by rw [QU,kK3,kW0];exact aH) ?_
 intro j hj
 rcases qy j N.syns.length with hlt|hge
 ·obtain ⟨s,hs⟩:=h2.get hlt
  have hsm:=qz hs
  have hto:=(hOk.syns s hsm).2.1
  have hwt:=hwts s hsm
  obtain ⟨t,hte⟩:∃t:Nat,s.to=t:=⟨s.to.toNat,by omega⟩
  have htl:t<N.ps.length:=by omega
  have hlo:(kK4 (N.syns.take j) N.ps.length)[t]? =some (loM (N.syns.take j) (t:Int)):=bL0 htl
  have hhi:(kW1 (N.syns.take j) N.ps.length)[t]? =some (hiM (N.syns.take j) (t:Int)):=bL0 htl
  have hnl:=hG9 (l:=N.syns.take j) htl hte
  have hnh:=hB5 (l:=N.syns.take j) htl hte
  rw [<-cK3 hs] at hnl hnh
  repeat' (conv=>whnf);first|(refine VNew.mk fun b12=>?_)|(refine VHs.is ?_;refine VHs.mk [.row b12 154 (bP1 s)] aH ?_)|(refine VIx.is ?_;refine VIx.mk (h2.ptr (by omega)) (by omega) (by omega) ?_)|(refine VLd.is ?_;refine oC (h2.rd0 (by simp) (fun _=>rfl) hs rfl) ?_)|(refine VLd.is ?_;refine oC (.vec aT (bQ8 (f:=bQ6) (k:=1) (fun _=>rfl) hlo rfl)) ?_)|(refine VLd.is ?_;refine oC (.vec aT (bQ8 (f:=bQ6) (k:=1) (fun _=>rfl) hhi rfl)) ?_)|(refine VSt.is ?_;refine VSt.cast (off':=t*1) (by first|omega|(dsimp only;omega)) (VSt.vec aT (bZ9 (f:=bQ6) (k:=1) (fun _=>rfl) hlo rfl) rfl ?_))|(refine VSt.is ?_;refine VSt.cast (off':=t*1) (by first|omega|(dsimp only;omega)) (VSt.vec aT (bZ9 (f:=bQ6) (k:=1) (fun _=>rfl) hhi rfl) rfl ?_))|(refine VSeq.go ?_)|(refine VB.is ?_;refine bX5 (by omega) fun _=>?_)|(refine VLd.is ?_;refine VLd.mk (.row aT (by rfl)) ?_)|(refine VSt.is ?_;refine VSt.row aT (by rfl) (by first|rfl|assumption) ?_)|(refine VAr.is ?_;refine oA ?_)|(refine VIx.is ?_;refine VIx.mk rfl (by omega) (by omega) ?_)|(refine VKeep.is ?_;refine VKeep.mk aH ?_)|(refine And.intro ?_ ?_)
  all_goals (conv=>whnf)
  all_goals exact VNext.mk (j+1) (by omega) (by omega) aE (by rw [hnl,hnh];exact aH)
 rw [qe hge]
 -- the scales
 repeat' (conv=>whnf);first|(refine VSeq.go ?_)|(refine VB.is ?_;refine bX5 (by omega) fun _=>?_)|(refine VB.is ?_;refine bZ2 (by omega) fun _=>?_)|(refine VLd.is ?_;refine VLd.mk (.row aT (by rfl)) ?_)|(refine VSt.is ?_;refine VSt.row aT (by rfl) (by first|rfl|assumption) ?_)
 all_goals (conv=>whnf)
 refine VLoop.mk (α:=Nat×Option Addr×Nat) (fun z=>z.1<=N.ps.length/\(0<z.1->∃g,z.2.1=some ⟨g,0,none⟩)) (fun z=>[(1000000,.tuple #[]),(4,.pointer (some ⟨b4,0,none⟩)),(5,.int .i64 0),(7,.int .i64 half),(8,.pointer (some ⟨b8,0,none⟩)),(9,.slice (some ⟨bl,0,none⟩) N.ps.length N.ps.length),(10,.slice (some ⟨bh,0,none⟩) N.ps.length N.ps.length),(88,.int .i64 (N.ps.length:Int)),(89,.int .i64 (z.1:Int))])
  (fun z=>[.row b4 57 [.slice none 0 0,.int .i64 0,.slice none 0 0,.slice none 0 0,.slice none 0 0,.slice none 0 0,.bool false],.row b8 57 [.slice yp N.ps.length ycp,.int .i64 N.inputs,.slice ys N.syns.length ycs,.slice z.2.1 z.1 z.2.2,.slice none 0 0,.slice (some ⟨be,0,none⟩) N.ps.length N.ps.length,.bool true],.vec yp N.ps.length ycp 140 8 (bQ1 bH3 N.ps),.vec ys N.syns.length ycs 154 4 (bQ1 bP1 N.syns),.vec z.2.1 z.1 z.2.2 3 1 (bQ1 bQ6 ((bX2 N half).take z.1)),.vec (some ⟨be,0,none⟩) N.ps.length N.ps.length 3 1 (bQ1 bQ6 (List.replicate N.ps.length 0)),.vec (some ⟨bl,0,none⟩) N.ps.length N.ps.length 3 1 (bQ1 bQ6 (kK4 N.syns N.ps.length)),.vec (some ⟨bh,0,none⟩) N.ps.length N.ps.length 3 1 (bQ1 bQ6 (kW1 N.syns N.ps.length))]) (fun z=>N.ps.length - z.1) (0,none,0) ⟨by dsimp only;omega,fun h=>by dsimp only at h;omega⟩ aE (by dsimp only;exact aH) ?_
 rintro ⟨i,pz,cz⟩ ⟨hi,hpz⟩
 dsimp only at hi hpz ⊢
 rcases qy i N.ps.length with hlt2|hge2
 ·have hlo:(kK4 N.syns N.ps.length)[i]? =some (loM N.syns (i:Int)):=bL0 hlt2
  have hhi:(kW1 N.syns N.ps.length)[i]? =some (hiM N.syns (i:Int)):=bL0 hlt2
  obtain ⟨hlb,hhb⟩:=hF0 hwts (i:Int)
  obtain ⟨k1,k2,k3,k4⟩:=dN9 hwts hhalf.1 i
  have hsg:=cH5 (N:=N) (half:=half) hlt2
  obtain ⟨Z,hZ⟩:=gX (cL5 N.syns half i)
  rw [hZ] at k1 k2 k3 k4 hsg
  repeat' (conv=>whnf);first|(refine VSeq.go ?_)|(refine VB.is ?_;refine bX5 (by omega) fun _=>?_)|(refine VB.is ?_;refine bZ2 (by omega) fun _=>?_)|(refine VLd.is ?_;refine VLd.mk (.row aT (by rfl)) ?_)|(refine VSt.is ?_;refine VSt.row aT (by rfl) (by first|rfl|assumption) ?_)
  all_goals (conv=>whnf)
  refine bF2 (α:=Nat) [1000000,4,5,7,8,9,10,13,88,89] rfl (fun s=>1<=s/\s<=Z) (fun s K=>(14,.int .i64 (s:Int))::K)
   (fun _=>[.row b4 57 [.slice none 0 0,.int .i64 0,.slice none 0 0,.slice none 0 0,.slice none 0 0,.slice none 0 0,.bool false],.row b8 57 [.slice yp N.ps.length ycp,.int .i64 N.inputs,.slice ys N.syns.length ycs,.slice pz i cz,.slice none 0 0,.slice (some ⟨be,0,none⟩) N.ps.length N.ps.length,.bool true],.vec yp N.ps.length ycp 140 8 (bQ1 bH3 N.ps),.vec ys N.syns.length ycs 154 4 (bQ1 bP1 N.syns),.vec pz i cz 3 1 (bQ1 bQ6 ((bX2 N half).take i)),.vec (some ⟨be,0,none⟩) N.ps.length N.ps.length 3 1 (bQ1 bQ6 (List.replicate N.ps.length 0)),.vec (some ⟨bl,0,none⟩) N.ps.length N.ps.length 3 1 (bQ1 bQ6 (kK4 N.syns N.ps.length)),.vec (some ⟨bh,0,none⟩) N.ps.length N.ps.length 3 1 (bQ1 bQ6 (kW1 N.syns N.ps.length))]) (fun s=>Z - s) 1 ⟨by omega,by omega⟩ aE aH ?_
  rintro s ⟨hs1,hs2⟩
  have hfits:=kW8 (l:=N.syns) (half:=half) (i:=(i:Int)) (s:=(s:Int)) (by omega) (by omega)
  by_cases hsZ:s=Z
  ·subst hsZ
   have hyes:=hfits.2 k1
   repeat' (conv=>whnf);first|(refine VIx.is ?_;refine VIx.mk rfl (by omega) (by omega) ?_)|(refine VLd.is ?_;refine oC (.vec aT (bQ8 (f:=bQ6) (k:=1) (fun _=>rfl) hlo rfl)) ?_)|(refine VLd.is ?_;refine oC (.vec aT (bQ8 (f:=bQ6) (k:=1) (fun _=>rfl) hhi rfl)) ?_)|(refine bQ0 82 ?_;(refine bQ2 (fun w' _=>gF7 _ _ (s:Int) half hlb hhb (by omega) hhalf w') ?_;intro b hb;have hbt:=hb.2 hyes;subst hbt))|(refine VAp.is ?_;refine VAp.own aT (.at_ (.vec aT rfl)) (by simp [Value.oneCell']) (by (try dsimp only);omega) (by simp only [maxLen];omega) fun p' cap' hp'=>?_)|(refine VSeq.go ?_)|(refine VLd.is ?_;refine VLd.mk (.row aT (by rfl)) ?_)|(refine VSt.is ?_;refine VSt.row aT (by rfl) (by first|rfl|assumption) ?_)|(refine VNew.mk fun _=>?_)|(refine VAr.is ?_;refine oA ?_)|(refine VHs.mk _ (.refl _) ?_)
   all_goals (conv=>whnf)
   refine VNext.mk (i+1,p',cap') ⟨by dsimp only;omega,fun _=>hp' (by omega)⟩ (by dsimp only;omega) aE ?_
   dsimp only
   rw [cK3 hsg,bQ7]
   exact aH
  ·have hno:¬gX4 (loM N.syns (i:Int)) (hiM N.syns (i:Int)) (s:Int) half:=fun h=>k4 s hs1 (by omega) (hfits.1 h)
   repeat' (conv=>whnf);first|(refine VIx.is ?_;refine VIx.mk rfl (by omega) (by omega) ?_)|(refine VLd.is ?_;refine oC (.vec aT (bQ8 (f:=bQ6) (k:=1) (fun _=>rfl) hlo rfl)) ?_)|(refine VLd.is ?_;refine oC (.vec aT (bQ8 (f:=bQ6) (k:=1) (fun _=>rfl) hhi rfl)) ?_)|(refine bQ0 82 ?_;(refine bQ2 (fun w' _=>gF7 _ _ (s:Int) half hlb hhb (by omega) hhalf w') ?_;intro b hb;have hbf:b=false:=(by cases b;rfl;exact absurd (hb.1 rfl) hno);subst hbf))|(refine VSeq.go ?_)|(refine VAr.is ?_;refine oA ?_)|(refine VHs.mk _ (.refl _) ?_)
   all_goals (conv=>whnf)
   exact VNext.mk (s+1) ⟨by omega,by omega⟩ (by omega) aE aH
 have hiN:i=N.ps.length:=by omega
 subst hiN
 rw [qe (by rw [dW7];omega)]
 obtain ⟨gz,hgz⟩:=hpz (by omega)
 subst hgz
 obtain ⟨Z,hZ⟩:=gX (bX2 N half)
 have hZl:=dW7 N half
 have hqb:=fun s hs=>cH7 hOk hhalf (s:=s) hs
 rw [hZ] at hres hZl hqb ⊢
 -- the quotients
 repeat' (conv=>whnf);first|(refine VSeq.go ?_)|(refine VB.is ?_;refine bX5 (by omega) fun _=>?_)|(refine VB.is ?_;refine bZ2 (by omega) fun _=>?_)|(refine VLd.is ?_;refine VLd.mk (.row aT (by rfl)) ?_)|(refine VSt.is ?_;refine VSt.row aT (by rfl) (by first|rfl|assumption) ?_)
 all_goals (conv=>whnf)
 refine VLoop.mk (α:=(Nat×Bool)×Option Addr×Nat) (fun z=>z.1.1<=N.syns.length/\z.1.2=(N.syns.take z.1.1).all fun s=>decide (gS9 Z s=0)) (fun z=>[(1000000,.tuple #[]),(4,.pointer (some ⟨b4,0,none⟩)),(5,.int .i64 0),(8,.pointer (some ⟨b8,0,none⟩)),(116,.int .i64 (N.syns.length:Int)),(117,.int .i64 (z.1.1:Int))])
  (fun z=>[.row b4 57 [.slice none 0 0,.int .i64 0,.slice none 0 0,.slice none 0 0,.slice none 0 0,.slice none 0 0,.bool false],.row b8 57 [.slice yp N.ps.length ycp,.int .i64 N.inputs,.slice ys N.syns.length ycs,.slice (some ⟨gz,0,none⟩) N.ps.length cz,.slice z.2.1 z.1.1 z.2.2,.slice (some ⟨be,0,none⟩) N.ps.length N.ps.length,.bool z.1.2],.vec yp N.ps.length ycp 140 8 (bQ1 bH3 N.ps),.vec ys N.syns.length ycs 154 4 (bQ1 bP1 (hY9 Z N.syns z.1.1)),.vec (some ⟨gz,0,none⟩) N.ps.length cz 3 1 (bQ1 bQ6 Z),.vec z.2.1 z.1.1 z.2.2 3 1 (bQ1 bQ6 ((N.syns.take z.1.1).map (bL1 Z))),.vec (some ⟨be,0,none⟩) N.ps.length N.ps.length 3 1 (bQ1 bQ6 (fZ9 Z (N.syns.take z.1.1) N.ps.length))]) (fun z=>N.syns.length - z.1.1) ((0,true),none,0) ⟨by dsimp only;omega,by simp⟩ aE (by dsimp only;rw [List.take_zero,hP8];exact aH) ?_
 rintro ⟨⟨j2,ex⟩,pq,cq⟩ ⟨hj2,hex⟩
 dsimp only at hj2 hex ⊢
 rcases qy j2 N.syns.length with hlt3|hge3
 rotate_left
 ·have hjN:j2=N.syns.length:=by omega
  subst hjN
  rw [Qk] at hex ⊢
  have hmid:hY9 Z N.syns N.syns.length=N.syns.map (fN7 Z):=by
   unfold hY9
   rw [Qk,List.drop_length,qC]
  have e1:(fZ9 Z N.syns N.ps.length).length=N.ps.length:=by unfold fZ9;simp
  rw [hmid]
  repeat' (conv=>whnf);first|(refine VSeq.go ?_)|(refine VB.is ?_;refine bX5 (by omega) fun _=>?_)|(refine VB.is ?_;refine bZ2 (by omega) fun _=>?_)|(refine VLd.is ?_;refine VLd.mk (.row aT (by rfl)) ?_)|(refine VSt.is ?_;refine VSt.row aT (by rfl) (by first|rfl|assumption) ?_)
  all_goals (conv=>whnf)
  refine ⟨fun w' hw'=>⟨⟨yp,ycp,ys,ycs,some ⟨gz,0,none⟩,cz,pq,cq,some ⟨be,0,none⟩,N.ps.length⟩,?_,trivial,?_⟩⟩
  ·rw [hres,hq0]
   unfold cF6
   dsimp only
   rw [qv,qv,hZl,e1,<-hex]
   rfl
  ·rw [hres]
   unfold cM4
   dsimp only
   rw [qv,qv,hZl,e1]
   exact hw'.le aH
 obtain ⟨s,hs⟩:=h2.get hlt3
 have hsm:=qz hs
 have hwt:=hwts s hsm
 obtain ⟨t,z,hte,htl,hzt,hz1,hqe,hok⟩:=hqb s hsm
 obtain ⟨gs,hgs⟩:=hys (by omega)
 subst hgs
 have hmg:=kJ8 (Z:=Z) hs
 have hms:=kJ6 (Z:=Z) hs
 have herr:(fZ9 Z (N.syns.take j2) N.ps.length)[t]? =some (kY2 Z (N.syns.take j2) t):=bL0 htl
 have hen:=gT4 (Z:=Z) (l:=N.syns.take j2) htl hte
 rw [<-cK3 hs] at hen
 have hns:=cK3 hs
 unfold okQ at hok
 have hoff:gS9 Z s=max (s.wt - bG4 s.wt z*z) (-(s.wt - bG4 s.wt z*z)):=by
  unfold gS9
  rw [hqe,hte,jf,hzt];rfl
 have hsq:fN7 Z s=⟨s.frm,s.to,bG4 s.wt z*z,s.dl⟩:=by
  unfold fN7
  rw [hqe,hte,jf,hzt];rfl
 have hdec:((N.syns.take (j2+1)).all fun u=>decide (gS9 Z u=0))=(ex&&decide (gS9 Z s=0)):=by
  rw [hns,List.all_append,<-hex]
  simp
 obtain ⟨q,hq⟩:=gX (bG4 s.wt z)
 rw [hq] at hqe hok hoff hsq
 obtain ⟨m,hm⟩:=gX (q*z)
 rw [hm] at hok hoff hsq
 rw [<-Int.zero_sub] at hoff
 have hup:upd (bP1 s) 2 [.int .i64 m]=some (bP1 (fN7 Z s)):=by rw [hsq];rfl
 have hmg2:((hY9 Z N.syns j2).set j2 (fN7 Z s))[j2]? =some (fN7 Z s):=QZ (by rw [kJ7 _ _ hj2];exact hlt3)
 repeat' (conv=>whnf);first|(refine VIx.is ?_;refine VIx.mk rfl (by omega) (by omega) ?_)|(refine VLd.is ?_;refine oC (.vec aT (bT7 (f:=bP1) (k:=4) (o:=2) (s:=1) (fun _=>rfl) hmg rfl)) ?_)|(refine VLd.is ?_;refine oC (.vec aT (bT7 (f:=bP1) (k:=4) (o:=1) (s:=1) (fun _=>rfl) hmg rfl)) ?_)|(refine VLd.is ?_;refine oC (.vec aT (bT7 (f:=bP1) (k:=4) (o:=1) (s:=1) (vs:=[.int .i64 s.to]) (fun _=>rfl) hmg2 rfl)) ?_)|(refine VLd.is ?_;refine oC (.vec aT (bQ8 (f:=bQ6) (k:=1) (fun _=>rfl) hzt rfl)) ?_)|(refine VLd.is ?_;refine oC (.vec aT (bQ8 (f:=bQ6) (k:=1) (fun _=>rfl) herr rfl)) ?_)|(refine bQ0 83 ?_;(refine bQ4 (fun w' _=>dF1 _ z (by omega) (by omega) w') ?_;rw [hq]))|(refine bQ0 84 ?_;refine VCall.inl (F:=mJ5) Tryz.func84 rfl rfl rfl mW7 ?_)|(refine VAr.is ?_;refine VAr.is ?_;refine VAr.mul hm (by omega) (by omega) ?_)|(refine VAp.is ?_;refine VAp.own aT (.at_ (.vec aT rfl)) (by simp [Value.oneCell']) (by (try dsimp only);omega) (by simp only [maxLen];omega) fun p' cap' hp'=>?_)|(refine VSt.is ?_;refine VSt.cast (off':=j2*4+2) (by first|omega|(dsimp only;omega)) (VSt.vec aT (dZ9 (f:=bP1) (k:=4) (o:=2) (fun _=>rfl) hmg hup) rfl ?_))|(refine VSt.is ?_;refine VSt.cast (off':=t*1) (by first|omega|(dsimp only;omega)) (VSt.vec aT (bZ9 (f:=bQ6) (k:=1) (fun _=>rfl) herr rfl) rfl ?_))|(refine VSeq.go ?_)|(refine VB.is ?_;refine bX5 (by omega) fun _=>?_)|(refine VB.split (fun _=>?_) (fun _=>?_))|(refine bT0 (fun h=>?_) (fun h=>?_)<;>subst h)|(refine VLd.is ?_;refine VLd.mk (.row aT (by rfl)) ?_)|(refine VSt.is ?_;refine VSt.row aT (by rfl) (by first|rfl|assumption) ?_)|(refine VNew.mk fun _=>?_)|(refine VAr.is ?_;refine oA ?_)|(refine VHs.mk _ (.refl _) ?_)
 all_goals (conv=>whnf)
 all_goals first
  |(have hx:((N.syns.take (j2+1)).all fun u=>decide (gS9 Z u=0))=true:=(by rw [hdec,hoff,decide_eq_true (by omega)];rfl)
    refine VNext.mk ((j2+1,true),p',cap') ⟨by dsimp only;omega,hx.symm⟩ (by dsimp only;omega) aE ?_
    dsimp only
    rw [<-hms,hen,hns,ql,bQ7,qU,hqe,hoff]
    exact aH)
  |(have hx:((N.syns.take (j2+1)).all fun u=>decide (gS9 Z u=0))=false:=(by first|(rw [hdec];rfl)|(rw [hdec,hoff,decide_eq_false (by omega)];rfl))
    refine VNext.mk ((j2+1,false),p',cap') ⟨by dsimp only;omega,hx.symm⟩ (by dsimp only;omega) aE ?_
    dsimp only
    rw [<-hms,hen,hns,ql,bQ7,qU,hqe,hoff]
    exact aH)
  |trace_state
end Go.Proofs
