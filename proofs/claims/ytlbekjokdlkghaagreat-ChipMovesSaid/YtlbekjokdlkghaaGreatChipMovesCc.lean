import Derived.Test.YtlbekjokdlkghaaGreatChipMovesQw
import Derived.Test.YtlbekjokdlkghaaGreatChipMovesMz
import Derived.Test.YtlbekjokdlkghaaGreatChipMovesYa
import Derived.Test.YtlbekjokdlkghaaGreatChipMovesNb
import Derived.Test.YtlbekjokdlkghaaGreatChipMovesNa
set_option linter.unusedVariables false
set_option linter.unusedSimpArgs false
set_option maxHeartbeats 4000000
section
namespace Go.Gm
def kN6 (w s:Int):Int:=(2*max w (-w)+s - 1) / (2*s)
def hN5 (w s half:Int):Prop:=(0<w/\half<=kN6 w s)\/(w<0/\half<kN6 w s)\/32768<kN6 w s*s
instance (w s half:Int):Decidable (hN5 w s half):=by unfold hN5;infer_instance
end Go.Gm
end

section
namespace Go.Gm
theorem hQ1 {cores:List Int}{i:Nat}{k:Int}(h:cores[i]? =some k)(j:Int):cQ4 (cores.take (i+1)) j=cQ4 (cores.take i) j+if k=j then 1 else 0:=by
 rw [qi,h,qW,dV3]
theorem kQ3 {cores:List Int}{i:Nat}{k:Int}(h:cores[i]? =some k):(bM0 cores)[i]? =some (cQ4 (cores.take i) k:Int):=by
 have hlt:=(qx.1 h).1
 unfold bM0
 rw [qj,qX hlt,qV]
 unfold cD8
 rw [h];rfl
end Go.Gm
end

section
namespace Go.Gm
theorem kT4 {x y:Int}(hx:0<=x/\x<32)(hy:0<=y/\y<32)(h:∀b,bC8 b->(bH9 x b<->bH9 y b)):x=y:=by
 have h1:=h 1 (.inl rfl)
 have h2:=h 2 (.inr (.inl rfl))
 have h4:=h 4 (.inr (.inr (.inl rfl)))
 have h8:=h 8 (.inr (.inr (.inr (.inl rfl))))
 have h16:=h 16 (.inr (.inr (.inr (.inr rfl))))
 obtain ⟨a,rfl⟩:=Int.eq_ofNat_of_zero_le hx.1
 obtain ⟨c,rfl⟩:=Int.eq_ofNat_of_zero_le hy.1
 have ha:a<32:=by omega
 have hc:c<32:=by omega
 unfold bH9 at h1 h2 h4 h8 h16
 simp only [jf] at h1 h2 h4 h8 h16
 have key:∀a c:Fin 32,decide (a.val&&&1≠0)=decide (c.val&&&1≠0)->decide (a.val&&&2≠0)=decide (c.val&&&2≠0)->decide (a.val&&&4≠0)=decide (c.val&&&4≠0)->decide (a.val&&&8≠0)=decide (c.val&&&8≠0)->decide (a.val&&&16≠0)=decide (c.val&&&16≠0)->a=c:=by decide+kernel
 have:=key ⟨a,ha⟩ ⟨c,hc⟩ (decide_eq_decide.2 h1) (decide_eq_decide.2 h2) (decide_eq_decide.2 h4) (decide_eq_decide.2 h8) (decide_eq_decide.2 h16)
 rw [Fin.mk.injEq] at this
 rw [this]
theorem hQ4 {W H src:Int}(hW:0<W)(hs:0<=src/\src<W*H){a b:List Int}(ha:∀t∈a,0<=t/\t<W*H)(hab:∀t,t∈a<->t∈b):dV7 W (W*H).toNat src a=dV7 W (W*H).toNat src b:=by
 have hb:∀t∈b,0<=t/\t<W*H:=fun t ht=>ha t ((hab t).2 ht)
 have la:=bW2 W (W*H).toNat src a
 have lb:=bW2 W (W*H).toNat src b
 apply List.ext_getElem (by rw [la,lb])
 intro i h1 h2
 refine kT4 (tree_ok W _ src a _ (Qu h1)) (tree_ok W _ src b _ (Qu h2)) fun o ho=>?_
 have e1:=dS8 (q:=(i:Int)) hW hs ho qZ ha
 have e2:=dS8 (q:=(i:Int)) hW hs ho qZ hb
 unfold hB6 at e1 e2
 rw [jf,qq h1,qY] at e1
 rw [jf,qq h2,qY] at e2
 rw [e1,e2]
 constructor
 ·rintro ⟨t,h3,h4⟩;exact ⟨t,(hab t).1 h3,h4⟩
 ·rintro ⟨t,h3,h4⟩;exact ⟨t,(hab t).2 h3,h4⟩
def cN3 (x:Int):Int:=((x.toNat&&&(x.toNat - 1):Nat):Int)
theorem hF1 {x:Int}(hx:0<x/\x<16):0<=cN3 x/\cN3 x<x/\cX5 (cN3 x)+1=cX5 x:=by
 obtain ⟨a,rfl⟩:=Int.eq_ofNat_of_zero_le (by omega:0<=x)
 have ha:a<16:=by omega
 have h0:0<a:=by omega
 have key:∀a:Fin 16,0<a.val->0<=cN3 (a.val:Int)/\cN3 (a.val:Int)<(a.val:Int)/\cX5 (cN3 (a.val:Int))+1=cX5 (a.val:Int):=by decide+kernel
 exact key ⟨a,ha⟩ h0
theorem fL9 {x:Int}(hx:0<=x/\x<32):0<=bT1 x 16/\bT1 x 16<16/\cX5 (bT1 x 16)=cX5 x:=by
 obtain ⟨a,rfl⟩:=Int.eq_ofNat_of_zero_le hx.1
 have ha:a<32:=by omega
 have key:∀a:Fin 32,0<=bT1 (a.val:Int) 16/\bT1 (a.val:Int) 16<16/\cX5 (bT1 (a.val:Int) 16)=cX5 (a.val:Int):=by decide+kernel
 exact key ⟨a,ha⟩
theorem gC4:cX5 0=0:=by decide
end Go.Gm
namespace Go.Gm
open Go.Proofs
structure CelM where
 b:Nat
 id:Int
 p:Par
 z:Int
 s:Sta
 due:List Int
def cF9 (cs:List CelM)(j:Nat):List Int:=cs.map fun c=>c.due[j]?.getD 0
def smC (cs:List CelM):Sm:=⟨cs.map (·.s),(List.range 16).map (cF9 cs)⟩
def cS8 (cs:List CelM):Prop:=∀c∈cs,c.due.length=16
def fJ8 (t:Nat)(s:Syn)(c:CelM):CelM:={c with due:=c.due.modify ((t+s.dl.toNat)%16) fun a=>wadd a s.wt}
def cG7 (t:Nat)(cs:List CelM)(s:Syn):List CelM:=cs.modify s.to.toNat (fJ8 t s)
def bY0 (t:Nat)(c:CelM):CelM:={c with s:=(tick c.p c.s (c.due[t%16]?.getD 0)).1,due:=c.due.set (t%16) 0}
def bD6 (t:Nat)(cs:List CelM):List CelM:=cs.map (bY0 t)
def cF (t:Nat)(cs:List CelM):List (Sta×Bool):=fire (cs.map (·.p)) (cs.map (·.s)) (cF9 cs (t%16))
theorem fR0 (cs:List CelM){j:Nat}(hj:j<16):(smC cs).D[j]? =some (cF9 cs j):=by
 unfold smC
 rw [qj,qX hj];rfl
theorem gB3 {t:Nat}{cs:List CelM}(h:cS8 cs)(s:Syn):cS8 (cG7 t cs s):=by
 intro c hc
 obtain ⟨i,hi⟩:=jh hc
 unfold cG7 at hi
 rw [qS] at hi
 cases hd:cs[i]? with
 |none=>rw [hd] at hi;cases hi
 |some d=>
  rw [hd] at hi
  have:=h d (qz hd)
  simp only [Option.map_eq_map,qV,qK] at hi
  split at hi<;>subst hi
  ·show (d.due.modify _ _).length=16
   rw [List.length_modify];exact this
  ·exact this
theorem hM5 {t:Nat}{cs:List CelM}(h:cS8 cs)(s:Syn)(j:Nat)(hj:j<16):cF9 (cG7 t cs s) j=if (t+s.dl.toNat)%16=j then (cF9 cs j).modify s.to.toNat fun a=>wadd a s.wt else cF9 cs j:=by
 apply qp
 intro i
 unfold cF9 cG7
 rw [qj,qS]
 cases hd:cs[i]? with
 |none=>
  by_cases h2:(t+s.dl.toNat)%16=j
  ·rw [jw h2,qS,qj,hd];rfl
  ·rw [jk h2,qj,hd];rfl
 |some d=>
  have h16:=h d (qz hd)
  obtain ⟨a,ha⟩:∃a,d.due[j]? =some a:=⟨_,qq qZ⟩
  by_cases h1:s.to.toNat=i<;>by_cases h2:(t+s.dl.toNat)%16=j
  ·subst h2
   simp [h1,hd,fJ8,ha]
  ·simp [h1,h2,hd,fJ8]
  ·subst h2
   simp [h1,hd]
  ·simp [h1,h2,hd]
theorem kQ2 {t:Nat}{cs:List CelM}(h:cS8 cs)(s:Syn):smC (cG7 t cs s)=⟨(smC cs).sts,fJ1 t (smC cs).D s⟩:=by
 have e1:(cG7 t cs s).map (·.s)=cs.map (·.s):=by
  apply qp
  intro i
  unfold cG7
  rw [qj,qS,qj]
  cases cs[i]? with
  |none=>rfl
  |some d=>
   by_cases h1:s.to.toNat=i<;>simp [h1,fJ8]
 have e2:(List.range 16).map (cF9 (cG7 t cs s))=fJ1 t ((List.range 16).map (cF9 cs)) s:=by
  unfold fJ1
  apply qp
  intro j
  rw [qj,qS,qj]
  rcases qy j 16 with hj|hj
  ·rw [qX hj,qV,qV,hM5 h s j hj]
   by_cases h1:(t+s.dl.toNat)%16=j<;>simp [h1]
  ·rw [qf (by simp;omega)];rfl
 unfold smC
 rw [e1,e2]
theorem dB8 {t:Nat}:∀(l:List Syn) {cs:List CelM},cS8 cs->cS8 (l.foldl (cG7 t) cs)
 |[],_,h=>h
 |s::l,_,h=>dB8 l (gB3 h s)
theorem fY1 {t:Nat}:∀(l:List Syn) {cs:List CelM},cS8 cs->smC (l.foldl (cG7 t) cs)=⟨(smC cs).sts,l.foldl (fJ1 t) (smC cs).D⟩
 |[],_,_=>rfl
 |s::l,cs,h=>by
  rw [Qp,fY1 l (gB3 h s),kQ2 h s];rfl
theorem kD3 {t:Nat}{cs:List CelM}{i:Nat}{c:CelM}(h:cs[i]? =some c):(cF t cs)[i]? =some (tick c.p c.s (c.due[t%16]?.getD 0)):=by
 unfold cF
 refine fZ5 ?_ ?_ ?_
 ·rw [qj,h];rfl
 ·rw [qj,h];rfl
 ·unfold cF9;rw [qj,h];rfl
theorem fM4 (t:Nat)(cs:List CelM):(cF t cs).length=cs.length:=by
 unfold cF
 rw [cP0 oU (by simp [cF9])]
 simp
theorem dB6 {t:Nat}{cs:List CelM}(h:cS8 cs):cS8 (bD6 t cs):=by
 intro c hc
 obtain ⟨d,hd,rfl⟩:=qo.1 hc
 show (d.due.set _ _).length=16
 rw [QH];exact h d hd
theorem hJ1 {t:Nat}{cs:List CelM}(h:cS8 cs):smC (bD6 t cs)=⟨(cF t cs).map (·.1),(smC cs).D.modify (t%16) fun l=>List.replicate l.length 0⟩:=by
 have e1:(bD6 t cs).map (·.s)=(cF t cs).map (·.1):=by
  apply qp
  intro i
  unfold bD6
  rw [List.map_map,qj,qj]
  cases hd:cs[i]? with
  |none=>rw [qf (by rw [fM4];exact jz.1 hd)];rfl
  |some d=>rw [kD3 hd];rfl
 have e2:(List.range 16).map (cF9 (bD6 t cs))=((List.range 16).map (cF9 cs)).modify (t%16) fun l=>List.replicate l.length 0:=by
  apply qp
  intro j
  rw [qj,qS,qj]
  rcases qy j 16 with hj|hj
  ·rw [qX hj,qV,qV]
   by_cases h1:t%16=j
   ·subst h1
    simp only [jw,Option.map_eq_map,qV,qK]
    apply qp
    intro i
    unfold cF9 bD6
    rw [List.map_map,qj,QB,qv]
    cases hd:cs[i]? with
    |none=>rw [jk (by have:=jz.1 hd;omega)];rfl
    |some d=>
     have h16:=h d (qz hd)
     rw [jw (qx.1 hd).1]
     simp only [qV,Function.comp,bY0]
     rw [QZ qZ];rfl
   ·simp only [jk h1,Option.map_eq_map,qV,qK,id]
    apply qp
    intro i
    unfold cF9 bD6
    rw [List.map_map,qj,qj]
    cases hd:cs[i]? with
    |none=>rfl
    |some d=>simp only [qV,Function.comp,bY0];rw [List.getElem?_set_ne h1]
  ·rw [qf (by simp;omega)];rfl
 unfold smC
 rw [e1,e2]
def dZ1 {α:Type}(f:α->α)(l:List α)(i:Nat):List α:=(l.map f).take i++l.drop i
theorem fH2 {α:Type}(f:α->α)(l:List α):dZ1 f l 0=l:=rfl
theorem gG2 {α:Type}(f:α->α)(l:List α):dZ1 f l l.length=l.map f:=by
 unfold dZ1
 rw [List.drop_length,qC,qe oU]
theorem gG0 {α:Type}(f:α->α)(l:List α)(i:Nat):(dZ1 f l i).length=l.length:=by
 unfold dZ1
 rw [qw,qh,qv,Qs];omega
theorem gG1 {α:Type}{f:α->α}{l:List α}{i:Nat}{a:α}(h:l[i]? =some a):(dZ1 f l i)[i]? =some a:=by
 have hi:=(qx.1 h).1
 unfold dZ1
 rw [Qr (by rw [qh];omega),qh,qv,Qy]
 rw [show i+(i - min i l.length)=i by omega,h]
theorem gY9 {α:Type}{f:α->α}{l:List α}{i:Nat}{a:α}(h:l[i]? =some a):(dZ1 f l i).set i (f a)=dZ1 f l (i+1):=by
 have hi:=(qx.1 h).1
 have ha:=(qx.1 h).2
 unfold dZ1
 rw [List.set_append,jk (by rw [qh,qv];omega),qh,qv]
 rw [show i - min i l.length=0 by omega,qG hi,List.set_cons_zero,qi,qj,h]
 simp
def bP8 (cores:List Int)(m:Nat)(k:Int):List Nat:=(List.range m).filter fun i=>decide (cores[i]? =some k)
def bH5 (cores:List Int)(k:Int):List Nat:=bP8 cores cores.length k
theorem cW9 (cores:List Int){m:Nat}{c:Int}(h:cores[m]? =some c)(k:Int):bP8 cores (m+1) k=bP8 cores m k++if c=k then [m] else []:=by
 unfold bP8
 rw [Qz,Qa]
 congr 1
 by_cases h1:c=k<;>simp [h,h1]
theorem cP3 (cores:List Int)(k:Int):∀m,m<=cores.length->(bP8 cores m k).length=cQ4 (cores.take m) k
 |0,_=>by simp [bP8,cQ4]
 |m+1,h=>by
  have hc:cores[m]? =some cores[m]:=qq qZ
  rw [cW9 cores hc,qw,cP3 cores k m qZ,hQ1 hc]
  split<;>simp
theorem dX5 {cores:List Int}{k:Int}{i:Nat}(h:cores[i]? =some k):∀m,i<m->m<=cores.length->(bP8 cores m k)[cQ4 (cores.take i) k]? =some i
 |0,h1,_=>absurd h1 qZ
 |m+1,h1,h2=>by
  have hc:cores[m]? =some cores[m]:=qq qZ
  rw [cW9 cores hc]
  rcases qy i m with h3|h3
  ·have ih:=dX5 h m h3 qZ
   rw [QY (qx.1 ih).1,ih]
  ·have:i=m:=by omega
   subst this
   rw [h] at hc
   have hck:cores[i]=k:=(Option.some.inj hc).symm
   rw [jw hck,Qr (by rw [cP3 _ _ _ qZ];omega),cP3 _ _ _ qZ,jx]
   rfl
theorem fM3 {cores:List Int}{k:Int}{i:Nat}(h:cores[i]? =some k):(bH5 cores k)[cQ4 (cores.take i) k]? =some i:=
 dX5 h _ (qx.1 h).1 (qA _)
theorem gS0 {cores:List Int}{m:Nat}{k:Int}{i:Nat}(h:i∈bP8 cores m k):i<m/\cores[i]? =some k:=by
 unfold bP8 at h
 rw [qP,qL,jy] at h
 exact h
end Go.Gm
end

section
namespace Go.Gm
open Go.Proofs
theorem cT6:∀(F:List (Sta×Bool)) (k:Nat) (x:Int),x∈bW8 k F->(k:Int)<=x/\x<k+F.length
 |[],_,_,h=>by simp [bW8] at h
 |y::F,k,x,h=>by
  have ih:=cT6 F (k+1) x
  unfold bW8 at h
  rw [qR]
  split at h
  ·rcases qQ.1 h with rfl|h
   ·omega
   ·have:=ih h;omega
  ·have:=ih h;omega
theorem cD6:∀(F:List (Sta×Bool)) (k:Nat),(bW8 k F).Pairwise (· <·)
 |[],_=>by simp [bW8]
 |y::F,k=>by
  have ih:=cD6 F (k+1)
  unfold bW8
  split
  ·refine List.pairwise_cons.2 ⟨fun x hx=>?_,ih⟩
   have:=cT6 F (k+1) x hx
   omega
  ·exact ih
theorem cT5 {F:List (Sta×Bool)}{x:Int}(h:x∈spk F):0<=x/\x<F.length:=by
 have:=cT6 F 0 x h
 omega
theorem cS5 {l:List Int}(h:l.Pairwise (· <·)):l.Nodup:=h.imp fun h=>by omega
structure Wrk where
 ticks:Int
 updates:Int
 spikes:Int
 packets:Int
 hops:Int
 arrivals:Int
 rows:Int
 steps:Int
 most:Int
deriving DecidableEq
def hR6:Wrk:=⟨0,0,0,0,0,0,0,0,0⟩
def bJ6 (N:Net)(C:Chp):List Syn:=N.syns.map (fN7 (bX2 N (bW6 C.bits)))
def cP8 (N:Net)(C:Chp):Net:=⟨N.ps,N.inputs,bJ6 N C⟩
def bW4 (N:Net)(C:Chp)(cores:List Int):Nat:=dN7 C.mesh.wide (bQ5 N C cores) (bJ2 N cores) (bX7 N C cores) (bX4 N C cores)
def stT (N:Net)(C:Chp)(cores:List Int):Nat:=min (bW4 N C cores) 10000
def bJ8 (N:Net)(spikes ins:List Int)(key:Int):Bool:=if key<N.ps.length then decide (key∈spikes) else decide (key - N.ps.length∈ins)
def cJ2 (A:List (Nat×Nat×Nat)):Nat:=(A.map fun a=>a.2.2+1).foldl max 0
def bZ7 (N:Net)(C:Chp)(cores:List Int)(ks:List Int):Nat:=(ks.map fun k=>bK7 (bQ5 N C cores k)).sum
def bY4 (N:Net)(C:Chp)(cores:List Int)(L:List Syn)(sends:Int->Bool)(T w:Nat):List Syn:=(List.range w).flatMap fun i=>bF4 N cores L (bF8 N C cores sends i) (cF4 N C cores sends T i).arr
def bK8 (N:Net)(C:Chp)(cores:List Int)(sends:Int->Bool)(T w:Nat):Nat:=((List.range w).map fun i=>(cF4 N C cores sends T i).arr.length).sum
def bM2 (N:Net)(C:Chp)(cores:List Int)(sends:Int->Bool)(T w:Nat):Nat:=((List.range w).map fun i=>cJ2 (cF4 N C cores sends T i).arr).sum
theorem bT3 (N:Net)(C:Chp)(cores:List Int)(L:List Syn)(sends:Int->Bool)(T w:Nat):bY4 N C cores L sends T (w+1)=bY4 N C cores L sends T w++bF4 N cores L (bF8 N C cores sends w) (cF4 N C cores sends T w).arr:=by
 unfold bY4
 rw [Qz,QK,List.flatMap_singleton]
theorem bT2 (N:Net)(C:Chp)(cores:List Int)(sends:Int->Bool)(T w:Nat):bK8 N C cores sends T (w+1)=bK8 N C cores sends T w+(cF4 N C cores sends T w).arr.length:=by
 unfold bK8
 rw [Qz,ql,List.sum_append,qU,List.sum_singleton]
theorem cX6 (N:Net)(C:Chp)(cores:List Int)(sends:Int->Bool)(T w:Nat):bM2 N C cores sends T (w+1)=bM2 N C cores sends T w+cJ2 (cF4 N C cores sends T w).arr:=by
 unfold bM2
 rw [Qz,ql,List.sum_append,qU,List.sum_singleton]
structure Mac where
 t:Nat
 cs:List CelM
 w:Wrk
def bY8 (N:Net)(C:Chp)(cores:List Int)(sends:Int->Bool):List Syn:=bY4 N C cores (bJ6 N C) sends (stT N C cores) (bX4 N C cores).length
def cB7 (N:Net)(C:Chp)(cores:List Int)(sends:Int->Bool):Nat:=bK8 N C cores sends (stT N C cores) (bX4 N C cores).length
def bS2 (N:Net)(C:Chp)(cores:List Int)(sends:Int->Bool):Nat:=bM2 N C cores sends (stT N C cores) (bX4 N C cores).length
def lW0 (N:Net)(C:Chp)(cores:List Int)(w:Wrk)(n:Nat)(sends:Int->Bool):Wrk:=
 ⟨w.ticks+1,w.updates+N.ps.length,w.spikes+n,w.packets+((bX0 N).filter sends).length,w.hops+bZ7 N C cores ((bX0 N).filter sends),w.arrivals+cB7 N C cores sends,w.rows+(bY8 N C cores sends).length,w.steps+bS2 N C cores sends,max w.most (bS2 N C cores sends)⟩
def bZ0 (m:Mac):List Int:=spk (cF m.t m.cs)
def bH4 (N:Net)(C:Chp)(cores:List Int)(m:Mac)(ins:List Int):Mac:=
 ⟨m.t+1,(bY8 N C cores (bJ8 N (bZ0 m) ins)).foldl (cG7 m.t) (bD6 m.t m.cs),lW0 N C cores m.w (bZ0 m).length (bJ8 N (bZ0 m) ins)⟩
section
variable {N : Net} {C : Chp} {cores : List Int}
theorem cM5 {s:Syn}(h:s∈bJ6 N C):∃x∈N.syns,x.frm=s.frm/\x.to=s.to/\x.dl=s.dl:=by
 obtain ⟨x,hx,rfl⟩:=qo.1 h
 exact ⟨x,hx,rfl,rfl,rfl⟩
theorem kX3 (hA:AsgOk N C cores):∀s∈bJ6 N C,0<=s.to/\s.to<N.ps.length:=fun s hs=>by
 obtain ⟨x,hx,_,h2,_⟩:=cM5 hs
 have:=(hA.plan.net.syns x hx).2.1
 omega
theorem hV5:∀s∈bJ6 N C,∃x∈N.syns,bG1 N x.frm=bG1 N s.frm/\x.to=s.to:=fun s hs=>by
 obtain ⟨x,hx,h1,h2,_⟩:=cM5 hs
 exact ⟨x,hx,by rw [h1],h2⟩
theorem hX8 {α:Type}{f:α->Nat}:∀{l:List α} {a:α},a∈l->f a<=(l.map f).sum
 |b::l,a,h=>by
  rw [qI,List.sum_cons]
  rcases qQ.1 h with rfl|h
  ·omega
  ·have:=hX8 (f:=f) h;omega
theorem lZ8 (hA:AsgOk N C cores){w:Nat}(hw:w<(bX4 N C cores).length):1<=wvL N C cores w:=by
 obtain ⟨l,hl⟩:∃l,(bX4 N C cores)[w]? =some l:=⟨_,qq hw⟩
 have hT:wvT N C cores w=l:=by unfold wvT;rw [hl];rfl
 have hmem:=qz hl
 have hne:l≠[]:=fC5 (bX0 N) [] oU l hmem
 obtain ⟨key,hk⟩:=List.exists_mem_of_ne_nil l hne
 have hkm:=bD8.1 ⟨l,hmem,hk⟩
 obtain ⟨t,ht⟩:=gQ5 hA hkm
 have hk0:=(bF0 hkm).1.1
 have htr:=cG4 hA ht
 have hh:=(dZ7 hA hk0 (r:=t.toNat)).2 (by rw [Ql htr.1];exact ht)
 have h1:1<=bS5 (l.map (bQ5 N C cores)) (t,bK1 4):=by
  unfold bS5
  refine Nat.succ_le_of_lt (List.countP_pos_iff.2 ⟨bQ5 N C cores key,qo.2 ⟨key,hk,rfl⟩,?_⟩)
  simpa using hh
 unfold wvL
 rw [hT]
 exact Qb h1 ((bP4 _).le _ ⟨htr.1,.inr (.inr (.inr (.inr rfl)))⟩)
theorem gV7 (hA:AsgOk N C cores):∀w,w<(bX4 N C cores).length->(wvD N C cores w+1)*wvL N C cores w<=stT N C cores/\0<stT N C cores:=by
 intro w hw
 obtain ⟨l,hl⟩:∃l,(bX4 N C cores)[w]? =some l:=⟨_,qq hw⟩
 have hT:wvT N C cores w=l:=by unfold wvT;rw [hl];rfl
 obtain ⟨_,h1,h2⟩:=lZ9 hA hw
 have h3:(wvD N C cores w+1)*wvL N C cores w<=15*64:=Nat.mul_le_mul qZ h1
 have h4:(wvD N C cores w+1)*wvL N C cores w<=bW4 N C cores:=by
  unfold bW4 dN7 wvD wvL
  rw [hT]
  exact hX8 (f:=fun w=>(bW9 C.mesh.wide (bJ2 N cores) (bX7 N C cores) w+1)*bJ7 (w.map (bQ5 N C cores))) (qz hl)
 have h5:=lZ8 hA hw
 have h6:1*1<=(wvD N C cores w+1)*wvL N C cores w:=Nat.mul_le_mul qZ h5
 unfold stT
 omega
theorem cK5 (hA:AsgOk N C cores)(sends:Int->Bool){w:Nat}(hw:w<(bX4 N C cores).length):RunDone (gW4 N C cores sends w) (cF4 N C cores sends (stT N C cores) w):=
 gW3 hA sends hw (gV7 hA w hw).1 (gV7 hA w hw).2
theorem gW1 (hA:AsgOk N C cores){sends:Int->Bool}{w:Nat}(hw:w<(bX4 N C cores).length)(h:bF8 N C cores sends w=[]):(cF4 N C cores sends (stT N C cores) w).arr=[]:=by
 have hd:=cK5 hA sends hw
 cases e:(cF4 N C cores sends (stT N C cores) w).arr with
 |nil=>rfl
 |cons a l=>
  obtain ⟨p,r,t⟩:=a
  have:=(hd.ar p r t (by rw [e];exact qg)).1
  have hl:(gW4 N C cores sends w).pk.length=(bF8 N C cores sends w).length:=qv _
  rw [hl,h] at this
  exact absurd this oU
theorem hQ5 (hA:AsgOk N C cores){L:List Syn}{sends:Int->Bool}{m:Nat}:∀(w:Nat),m<=w->w<=(bX4 N C cores).length->(∀v,m<=v->bF8 N C cores sends v=[])->
  bY4 N C cores L sends (stT N C cores) w=bY4 N C cores L sends (stT N C cores) m/\bK8 N C cores sends (stT N C cores) w=bK8 N C cores sends (stT N C cores) m/\bM2 N C cores sends (stT N C cores) w=bM2 N C cores sends (stT N C cores) m
 |0,h1,_,_=>by
  have:m=0:=by omega
  subst this
  exact ⟨rfl,rfl,rfl⟩
 |w+1,h1,h2,h3=>by
  rcases qy w m with h4|h4
  ·have:m=w+1:=by omega
   subst this
   exact ⟨rfl,rfl,rfl⟩
  ·obtain ⟨i1,i2,i3⟩:=hQ5 hA (L:=L) w h4 qZ h3
   have h5:=gW1 hA (by omega:w<(bX4 N C cores).length) (h3 w h4)
   rw [bT3,bT2,cX6,i1,i2,i3,h5]
   exact ⟨by simp [bF4],rfl,rfl⟩
theorem hJ5 (hA:AsgOk N C cores){spikes ins:List Int}(h1:∀x∈spikes,0<=x)(h2:∀x∈ins,0<=x):∀s∈bJ6 N C,bJ8 N spikes ins (bG1 N s.frm)=true<->s.frm∈spikes++ins.map fun k=> -1 - k:=by
 intro s hs
 obtain ⟨x,hx,hf,_,_⟩:=cM5 hs
 have hr:=(hA.plan.net.syns x hx).1
 unfold cT4 at hr
 rw [hf] at hr
 unfold bJ8 bG1
 rw [qH,qo]
 by_cases h0:s.frm<0
 ·rw [jw h0,jk qZ,jy]
  constructor
  ·intro h;exact .inr ⟨_,h,by omega⟩
  ·rintro (h|⟨k,h,hk⟩)
   ·have:=h1 _ h;omega
   ·rw [show (N.ps.length:Int) - 1 - s.frm - N.ps.length=k by omega];exact h
 ·rw [jk h0,jw qZ,jy]
  constructor
  ·intro h;exact .inl h
  ·rintro (h|⟨k,h,hk⟩)
   ·exact h
   ·have:=h2 _ h;omega
theorem dQ5 (hA:AsgOk N C cores){spikes ins:List Int}(hs:spikes.Pairwise (· <·))(hi:ins.Pairwise (· <·))(h1:∀x∈spikes,0<=x)(h2:∀x∈ins,0<=x):(bY8 N C cores (bJ8 N spikes ins)).Perm (bK5 (cJ7 (bJ6 N C)) (spikes++ins.map fun k=> -1 - k)):=by
 have hn:(spikes++ins.map fun k=> -1 - k).Nodup:=by
  rw [Qe]
  refine ⟨cS5 hs,List.Pairwise.map _ (fun a b h e=>?_) hi,?_⟩
  ·omega
  ·rintro a ha b hb rfl
   obtain ⟨k,hk,he⟩:=qo.1 hb
   have:=h1 _ ha
   have:=h2 _ hk
   omega
 by_cases hw:(bX4 N C cores).length=0
 ·have hks:bX0 N=[]:=by
   cases hk:bX0 N with
   |nil=>rfl
   |cons k l=>
    obtain ⟨a,ha,_⟩:=(bD8 (N:=N) (C:=C) (cores:=cores) (key:=k)).2 (by rw [hk];exact qg)
    rw [List.length_eq_zero_iff.1 hw] at ha
    cases ha
  have hno:bJ6 N C=[]:=by
   cases hq:bJ6 N C with
   |nil=>rfl
   |cons s l=>
    exfalso
    obtain ⟨x,hx,_,_⟩:=cM5 (C:=C) (s:=s) (by rw [hq];exact qg)
    have hr:=bL5 hA.plan.net hx
    have:bG1 N x.frm∈bX0 N:=by
     unfold bX0
     rw [qP,jy]
     exact ⟨qo.2 ⟨(bG1 N x.frm).toNat,qL.2 qZ,by omega⟩,x,hx,rfl⟩
    rw [hks] at this
    cases this
  have h3:bY8 N C cores (bJ8 N spikes ins)=[]:=by
   unfold bY8 bY4
   rw [hw];rfl
  rw [h3,hno]
  refine List.Perm.of_eq ?_
  have:∀l:List Int,bK5 (cJ7 []) l=[]:=fun l=>by
   unfold bK5
   rw [List.flatMap_eq_nil_iff]
   intro x _
   rfl
  rw [this]
 ·exact dL1 hA (kX3 hA) hV5 _ (fun w hw=>(gV7 hA w hw).1) (gV7 hA 0 qZ).2 hn (hJ5 hA h1 h2)
structure MacOk (N:Net) (m:Mac):Prop where
 ps:m.cs.map (·.p)=N.ps
 due:cS8 m.cs
 ids:∀(i:Nat) (c:CelM),m.cs[i]? =some c->c.id=(i:Int)
theorem MacOk.len {m:Mac}(h:MacOk N m):m.cs.length=N.ps.length:=by rw [<-h.ps,qv]
theorem mK6 {t:Nat}{cs:List CelM}(l:List Syn):(l.foldl (cG7 t) cs).map (·.p)=cs.map (·.p):=by
 induction l generalizing cs with
 |nil=>rfl
 |cons s l ih=>
  rw [Qp,ih]
  unfold cG7
  apply qp
  intro i
  rw [qj,qS,qj]
  cases cs[i]? with
  |none=>rfl
  |some d=>by_cases h1:s.to.toNat=i<;>simp [h1,fJ8]
theorem mK7 {t:Nat}{cs:List CelM}(l:List Syn):(l.foldl (cG7 t) cs).map (·.id)=cs.map (·.id):=by
 induction l generalizing cs with
 |nil=>rfl
 |cons s l ih=>
  rw [Qp,ih]
  unfold cG7
  apply qp
  intro i
  rw [qj,qS,qj]
  cases cs[i]? with
  |none=>rfl
  |some d=>by_cases h1:s.to.toNat=i<;>simp [h1,fJ8]
theorem mP7 {t:Nat}{cs:List CelM}(l:List Syn):(l.foldl (cG7 t) cs).map (·.b)=cs.map (·.b):=by
 induction l generalizing cs with
 |nil=>rfl
 |cons s l ih=>
  rw [Qp,ih]
  unfold cG7
  apply qp
  intro i
  rw [qj,qS,qj]
  cases cs[i]? with
  |none=>rfl
  |some d=>by_cases h1:s.to.toNat=i<;>simp [h1,fJ8]
theorem mP6 {t:Nat}{cs:List CelM}(l:List Syn):(l.foldl (cG7 t) cs).map (·.z)=cs.map (·.z):=by
 induction l generalizing cs with
 |nil=>rfl
 |cons s l ih=>
  rw [Qp,ih]
  unfold cG7
  apply qp
  intro i
  rw [qj,qS,qj]
  cases cs[i]? with
  |none=>rfl
  |some d=>by_cases h1:s.to.toNat=i<;>simp [h1,fJ8]
theorem MacOk.step {m:Mac}(h:MacOk N m)(C:Chp)(cores ins:List Int):MacOk N (bH4 N C cores m ins):=by
 refine ⟨?_,dB8 _ (dB6 h.due),fun i c hc=>?_⟩
 rotate_left
 ·have h1:=mK7 (t:=m.t) (bY8 N C cores (bJ8 N (bZ0 m) ins)) (cs:=bD6 m.t m.cs)
  have h2:=congrArg (fun l=>l[i]?) h1
  simp only [bD6,qj,List.map_map] at h2
  have h3:((bY8 N C cores (bJ8 N (bZ0 m) ins)).foldl (cG7 m.t) (m.cs.map (bY0 m.t)))[i]? =some c:=hc
  rw [h3] at h2
  cases hd:m.cs[i]? with
  |none=>rw [hd] at h2;cases h2
  |some d=>
   rw [hd] at h2
   have h4:=h.ids i d hd
   simp only [qV,qK,Function.comp,bY0] at h2
   rw [h2,h4]
 show ((bY8 N C cores (bJ8 N (bZ0 m) ins)).foldl (cG7 m.t) (bD6 m.t m.cs)).map (·.p)=N.ps
 rw [mK6,<-h.ps]
 unfold bD6
 rw [List.map_map]
 rfl
theorem fB1 {m:Mac}(h:MacOk N m):bZ0 m=bD3 (cP8 N C) m.t (smC m.cs):=by
 unfold bZ0 bD3 cF
 rw [fR0 _ (Nat.mod_lt _ qZ),h.ps]
 rfl
theorem cV8 {m:Mac}(h:MacOk N m){x:Int}(hx:x∈bZ0 m):0<=x/\x<N.ps.length:=by
 have:=cT5 hx
 rw [fM4,h.len] at this
 exact this
theorem gG5 (hA:AsgOk N C cores){m:Mac}(h:MacOk N m){ins:List Int}(hi:ins.Pairwise (· <·))(h2:∀x∈ins,0<=x):smC (bH4 N C cores m ins).cs=bP3 (cP8 N C) m.t (smC m.cs) ins:=by
 show smC ((bY8 N C cores (bJ8 N (bZ0 m) ins)).foldl (cG7 m.t) (bD6 m.t m.cs))=_
 rw [fY1 _ (dB6 h.due),hJ1 h.due,kG1 m.t (dQ5 hA (spikes:=bZ0 m) (cD6 _ 0) hi (fun x hx=>(cV8 h hx).1) h2)]
 unfold bP3
 have e1:fire (cP8 N C).ps (smC m.cs).sts ((smC m.cs).D[m.t%16]?.getD [])=cF m.t m.cs:=by
  rw [fR0 _ (Nat.mod_lt _ qZ)]
  unfold cF
  rw [h.ps];rfl
 rw [e1]
 rfl
end
end Go.Gm
end

section
namespace Go.Proofs
open Go Go.Vx Go.Gm
structure SlD (α:Type) where
 p:Option Addr
 c:Nat
 l:List α
def slV {α:Type}(d:SlD α):Value:=.slice d.p d.l.length d.c
def fR2 {α:Type}(d:SlD α):List Value:=[slV d]
def cat {α:Type}(Ls:List (SlD α)):List α:=Ls.flatMap (·.l)
theorem fJ7 {α:Type}{Ls:List (SlD α)}{i:Nat}{d:SlD α}(h:Ls[i]? =some d):cat (Ls.take (i+1))=cat (Ls.take i)++d.l:=by
 unfold cat
 rw [qi,h,qW,QK]
 simp
theorem cZ5 {α:Type}(Ls:List (SlD α))(i:Nat):(cat (Ls.take i)).length<=(cat Ls).length:=by
 have:cat Ls=cat (Ls.take i)++cat (Ls.drop i):=by unfold cat;rw [<-QK,QJ]
 rw [this,qw]
 omega
theorem cC2 (Ls:List (SlD Int))(hn:Ls.length<=1000)(hsz:(cat Ls).length<=1000000)(pp:Option Addr)(cc bb oo:Nat)(w:World)(hc:Sl w fR2 1 Ls pp Ls.length bb oo)(hs:∀d∈Ls,∃b off,Sl w bQ6 1 d.l d.p d.l.length b off):
  Calls Tryz.prog 52 #[.slice pp Ls.length cc] w fun e w'=>∃y:Option Addr×Nat,e=.returned (.slice y.1 (cat Ls).length y.2)/\(0<(cat Ls).length->∃g,y.1=some ⟨g,0,none⟩)/\St w [] [.vec y.1 (cat Ls).length y.2 3 1 (bQ1 bQ6 (cat Ls))] w':=by
 refine enter (C:=Tryz.cx) (F:=mH5) (args:=[_]) Tryz.func52 rfl rfl rfl ok52 (St.start w []) ?_
 repeat' (conv=>whnf);first|refine VSeq.go ?_|refine oN fun _=>?_
 all_goals (conv=>whnf)
 refine bF2 (α:=Nat) [1000000,0,2,9,10] rfl (fun i=>i<=Ls.length) (fun i K=>(11,.int .i64 (i:Int))::(3,.int .i64 ((cat (Ls.take i)).length:Int))::K) (fun _=>[]) (fun i=>Ls.length - i) 0 qZ aE aH ?_
 intro i hi
 rcases qy i Ls.length with hlt|hge
 ·obtain ⟨d,hd⟩:=hc.get hlt
  have hnx:=fJ7 hd
  have hle:=cZ5 Ls (i+1)
  rw [hnx,qw] at hle
  repeat' (conv=>whnf);first|(refine VIx.is ?_;refine VIx.mk (hc.ptr qZ) qZ qZ ?_)|(refine VLd.is ?_;refine oC (hc.rd0 oU oR hd rfl) ?_)|refine VSeq.go ?_|refine oY fun _=>?_|refine oN fun _=>?_|refine oA ?_
  all_goals (conv=>whnf)
  refine VNext.mk (i+1) qZ qZ ?_ aH
  rw [hnx,qw]
  exact aE
 ·rw [qe hge]
  by_cases h0:(cat Ls).length=0
  ·have hall:∀i,cat (Ls.take i)=[]:=fun i=>qF (by have:=cZ5 Ls i;omega)
   repeat' (conv=>whnf);first|(refine bQ0 107 ?_;refine VCall.inl (F:=kL9) Tryz.func107 rfl rfl rfl lV3 ?_)|refine VSeq.go ?_|refine oN fun _=>?_|refine oA ?_
   all_goals (conv=>whnf)
   refine bF2 (α:=Nat×Option Addr×Nat) [1000000,2,25,26] rfl (fun y=>y.1<=Ls.length) (fun y K=>(27,.int .i64 (y.1:Int))::(6,.slice y.2.1 (cat (Ls.take y.1)).length y.2.2)::K)
    (fun y=>[.vec y.2.1 (cat (Ls.take y.1)).length y.2.2 3 1 (bQ1 bQ6 (cat (Ls.take y.1)))]) (fun y=>Ls.length - y.1) (0,none,0) oU aE aH ?_
   rintro ⟨j,p,cap⟩ hj
   dsimp only at hj ⊢
   rcases qy j Ls.length with hltj|hgej
   ·obtain ⟨d,hd⟩:=hc.get hltj
    obtain ⟨b1,o1,hsl⟩:=hs d (qz hd)
    have hnx:=fJ7 hd
    have hle:=cZ5 Ls (j+1)
    rw [hnx,qw] at hle
    repeat' (conv=>whnf);first|(refine VIx.is ?_;refine VIx.mk (hc.ptr qZ) qZ qZ ?_)|(refine VLd.is ?_;refine oC (hc.rd0 (by simp) (fun _=>rfl) hd rfl) ?_)|(refine VAp.is ?_;refine VAp.own (p:=p) aT (hsl.src (by simp) (fun _=>rfl)) (bZ5 (by simp [bQ6,Value.oneCell'])) (by (try dsimp only);omega) (by simp only [maxLen];omega) fun p' cap' hp'=>?_)|refine VSeq.go ?_|refine oY fun _=>?_|refine oA ?_
    all_goals (conv=>whnf)
    refine VNext.mk (j+1,p',cap') (by dsimp only;omega) (by dsimp only;omega) ?_ ?_
    ·dsimp only;rw [hnx,List.length_append];exact aE
    ·dsimp only;rw [hnx,List.length_append,bQ7];exact aH
   ·rw [qe hgej]
    repeat' (conv=>whnf);first|refine VSeq.go ?_|refine oN fun _=>?_
    all_goals (conv=>whnf)
    exact ⟨fun w' hw'=>⟨(p,cap),rfl,fun h=>by omega,hw'.le aH⟩⟩
  ·have hz:=bV3 (f:=bQ6) (x:=(0:Int)) (cat Ls).length
   repeat' (conv=>whnf);first|(refine bQ0 107 ?_;refine VCall.inl (F:=kL9) Tryz.func107 rfl rfl rfl lV3 ?_)|(refine VSl.is ?_;refine cG9 (m:=0) (cap:=0) qZ ?_)|(refine VApZ.is ?_;refine VApZ.nil (m:=(cat Ls).length) rfl rfl rfl qZ qZ (by (try dsimp only);omega) (by simp only [maxLen];omega) fun b cap' hcap=>?_)|(refine VSl.is ?_;refine cG9 (m:=0) (cap:=cap') qZ ?_)|refine VSeq.go ?_|refine oY fun _=>?_|refine oN fun _=>?_|refine oA ?_
   all_goals (conv=>whnf)
   refine hC3 (α:=Nat×Option Addr×Nat) [1000000,2,25,26] rfl (fun y=>y.1<=Ls.length) (fun y K=>(27,.int .i64 (y.1:Int))::(6,.slice y.2.1 (cat (Ls.take y.1)).length y.2.2)::K)
    (fun y=>[.vec y.2.1 (cat (Ls.take y.1)).length y.2.2 3 1 (bQ1 bQ6 (cat (Ls.take y.1)))]) (fun y=>Ls.length - y.1) (0,some ⟨b,0,none⟩,cap') (fun y=>0<(cat (Ls.take y.1)).length->∃g,y.2.1=some ⟨g,0,none⟩) (fun y _ w hw=>(bB9 (hw _ (qg ..))).2.1) oU aE ?_ ?_
   ·have:=HLe.shr (f:=bQ6) (k:=1) (l:=List.replicate (cat Ls).length (0:Int)) (p:=some ⟨b,0,none⟩) (n:=(cat Ls).length) (m:=0) (cap:=cap') (e:=3) (H:=[.vec (some ⟨b,0,none⟩) (cat Ls).length cap' 3 1 (bQ1 bQ6 (List.replicate (cat Ls).length (0:Int)))]) (H':=[]) .here oR oU qZ .nil
    rw [<-hz] at this
    exact this
   rintro ⟨j,p,cap⟩ hj hptr
   dsimp only at hj hptr ⊢
   rcases qy j Ls.length with hltj|hgej
   ·obtain ⟨d,hd⟩:=hc.get hltj
    obtain ⟨b1,o1,hsl⟩:=hs d (qz hd)
    have hnx:=fJ7 hd
    have hle:=cZ5 Ls (j+1)
    rw [hnx,qw] at hle
    repeat' (conv=>whnf);first|(refine VIx.is ?_;refine VIx.mk (hc.ptr qZ) qZ qZ ?_)|(refine VLd.is ?_;refine oC (hc.rd0 (by simp) (fun _=>rfl) hd rfl) ?_)|(refine VAp.is ?_;refine VAp.own (p:=p) aT (hsl.src (by simp) (fun _=>rfl)) (bZ5 (by simp [bQ6,Value.oneCell'])) (by (try dsimp only);omega) (by simp only [maxLen];omega) fun p' cap' hp'=>?_)|refine VSeq.go ?_|refine oY fun _=>?_|refine oA ?_
    all_goals (conv=>whnf)
    refine VNext.mk (j+1,p',cap') (by dsimp only;omega) (by dsimp only;omega) ?_ ?_
    ·dsimp only;rw [hnx,List.length_append];exact aE
    ·dsimp only;rw [hnx,List.length_append,bQ7];exact aH
   ·rw [qe hgej] at hptr ⊢
    repeat' (conv=>whnf);first|refine VSeq.go ?_|refine oN fun _=>?_
    all_goals (conv=>whnf)
    exact ⟨fun w' hw'=>⟨(p,cap),rfl,hptr,hw'.le aH⟩⟩
end Go.Proofs
end
