import Derived.Test.YtlbekjokdlkghaaGreatChipKnownQw
import Derived.Test.YtlbekjokdlkghaaGreatChipKnownMz
import Derived.Test.YtlbekjokdlkghaaGreatChipKnownYa
import Derived.Test.YtlbekjokdlkghaaGreatChipKnownNb
import Derived.Test.YtlbekjokdlkghaaGreatChipKnownNa
set_option linter.unusedVariables false
set_option linter.unusedSimpArgs false
set_option maxHeartbeats 4000000
section
namespace Go.Gm
def sizeQ (w s:Int):Int:=(2*max w (-w)+s - 1) / (2*s)
def beyondM (w s half:Int):Prop:=(0<w/\half<=sizeQ w s)\/(w<0/\half<sizeQ w s)\/32768<sizeQ w s*s
instance (w s half:Int):Decidable (beyondM w s half):=by unfold beyondM;infer_instance
end Go.Gm
end

section
namespace Go.Gm
theorem useN_take {cores:List Int}{i:Nat}{k:Int}(h:cores[i]? =some k)(j:Int):useN (cores.take (i+1)) j=useN (cores.take i) j+if k=j then 1 else 0:=by
 rw [qi,h,qW,useN_snoc]
theorem slot_get {cores:List Int}{i:Nat}{k:Int}(h:cores[i]? =some k):(slotsM cores)[i]? =some (useN (cores.take i) k:Int):=by
 have hlt:=(qx.1 h).1
 unfold slotsM
 rw [qj,qX hlt,qV]
 unfold slotAt
 rw [h];rfl
end Go.Gm
end

section
namespace Go.Gm
theorem outs_eq {x y:Int}(hx:0<=x/\x<32)(hy:0<=y/\y<32)(h:∀b,isOut b->(hasB x b<->hasB y b)):x=y:=by
 have h1:=h 1 (.inl rfl)
 have h2:=h 2 (.inr (.inl rfl))
 have h4:=h 4 (.inr (.inr (.inl rfl)))
 have h8:=h 8 (.inr (.inr (.inr (.inl rfl))))
 have h16:=h 16 (.inr (.inr (.inr (.inr rfl))))
 obtain ⟨a,rfl⟩:=Int.eq_ofNat_of_zero_le hx.1
 obtain ⟨c,rfl⟩:=Int.eq_ofNat_of_zero_le hy.1
 have ha:a<32:=by omega
 have hc:c<32:=by omega
 unfold hasB at h1 h2 h4 h8 h16
 simp only [jw] at h1 h2 h4 h8 h16
 have key:∀a c:Fin 32,decide (a.val&&&1≠0)=decide (c.val&&&1≠0)->decide (a.val&&&2≠0)=decide (c.val&&&2≠0)->decide (a.val&&&4≠0)=decide (c.val&&&4≠0)->decide (a.val&&&8≠0)=decide (c.val&&&8≠0)->decide (a.val&&&16≠0)=decide (c.val&&&16≠0)->a=c:=by decide+kernel
 have:=key ⟨a,ha⟩ ⟨c,hc⟩ (decide_eq_decide.2 h1) (decide_eq_decide.2 h2) (decide_eq_decide.2 h4) (decide_eq_decide.2 h8) (decide_eq_decide.2 h16)
 rw [Fin.mk.injEq] at this
 rw [this]
theorem tree_same {W H src:Int}(hW:0<W)(hs:0<=src/\src<W*H){a b:List Int}(ha:∀t∈a,0<=t/\t<W*H)(hab:∀t,t∈a<->t∈b):treeM W (W*H).toNat src a=treeM W (W*H).toNat src b:=by
 have hb:∀t∈b,0<=t/\t<W*H:=fun t ht=>ha t ((hab t).2 ht)
 have la:=tree_length W (W*H).toNat src a
 have lb:=tree_length W (W*H).toNat src b
 apply List.ext_getElem (by rw [la,lb])
 intro i h1 h2
 refine outs_eq (tree_ok W _ src a _ (Qu h1)) (tree_ok W _ src b _ (Qu h2)) fun o ho=>?_
 have e1:=tree_has (q:=(i:Int)) hW hs ho (by omega) ha
 have e2:=tree_has (q:=(i:Int)) hW hs ho (by omega) hb
 unfold hasR at e1 e2
 rw [jw,qq h1,qY] at e1
 rw [jw,qq h2,qY] at e2
 rw [e1,e2]
 constructor
 ·rintro ⟨t,h3,h4⟩;exact ⟨t,(hab t).1 h3,h4⟩
 ·rintro ⟨t,h3,h4⟩;exact ⟨t,(hab t).2 h3,h4⟩
def lowOut (x:Int):Int:=((x.toNat&&&(x.toNat - 1):Nat):Int)
theorem links_low {x:Int}(hx:0<x/\x<16):0<=lowOut x/\lowOut x<x/\linkN (lowOut x)+1=linkN x:=by
 obtain ⟨a,rfl⟩:=Int.eq_ofNat_of_zero_le (by omega:0<=x)
 have ha:a<16:=by omega
 have h0:0<a:=by omega
 have key:∀a:Fin 16,0<a.val->0<=lowOut (a.val:Int)/\lowOut (a.val:Int)<(a.val:Int)/\linkN (lowOut (a.val:Int))+1=linkN (a.val:Int):=by decide+kernel
 exact key ⟨a,ha⟩ h0
theorem links_bless {x:Int}(hx:0<=x/\x<32):0<=bless x 16/\bless x 16<16/\linkN (bless x 16)=linkN x:=by
 obtain ⟨a,rfl⟩:=Int.eq_ofNat_of_zero_le hx.1
 have ha:a<32:=by omega
 have key:∀a:Fin 32,0<=bless (a.val:Int) 16/\bless (a.val:Int) 16<16/\linkN (bless (a.val:Int) 16)=linkN (a.val:Int):=by decide+kernel
 exact key ⟨a,ha⟩
theorem linkN_zero:linkN 0=0:=by decide
end Go.Gm
namespace Go.Gm
open Go.Proofs
structure CelM where
 b:Nat
 id:Int
 p:Par
 z:Int
 s:Sta
 due:List Int
def colD (cs:List CelM)(j:Nat):List Int:=cs.map fun c=>c.due[j]?.getD 0
def smC (cs:List CelM):Sm:=⟨cs.map (·.s),(List.range 16).map (colD cs)⟩
def Due16 (cs:List CelM):Prop:=∀c∈cs,c.due.length=16
def cadd1 (t:Nat)(s:Syn)(c:CelM):CelM:={c with due:=c.due.modify ((t+s.dl.toNat)%16) fun a=>wadd a s.wt}
def cadd (t:Nat)(cs:List CelM)(s:Syn):List CelM:=cs.modify s.to.toNat (cadd1 t s)
def cfire1 (t:Nat)(c:CelM):CelM:={c with s:=(tick c.p c.s (c.due[t%16]?.getD 0)).1,due:=c.due.set (t%16) 0}
def cfire (t:Nat)(cs:List CelM):List CelM:=cs.map (cfire1 t)
def cF (t:Nat)(cs:List CelM):List (Sta×Bool):=fire (cs.map (·.p)) (cs.map (·.s)) (colD cs (t%16))
theorem smC_get (cs:List CelM){j:Nat}(hj:j<16):(smC cs).D[j]? =some (colD cs j):=by
 unfold smC
 rw [qj,qX hj];rfl
theorem cadd_due {t:Nat}{cs:List CelM}(h:Due16 cs)(s:Syn):Due16 (cadd t cs s):=by
 intro c hc
 obtain ⟨i,hi⟩:=jy hc
 unfold cadd at hi
 rw [qS] at hi
 cases hd:cs[i]? with
 |none=>rw [hd] at hi;cases hi
 |some d=>
  rw [hd] at hi
  have:=h d (qz hd)
  simp only [Option.map_eq_map,qV,qK] at hi
  split at hi<;>subst hi
  ·show (d.due.modify _ _).length=16
   rw [List.length_modify];exact this
  ·exact this
theorem colD_cadd {t:Nat}{cs:List CelM}(h:Due16 cs)(s:Syn)(j:Nat)(hj:j<16):colD (cadd t cs s) j=if (t+s.dl.toNat)%16=j then (colD cs j).modify s.to.toNat fun a=>wadd a s.wt else colD cs j:=by
 apply qp
 intro i
 unfold colD cadd
 rw [qj,qS]
 cases hd:cs[i]? with
 |none=>
  by_cases h2:(t+s.dl.toNat)%16=j
  ·rw [jx h2,qS,qj,hd];rfl
  ·rw [jz h2,qj,hd];rfl
 |some d=>
  have h16:=h d (qz hd)
  obtain ⟨a,ha⟩:∃a,d.due[j]? =some a:=⟨_,qq (by omega)⟩
  by_cases h1:s.to.toNat=i<;>by_cases h2:(t+s.dl.toNat)%16=j
  ·subst h2
   simp [h1,hd,cadd1,ha]
  ·simp [h1,h2,hd,cadd1]
  ·subst h2
   simp [h1,hd]
  ·simp [h1,h2,hd]
theorem smC_cadd {t:Nat}{cs:List CelM}(h:Due16 cs)(s:Syn):smC (cadd t cs s)=⟨(smC cs).sts,due1 t (smC cs).D s⟩:=by
 have e1:(cadd t cs s).map (·.s)=cs.map (·.s):=by
  apply qp
  intro i
  unfold cadd
  rw [qj,qS,qj]
  cases cs[i]? with
  |none=>rfl
  |some d=>
   by_cases h1:s.to.toNat=i<;>simp [h1,cadd1]
 have e2:(List.range 16).map (colD (cadd t cs s))=due1 t ((List.range 16).map (colD cs)) s:=by
  unfold due1
  apply qp
  intro j
  rw [qj,qS,qj]
  rcases qy j 16 with hj|hj
  ·rw [qX hj,qV,qV,colD_cadd h s j hj]
   by_cases h1:(t+s.dl.toNat)%16=j<;>simp [h1]
  ·rw [qf (by simp;omega)];rfl
 unfold smC
 rw [e1,e2]
theorem cadds_due {t:Nat}:∀(l:List Syn) {cs:List CelM},Due16 cs->Due16 (l.foldl (cadd t) cs)
 |[],_,h=>h
 |s::l,_,h=>cadds_due l (cadd_due h s)
theorem smC_cadds {t:Nat}:∀(l:List Syn) {cs:List CelM},Due16 cs->smC (l.foldl (cadd t) cs)=⟨(smC cs).sts,l.foldl (due1 t) (smC cs).D⟩
 |[],_,_=>rfl
 |s::l,cs,h=>by
  rw [Qp,smC_cadds l (cadd_due h s),smC_cadd h s];rfl
theorem cF_get {t:Nat}{cs:List CelM}{i:Nat}{c:CelM}(h:cs[i]? =some c):(cF t cs)[i]? =some (tick c.p c.s (c.due[t%16]?.getD 0)):=by
 unfold cF
 refine fire_get ?_ ?_ ?_
 ·rw [qj,h];rfl
 ·rw [qj,h];rfl
 ·unfold colD;rw [qj,h];rfl
theorem cF_len (t:Nat)(cs:List CelM):(cF t cs).length=cs.length:=by
 unfold cF
 rw [fire_length (by simp) (by simp [colD])]
 simp
theorem cfire_due {t:Nat}{cs:List CelM}(h:Due16 cs):Due16 (cfire t cs):=by
 intro c hc
 obtain ⟨d,hd,rfl⟩:=qo.1 hc
 show (d.due.set _ _).length=16
 rw [QF];exact h d hd
theorem smC_cfire {t:Nat}{cs:List CelM}(h:Due16 cs):smC (cfire t cs)=⟨(cF t cs).map (·.1),(smC cs).D.modify (t%16) fun l=>List.replicate l.length 0⟩:=by
 have e1:(cfire t cs).map (·.s)=(cF t cs).map (·.1):=by
  apply qp
  intro i
  unfold cfire
  rw [List.map_map,qj,qj]
  cases hd:cs[i]? with
  |none=>rw [qf (by rw [cF_len];exact List.getElem?_eq_none_iff.1 hd)];rfl
  |some d=>rw [cF_get hd];rfl
 have e2:(List.range 16).map (colD (cfire t cs))=((List.range 16).map (colD cs)).modify (t%16) fun l=>List.replicate l.length 0:=by
  apply qp
  intro j
  rw [qj,qS,qj]
  rcases qy j 16 with hj|hj
  ·rw [qX hj,qV,qV]
   by_cases h1:t%16=j
   ·subst h1
    simp only [jx,Option.map_eq_map,qV,qK]
    apply qp
    intro i
    unfold colD cfire
    rw [List.map_map,qj,QH,qv]
    cases hd:cs[i]? with
    |none=>rw [jz (by have:=List.getElem?_eq_none_iff.1 hd;omega)];rfl
    |some d=>
     have h16:=h d (qz hd)
     rw [jx (qx.1 hd).1]
     simp only [qV,Function.comp,cfire1]
     rw [QZ (by omega)];rfl
   ·simp only [jz h1,Option.map_eq_map,qV,qK,id]
    apply qp
    intro i
    unfold colD cfire
    rw [List.map_map,qj,qj]
    cases hd:cs[i]? with
    |none=>rfl
    |some d=>simp only [qV,Function.comp,cfire1];rw [List.getElem?_set_ne h1]
  ·rw [qf (by simp;omega)];rfl
 unfold smC
 rw [e1,e2]
def midM {α:Type}(f:α->α)(l:List α)(i:Nat):List α:=(l.map f).take i++l.drop i
theorem midM_zero {α:Type}(f:α->α)(l:List α):midM f l 0=l:=rfl
theorem midM_all {α:Type}(f:α->α)(l:List α):midM f l l.length=l.map f:=by
 unfold midM
 rw [List.drop_length,qC,qe (by simp)]
theorem midM_len {α:Type}(f:α->α)(l:List α)(i:Nat):(midM f l i).length=l.length:=by
 unfold midM
 rw [qw,qh,qv,Qs];omega
theorem midM_get {α:Type}{f:α->α}{l:List α}{i:Nat}{a:α}(h:l[i]? =some a):(midM f l i)[i]? =some a:=by
 have hi:=(qx.1 h).1
 unfold midM
 rw [Qr (by rw [qh];omega),qh,qv,Qy]
 rw [show i+(i - min i l.length)=i by omega,h]
theorem midM_set {α:Type}{f:α->α}{l:List α}{i:Nat}{a:α}(h:l[i]? =some a):(midM f l i).set i (f a)=midM f l (i+1):=by
 have hi:=(qx.1 h).1
 have ha:=(qx.1 h).2
 unfold midM
 rw [List.set_append,jz (by rw [qh,qv];omega),qh,qv]
 rw [show i - min i l.length=0 by omega,qG hi,List.set_cons_zero,qi,qj,h]
 simp
def cellsTo (cores:List Int)(m:Nat)(k:Int):List Nat:=(List.range m).filter fun i=>decide (cores[i]? =some k)
def cellsAt (cores:List Int)(k:Int):List Nat:=cellsTo cores cores.length k
theorem cellsTo_next (cores:List Int){m:Nat}{c:Int}(h:cores[m]? =some c)(k:Int):cellsTo cores (m+1) k=cellsTo cores m k++if c=k then [m] else []:=by
 unfold cellsTo
 rw [Qz,Qa]
 congr 1
 by_cases h1:c=k<;>simp [h,h1]
theorem cellsTo_len (cores:List Int)(k:Int):∀m,m<=cores.length->(cellsTo cores m k).length=useN (cores.take m) k
 |0,_=>by simp [cellsTo,useN]
 |m+1,h=>by
  have hc:cores[m]? =some cores[m]:=qq (by omega)
  rw [cellsTo_next cores hc,qw,cellsTo_len cores k m (by omega),useN_take hc]
  split<;>simp
theorem cellsTo_slot {cores:List Int}{k:Int}{i:Nat}(h:cores[i]? =some k):∀m,i<m->m<=cores.length->(cellsTo cores m k)[useN (cores.take i) k]? =some i
 |0,h1,_=>absurd h1 (by omega)
 |m+1,h1,h2=>by
  have hc:cores[m]? =some cores[m]:=qq (by omega)
  rw [cellsTo_next cores hc]
  rcases qy i m with h3|h3
  ·have ih:=cellsTo_slot h m h3 (by omega)
   rw [List.getElem?_append_left (qx.1 ih).1,ih]
  ·have:i=m:=by omega
   subst this
   rw [h] at hc
   have hck:cores[i]=k:=(Option.some.inj hc).symm
   rw [jx hck,Qr (by rw [cellsTo_len _ _ _ (by omega)];omega),cellsTo_len _ _ _ (by omega),jq]
   rfl
theorem cellsAt_slot {cores:List Int}{k:Int}{i:Nat}(h:cores[i]? =some k):(cellsAt cores k)[useN (cores.take i) k]? =some i:=
 cellsTo_slot h _ (qx.1 h).1 (qA _)
theorem cellsTo_lt {cores:List Int}{m:Nat}{k:Int}{i:Nat}(h:i∈cellsTo cores m k):i<m/\cores[i]? =some k:=by
 unfold cellsTo at h
 rw [qP,qL,jv] at h
 exact h
end Go.Gm
end

section
namespace Go.Gm
open Go.Proofs
theorem spkF_range:∀(F:List (Sta×Bool)) (k:Nat) (x:Int),x∈spkFrom k F->(k:Int)<=x/\x<k+F.length
 |[],_,_,h=>by simp [spkFrom] at h
 |y::F,k,x,h=>by
  have ih:=spkF_range F (k+1) x
  unfold spkFrom at h
  rw [qR]
  split at h
  ·rcases qQ.1 h with rfl|h
   ·omega
   ·have:=ih h;omega
  ·have:=ih h;omega
theorem spkF_asc:∀(F:List (Sta×Bool)) (k:Nat),(spkFrom k F).Pairwise (· <·)
 |[],_=>by simp [spkFrom]
 |y::F,k=>by
  have ih:=spkF_asc F (k+1)
  unfold spkFrom
  split
  ·refine List.pairwise_cons.2 ⟨fun x hx=>?_,ih⟩
   have:=spkF_range F (k+1) x hx
   omega
  ·exact ih
theorem spkY_range {F:List (Sta×Bool)}{x:Int}(h:x∈spk F):0<=x/\x<F.length:=by
 have:=spkF_range F 0 x h
 omega
theorem ascY_nodup {l:List Int}(h:l.Pairwise (· <·)):l.Nodup:=h.imp fun h=>by omega
structure Wrk where
 ticks:Int
 updates:Int
 spikes:Int
 packets:Int
 hops:Int
 arrivals:Int
 rows:Int
 steps:Int
 most:Int
deriving DecidableEq
def wrk0:Wrk:=⟨0,0,0,0,0,0,0,0,0⟩
def qSyns (N:Net)(C:Chp):List Syn:=N.syns.map (synQ (scalesM N (halfM C.bits)))
def qNet (N:Net)(C:Chp):Net:=⟨N.ps,N.inputs,qSyns N C⟩
def stepsF (N:Net)(C:Chp)(cores:List Int):Nat:=stepsM C.mesh.wide (srcTree N C cores) (homeM N cores) (coresM N C cores) (wavesF N C cores)
def stT (N:Net)(C:Chp)(cores:List Int):Nat:=min (stepsF N C cores) 10000
def sendsM (N:Net)(spikes ins:List Int)(key:Int):Bool:=if key<N.ps.length then decide (key∈spikes) else decide (key - N.ps.length∈ins)
def lastOf (A:List (Nat×Nat×Nat)):Nat:=(A.map fun a=>a.2.2+1).foldl max 0
def hopsOf (N:Net)(C:Chp)(cores:List Int)(ks:List Int):Nat:=(ks.map fun k=>linksM (srcTree N C cores k)).sum
def addsTo (N:Net)(C:Chp)(cores:List Int)(L:List Syn)(sends:Int->Bool)(T w:Nat):List Syn:=(List.range w).flatMap fun i=>arrAdds N cores L (sndK N C cores sends i) (sndS N C cores sends T i).arr
def arrsTo (N:Net)(C:Chp)(cores:List Int)(sends:Int->Bool)(T w:Nat):Nat:=((List.range w).map fun i=>(sndS N C cores sends T i).arr.length).sum
def lastTo (N:Net)(C:Chp)(cores:List Int)(sends:Int->Bool)(T w:Nat):Nat:=((List.range w).map fun i=>lastOf (sndS N C cores sends T i).arr).sum
theorem addsTo_next (N:Net)(C:Chp)(cores:List Int)(L:List Syn)(sends:Int->Bool)(T w:Nat):addsTo N C cores L sends T (w+1)=addsTo N C cores L sends T w++arrAdds N cores L (sndK N C cores sends w) (sndS N C cores sends T w).arr:=by
 unfold addsTo
 rw [Qz,QK,List.flatMap_singleton]
theorem arrsTo_next (N:Net)(C:Chp)(cores:List Int)(sends:Int->Bool)(T w:Nat):arrsTo N C cores sends T (w+1)=arrsTo N C cores sends T w+(sndS N C cores sends T w).arr.length:=by
 unfold arrsTo
 rw [Qz,ql,List.sum_append,qU,List.sum_singleton]
theorem lastTo_next (N:Net)(C:Chp)(cores:List Int)(sends:Int->Bool)(T w:Nat):lastTo N C cores sends T (w+1)=lastTo N C cores sends T w+lastOf (sndS N C cores sends T w).arr:=by
 unfold lastTo
 rw [Qz,ql,List.sum_append,qU,List.sum_singleton]
structure Mac where
 t:Nat
 cs:List CelM
 w:Wrk
def macAdds (N:Net)(C:Chp)(cores:List Int)(sends:Int->Bool):List Syn:=addsTo N C cores (qSyns N C) sends (stT N C cores) (wavesF N C cores).length
def macArrs (N:Net)(C:Chp)(cores:List Int)(sends:Int->Bool):Nat:=arrsTo N C cores sends (stT N C cores) (wavesF N C cores).length
def macLast (N:Net)(C:Chp)(cores:List Int)(sends:Int->Bool):Nat:=lastTo N C cores sends (stT N C cores) (wavesF N C cores).length
def macW (N:Net)(C:Chp)(cores:List Int)(w:Wrk)(n:Nat)(sends:Int->Bool):Wrk:=
 ⟨w.ticks+1,w.updates+N.ps.length,w.spikes+n,w.packets+((keysM N).filter sends).length,w.hops+hopsOf N C cores ((keysM N).filter sends),w.arrivals+macArrs N C cores sends,w.rows+(macAdds N C cores sends).length,w.steps+macLast N C cores sends,max w.most (macLast N C cores sends)⟩
def macSpk (m:Mac):List Int:=spk (cF m.t m.cs)
def macStep (N:Net)(C:Chp)(cores:List Int)(m:Mac)(ins:List Int):Mac:=
 ⟨m.t+1,(macAdds N C cores (sendsM N (macSpk m) ins)).foldl (cadd m.t) (cfire m.t m.cs),macW N C cores m.w (macSpk m).length (sendsM N (macSpk m) ins)⟩
section
variable {N : Net} {C : Chp} {cores : List Int}
theorem qSyns_mem {s:Syn}(h:s∈qSyns N C):∃x∈N.syns,x.frm=s.frm/\x.to=s.to/\x.dl=s.dl:=by
 obtain ⟨x,hx,rfl⟩:=qo.1 h
 exact ⟨x,hx,rfl,rfl,rfl⟩
theorem qSyns_to (hA:AsgOk N C cores):∀s∈qSyns N C,0<=s.to/\s.to<N.ps.length:=fun s hs=>by
 obtain ⟨x,hx,_,h2,_⟩:=qSyns_mem hs
 have:=(hA.plan.net.syns x hx).2.1
 omega
theorem qSyns_key:∀s∈qSyns N C,∃x∈N.syns,keyM N x.frm=keyM N s.frm/\x.to=s.to:=fun s hs=>by
 obtain ⟨x,hx,h1,h2,_⟩:=qSyns_mem hs
 exact ⟨x,hx,by rw [h1],h2⟩
theorem sum_geY {α:Type}{f:α->Nat}:∀{l:List α} {a:α},a∈l->f a<=(l.map f).sum
 |b::l,a,h=>by
  rw [qI,List.sum_cons]
  rcases qQ.1 h with rfl|h
  ·omega
  ·have:=sum_geY (f:=f) h;omega
theorem wv_pos (hA:AsgOk N C cores){w:Nat}(hw:w<(wavesF N C cores).length):1<=wvL N C cores w:=by
 obtain ⟨l,hl⟩:∃l,(wavesF N C cores)[w]? =some l:=⟨_,qq hw⟩
 have hT:wvT N C cores w=l:=by unfold wvT;rw [hl];rfl
 have hmem:=qz hl
 have hne:l≠[]:=wave_ne (keysM N) [] (by simp) l hmem
 obtain ⟨key,hk⟩:=List.exists_mem_of_ne_nil l hne
 have hkm:=waves_mem.1 ⟨l,hmem,hk⟩
 obtain ⟨t,ht⟩:=key_way hA hkm
 have hk0:=(keys_src hkm).1.1
 have htr:=core_range hA ht
 have hh:=(way_here hA hk0 (r:=t.toNat)).2 (by rw [Ql htr.1];exact ht)
 have h1:1<=cntM (l.map (srcTree N C cores)) (t,pow2 4):=by
  unfold cntM
  refine Nat.succ_le_of_lt (List.countP_pos_iff.2 ⟨srcTree N C cores key,qo.2 ⟨key,hk,rfl⟩,?_⟩)
  simpa using hh
 unfold wvL
 rw [hT]
 exact Qb h1 ((mostM_is _).le _ ⟨htr.1,.inr (.inr (.inr (.inr rfl)))⟩)
theorem stT_ok (hA:AsgOk N C cores):∀w,w<(wavesF N C cores).length->(wvD N C cores w+1)*wvL N C cores w<=stT N C cores/\0<stT N C cores:=by
 intro w hw
 obtain ⟨l,hl⟩:∃l,(wavesF N C cores)[w]? =some l:=⟨_,qq hw⟩
 have hT:wvT N C cores w=l:=by unfold wvT;rw [hl];rfl
 obtain ⟨_,h1,h2⟩:=wv_ok hA hw
 have h3:(wvD N C cores w+1)*wvL N C cores w<=15*64:=Nat.mul_le_mul (by omega) h1
 have h4:(wvD N C cores w+1)*wvL N C cores w<=stepsF N C cores:=by
  unfold stepsF stepsM wvD wvL
  rw [hT]
  exact sum_geY (f:=fun w=>(reachM C.mesh.wide (homeM N cores) (coresM N C cores) w+1)*mostM (w.map (srcTree N C cores))) (qz hl)
 have h5:=wv_pos hA hw
 have h6:1*1<=(wvD N C cores w+1)*wvL N C cores w:=Nat.mul_le_mul (by omega) h5
 unfold stT
 omega
theorem sndT_done (hA:AsgOk N C cores)(sends:Int->Bool){w:Nat}(hw:w<(wavesF N C cores).length):RunDone (sndC N C cores sends w) (sndS N C cores sends (stT N C cores) w):=
 snd_done hA sends hw (stT_ok hA w hw).1 (stT_ok hA w hw).2
theorem snd_none (hA:AsgOk N C cores){sends:Int->Bool}{w:Nat}(hw:w<(wavesF N C cores).length)(h:sndK N C cores sends w=[]):(sndS N C cores sends (stT N C cores) w).arr=[]:=by
 have hd:=sndT_done hA sends hw
 cases e:(sndS N C cores sends (stT N C cores) w).arr with
 |nil=>rfl
 |cons a l=>
  obtain ⟨p,r,t⟩:=a
  have:=(hd.ar p r t (by rw [e];exact qg)).1
  have hl:(sndC N C cores sends w).pk.length=(sndK N C cores sends w).length:=qv _
  rw [hl,h] at this
  exact absurd this (by simp)
theorem to_rest (hA:AsgOk N C cores){L:List Syn}{sends:Int->Bool}{m:Nat}:∀(w:Nat),m<=w->w<=(wavesF N C cores).length->(∀v,m<=v->sndK N C cores sends v=[])->
  addsTo N C cores L sends (stT N C cores) w=addsTo N C cores L sends (stT N C cores) m/\arrsTo N C cores sends (stT N C cores) w=arrsTo N C cores sends (stT N C cores) m/\lastTo N C cores sends (stT N C cores) w=lastTo N C cores sends (stT N C cores) m
 |0,h1,_,_=>by
  have:m=0:=by omega
  subst this
  exact ⟨rfl,rfl,rfl⟩
 |w+1,h1,h2,h3=>by
  rcases qy w m with h4|h4
  ·have:m=w+1:=by omega
   subst this
   exact ⟨rfl,rfl,rfl⟩
  ·obtain ⟨i1,i2,i3⟩:=to_rest hA (L:=L) w h4 (by omega) h3
   have h5:=snd_none hA (by omega:w<(wavesF N C cores).length) (h3 w h4)
   rw [addsTo_next,arrsTo_next,lastTo_next,i1,i2,i3,h5]
   exact ⟨by simp [arrAdds],rfl,rfl⟩
theorem sends_src (hA:AsgOk N C cores){spikes ins:List Int}(h1:∀x∈spikes,0<=x)(h2:∀x∈ins,0<=x):∀s∈qSyns N C,sendsM N spikes ins (keyM N s.frm)=true<->s.frm∈spikes++ins.map fun k=> -1 - k:=by
 intro s hs
 obtain ⟨x,hx,hf,_,_⟩:=qSyns_mem hs
 have hr:=(hA.plan.net.syns x hx).1
 unfold srcOk at hr
 rw [hf] at hr
 unfold sendsM keyM
 rw [qH,qo]
 by_cases h0:s.frm<0
 ·rw [jx h0,jz (by omega),jv]
  constructor
  ·intro h;exact .inr ⟨_,h,by omega⟩
  ·rintro (h|⟨k,h,hk⟩)
   ·have:=h1 _ h;omega
   ·rw [show (N.ps.length:Int) - 1 - s.frm - N.ps.length=k by omega];exact h
 ·rw [jz h0,jx (by omega),jv]
  constructor
  ·intro h;exact .inl h
  ·rintro (h|⟨k,h,hk⟩)
   ·exact h
   ·have:=h2 _ h;omega
theorem macAdds_perm (hA:AsgOk N C cores){spikes ins:List Int}(hs:spikes.Pairwise (· <·))(hi:ins.Pairwise (· <·))(h1:∀x∈spikes,0<=x)(h2:∀x∈ins,0<=x):(macAdds N C cores (sendsM N spikes ins)).Perm (yields (wire (qSyns N C)) (spikes++ins.map fun k=> -1 - k)):=by
 have hn:(spikes++ins.map fun k=> -1 - k).Nodup:=by
  rw [Qe]
  refine ⟨ascY_nodup hs,List.Pairwise.map _ (fun a b h e=>?_) hi,?_⟩
  ·omega
  ·rintro a ha b hb rfl
   obtain ⟨k,hk,he⟩:=qo.1 hb
   have:=h1 _ ha
   have:=h2 _ hk
   omega
 by_cases hw:(wavesF N C cores).length=0
 ·have hks:keysM N=[]:=by
   cases hk:keysM N with
   |nil=>rfl
   |cons k l=>
    obtain ⟨a,ha,_⟩:=(waves_mem (N:=N) (C:=C) (cores:=cores) (key:=k)).2 (by rw [hk];exact qg)
    rw [List.length_eq_zero_iff.1 hw] at ha
    cases ha
  have hno:qSyns N C=[]:=by
   cases hq:qSyns N C with
   |nil=>rfl
   |cons s l=>
    exfalso
    obtain ⟨x,hx,_,_⟩:=qSyns_mem (C:=C) (s:=s) (by rw [hq];exact qg)
    have hr:=key_range hA.plan.net hx
    have:keyM N x.frm∈keysM N:=by
     unfold keysM
     rw [qP,jv]
     exact ⟨qo.2 ⟨(keyM N x.frm).toNat,qL.2 (by omega),by omega⟩,x,hx,rfl⟩
    rw [hks] at this
    cases this
  have h3:macAdds N C cores (sendsM N spikes ins)=[]:=by
   unfold macAdds addsTo
   rw [hw];rfl
  rw [h3,hno]
  refine List.Perm.of_eq ?_
  have:∀l:List Int,yields (wire []) l=[]:=fun l=>by
   unfold yields
   rw [List.flatMap_eq_nil_iff]
   intro x _
   rfl
  rw [this]
 ·exact tickAdds_perm hA (qSyns_to hA) qSyns_key _ (fun w hw=>(stT_ok hA w hw).1) (stT_ok hA 0 (by omega)).2 hn (sends_src hA h1 h2)
structure MacOk (N:Net) (m:Mac):Prop where
 ps:m.cs.map (·.p)=N.ps
 due:Due16 m.cs
 ids:∀(i:Nat) (c:CelM),m.cs[i]? =some c->c.id=(i:Int)
theorem MacOk.len {m:Mac}(h:MacOk N m):m.cs.length=N.ps.length:=by rw [<-h.ps,qv]
theorem cs_ps {t:Nat}{cs:List CelM}(l:List Syn):(l.foldl (cadd t) cs).map (·.p)=cs.map (·.p):=by
 induction l generalizing cs with
 |nil=>rfl
 |cons s l ih=>
  rw [Qp,ih]
  unfold cadd
  apply qp
  intro i
  rw [qj,qS,qj]
  cases cs[i]? with
  |none=>rfl
  |some d=>by_cases h1:s.to.toNat=i<;>simp [h1,cadd1]
theorem cs_id {t:Nat}{cs:List CelM}(l:List Syn):(l.foldl (cadd t) cs).map (·.id)=cs.map (·.id):=by
 induction l generalizing cs with
 |nil=>rfl
 |cons s l ih=>
  rw [Qp,ih]
  unfold cadd
  apply qp
  intro i
  rw [qj,qS,qj]
  cases cs[i]? with
  |none=>rfl
  |some d=>by_cases h1:s.to.toNat=i<;>simp [h1,cadd1]
theorem cs_b {t:Nat}{cs:List CelM}(l:List Syn):(l.foldl (cadd t) cs).map (·.b)=cs.map (·.b):=by
 induction l generalizing cs with
 |nil=>rfl
 |cons s l ih=>
  rw [Qp,ih]
  unfold cadd
  apply qp
  intro i
  rw [qj,qS,qj]
  cases cs[i]? with
  |none=>rfl
  |some d=>by_cases h1:s.to.toNat=i<;>simp [h1,cadd1]
theorem cs_z {t:Nat}{cs:List CelM}(l:List Syn):(l.foldl (cadd t) cs).map (·.z)=cs.map (·.z):=by
 induction l generalizing cs with
 |nil=>rfl
 |cons s l ih=>
  rw [Qp,ih]
  unfold cadd
  apply qp
  intro i
  rw [qj,qS,qj]
  cases cs[i]? with
  |none=>rfl
  |some d=>by_cases h1:s.to.toNat=i<;>simp [h1,cadd1]
theorem MacOk.step {m:Mac}(h:MacOk N m)(C:Chp)(cores ins:List Int):MacOk N (macStep N C cores m ins):=by
 refine ⟨?_,cadds_due _ (cfire_due h.due),fun i c hc=>?_⟩
 rotate_left
 ·have h1:=cs_id (t:=m.t) (macAdds N C cores (sendsM N (macSpk m) ins)) (cs:=cfire m.t m.cs)
  have h2:=congrArg (fun l=>l[i]?) h1
  simp only [cfire,qj,List.map_map] at h2
  have h3:((macAdds N C cores (sendsM N (macSpk m) ins)).foldl (cadd m.t) (m.cs.map (cfire1 m.t)))[i]? =some c:=hc
  rw [h3] at h2
  cases hd:m.cs[i]? with
  |none=>rw [hd] at h2;cases h2
  |some d=>
   rw [hd] at h2
   have h4:=h.ids i d hd
   simp only [qV,qK,Function.comp,cfire1] at h2
   rw [h2,h4]
 show ((macAdds N C cores (sendsM N (macSpk m) ins)).foldl (cadd m.t) (cfire m.t m.cs)).map (·.p)=N.ps
 rw [cs_ps,<-h.ps]
 unfold cfire
 rw [List.map_map]
 rfl
theorem macSpk_eq {m:Mac}(h:MacOk N m):macSpk m=ringSpk (qNet N C) m.t (smC m.cs):=by
 unfold macSpk ringSpk cF
 rw [smC_get _ (Nat.mod_lt _ (by omega)),h.ps]
 rfl
theorem macSpk_range {m:Mac}(h:MacOk N m){x:Int}(hx:x∈macSpk m):0<=x/\x<N.ps.length:=by
 have:=spkY_range hx
 rw [cF_len,h.len] at this
 exact this
theorem mac_ring (hA:AsgOk N C cores){m:Mac}(h:MacOk N m){ins:List Int}(hi:ins.Pairwise (· <·))(h2:∀x∈ins,0<=x):smC (macStep N C cores m ins).cs=ringStep (qNet N C) m.t (smC m.cs) ins:=by
 show smC ((macAdds N C cores (sendsM N (macSpk m) ins)).foldl (cadd m.t) (cfire m.t m.cs))=_
 rw [smC_cadds _ (cfire_due h.due),smC_cfire h.due,due_perm m.t (macAdds_perm hA (spikes:=macSpk m) (spkF_asc _ 0) hi (fun x hx=>(macSpk_range h hx).1) h2)]
 unfold ringStep
 have e1:fire (qNet N C).ps (smC m.cs).sts ((smC m.cs).D[m.t%16]?.getD [])=cF m.t m.cs:=by
  rw [smC_get _ (Nat.mod_lt _ (by omega))]
  unfold cF
  rw [h.ps];rfl
 rw [e1]
 rfl
end
end Go.Gm
end

section
namespace Go.Proofs
open Go Go.Vx Go.Gm
structure SlD (α:Type) where
 p:Option Addr
 c:Nat
 l:List α
def slV {α:Type}(d:SlD α):Value:=.slice d.p d.l.length d.c
def slVs {α:Type}(d:SlD α):List Value:=[slV d]
def cat {α:Type}(Ls:List (SlD α)):List α:=Ls.flatMap (·.l)
theorem cat_next {α:Type}{Ls:List (SlD α)}{i:Nat}{d:SlD α}(h:Ls[i]? =some d):cat (Ls.take (i+1))=cat (Ls.take i)++d.l:=by
 unfold cat
 rw [qi,h,qW,QK]
 simp
theorem cat_take_le {α:Type}(Ls:List (SlD α))(i:Nat):(cat (Ls.take i)).length<=(cat Ls).length:=by
 have:cat Ls=cat (Ls.take i)++cat (Ls.drop i):=by unfold cat;rw [<-QK,QJ]
 rw [this,qw]
 omega
theorem concatInt_any (Ls:List (SlD Int))(hn:Ls.length<=1000)(hsz:(cat Ls).length<=1000000)(pp:Option Addr)(cc bb oo:Nat)(w:World)(hc:Sl w slVs 1 Ls pp Ls.length bb oo)(hs:∀d∈Ls,∃b off,Sl w intV 1 d.l d.p d.l.length b off):
  Calls Tryz.prog 52 #[.slice pp Ls.length cc] w fun e w'=>∃y:Option Addr×Nat,e=.returned (.slice y.1 (cat Ls).length y.2)/\(0<(cat Ls).length->∃g,y.1=some ⟨g,0,none⟩)/\St w [] [.vec y.1 (cat Ls).length y.2 3 1 (flat intV (cat Ls))] w':=by
 refine enter (C:=Tryz.cx) (F:=Tryz.fx52) (args:=[_]) Tryz.func52 rfl rfl rfl Tryz.ok52 (St.start w []) ?_
 repeat' (conv=>whnf);first|refine VSeq.go ?_|refine oN fun _=>?_
 all_goals (conv=>whnf)
 refine VLoop.kr (α:=Nat) [1000000,0,2,9,10] rfl (fun i=>i<=Ls.length) (fun i K=>(11,.int .i64 (i:Int))::(3,.int .i64 ((cat (Ls.take i)).length:Int))::K) (fun _=>[]) (fun i=>Ls.length - i) 0 qZ aE aH ?_
 intro i hi
 rcases qy i Ls.length with hlt|hge
 ·obtain ⟨d,hd⟩:=hc.get hlt
  have hnx:=cat_next hd
  have hle:=cat_take_le Ls (i+1)
  rw [hnx,qw] at hle
  repeat' (conv=>whnf);first|(refine VIx.is ?_;refine VIx.mk (hc.ptr qZ) qZ qZ ?_)|(refine VLd.is ?_;refine VLd.mk (Rd.cast (hc.rd0 (by simp) (fun _=>rfl) hd rfl) oE) ?_)|refine VSeq.go ?_|refine oY fun _=>?_|refine oN fun _=>?_|refine oA ?_
  all_goals (conv=>whnf)
  refine VNext.mk (i+1) qZ qZ ?_ aH
  rw [hnx,qw]
  exact aE
 ·rw [qe hge]
  by_cases h0:(cat Ls).length=0
  ·have hall:∀i,cat (Ls.take i)=[]:=fun i=>qF (by have:=cat_take_le Ls i;omega)
   repeat' (conv=>whnf);first|(refine VCall.isF 107 ?_;refine VCall.inl (F:=Tryz.fx107) Tryz.func107 rfl rfl rfl Tryz.ok107 ?_)|refine VSeq.go ?_|refine oN fun _=>?_|refine oA ?_
   all_goals (conv=>whnf)
   refine VLoop.kr (α:=Nat×Option Addr×Nat) [1000000,2,25,26] rfl (fun y=>y.1<=Ls.length) (fun y K=>(27,.int .i64 (y.1:Int))::(6,.slice y.2.1 (cat (Ls.take y.1)).length y.2.2)::K)
    (fun y=>[.vec y.2.1 (cat (Ls.take y.1)).length y.2.2 3 1 (flat intV (cat (Ls.take y.1)))]) (fun y=>Ls.length - y.1) (0,none,0) (by simp) aE aH ?_
   rintro ⟨j,p,cap⟩ hj
   dsimp only at hj ⊢
   rcases qy j Ls.length with hltj|hgej
   ·obtain ⟨d,hd⟩:=hc.get hltj
    obtain ⟨b1,o1,hsl⟩:=hs d (qz hd)
    have hnx:=cat_next hd
    have hle:=cat_take_le Ls (j+1)
    rw [hnx,qw] at hle
    repeat' (conv=>whnf);first|(refine VIx.is ?_;refine VIx.mk (hc.ptr qZ) qZ qZ ?_)|(refine VLd.is ?_;refine VLd.mk (Rd.cast (hc.rd0 (by simp) (fun _=>rfl) hd rfl) oE) ?_)|(refine VAp.is ?_;refine VAp.own (p:=p) aT (hsl.src (by simp) (fun _=>rfl)) (flat_one_cell (by simp [intV,Value.oneCell'])) (by (try dsimp only);omega) (by simp only [maxLen];omega) fun p' cap' hp'=>?_)|refine VSeq.go ?_|refine oY fun _=>?_|refine oA ?_
    all_goals (conv=>whnf)
    refine VNext.mk (j+1,p',cap') (by dsimp only;omega) (by dsimp only;omega) ?_ ?_
    ·dsimp only;rw [hnx,List.length_append];exact aE
    ·dsimp only;rw [hnx,List.length_append,flat_append];exact aH
   ·rw [qe hgej]
    repeat' (conv=>whnf);first|refine VSeq.go ?_|refine oN fun _=>?_
    all_goals (conv=>whnf)
    exact ⟨fun w' hw'=>⟨(p,cap),rfl,fun h=>by omega,hw'.le aH⟩⟩
  ·have hz:=flat_rep (f:=intV) (x:=(0:Int)) (cat Ls).length
   repeat' (conv=>whnf);first|(refine VCall.isF 107 ?_;refine VCall.inl (F:=Tryz.fx107) Tryz.func107 rfl rfl rfl Tryz.ok107 ?_)|(refine VSl.is ?_;refine VSl.cut0 (m:=0) (cap:=0) qZ ?_)|(refine VApZ.is ?_;refine VApZ.nil (m:=(cat Ls).length) rfl rfl rfl qZ qZ (by (try dsimp only);omega) (by simp only [maxLen];omega) fun b cap' hcap=>?_)|(refine VSl.is ?_;refine VSl.cut0 (m:=0) (cap:=cap') qZ ?_)|refine VSeq.go ?_|refine oY fun _=>?_|refine oN fun _=>?_|refine oA ?_
   all_goals (conv=>whnf)
   refine VLoop.krL (α:=Nat×Option Addr×Nat) [1000000,2,25,26] rfl (fun y=>y.1<=Ls.length) (fun y K=>(27,.int .i64 (y.1:Int))::(6,.slice y.2.1 (cat (Ls.take y.1)).length y.2.2)::K)
    (fun y=>[.vec y.2.1 (cat (Ls.take y.1)).length y.2.2 3 1 (flat intV (cat (Ls.take y.1)))]) (fun y=>Ls.length - y.1) (0,some ⟨b,0,none⟩,cap') (fun y=>0<(cat (Ls.take y.1)).length->∃g,y.2.1=some ⟨g,0,none⟩) (fun y _ w hw=>(vec_facts (hw _ (qg ..))).2.1) (by simp) aE ?_ ?_
   ·have:=HLe.shr (f:=intV) (k:=1) (l:=List.replicate (cat Ls).length (0:Int)) (p:=some ⟨b,0,none⟩) (n:=(cat Ls).length) (m:=0) (cap:=cap') (e:=3) (H:=[.vec (some ⟨b,0,none⟩) (cat Ls).length cap' 3 1 (flat intV (List.replicate (cat Ls).length (0:Int)))]) (H':=[]) .here (fun _=>rfl) (by simp) qZ .nil
    rw [<-hz] at this
    exact this
   rintro ⟨j,p,cap⟩ hj hptr
   dsimp only at hj hptr ⊢
   rcases qy j Ls.length with hltj|hgej
   ·obtain ⟨d,hd⟩:=hc.get hltj
    obtain ⟨b1,o1,hsl⟩:=hs d (qz hd)
    have hnx:=cat_next hd
    have hle:=cat_take_le Ls (j+1)
    rw [hnx,qw] at hle
    repeat' (conv=>whnf);first|(refine VIx.is ?_;refine VIx.mk (hc.ptr qZ) qZ qZ ?_)|(refine VLd.is ?_;refine VLd.mk (Rd.cast (hc.rd0 (by simp) (fun _=>rfl) hd rfl) oE) ?_)|(refine VAp.is ?_;refine VAp.own (p:=p) aT (hsl.src (by simp) (fun _=>rfl)) (flat_one_cell (by simp [intV,Value.oneCell'])) (by (try dsimp only);omega) (by simp only [maxLen];omega) fun p' cap' hp'=>?_)|refine VSeq.go ?_|refine oY fun _=>?_|refine oA ?_
    all_goals (conv=>whnf)
    refine VNext.mk (j+1,p',cap') (by dsimp only;omega) (by dsimp only;omega) ?_ ?_
    ·dsimp only;rw [hnx,List.length_append];exact aE
    ·dsimp only;rw [hnx,List.length_append,flat_append];exact aH
   ·rw [qe hgej] at hptr ⊢
    repeat' (conv=>whnf);first|refine VSeq.go ?_|refine oN fun _=>?_
    all_goals (conv=>whnf)
    exact ⟨fun w' hw'=>⟨(p,cap),rfl,hptr,hw'.le aH⟩⟩
end Go.Proofs
end
