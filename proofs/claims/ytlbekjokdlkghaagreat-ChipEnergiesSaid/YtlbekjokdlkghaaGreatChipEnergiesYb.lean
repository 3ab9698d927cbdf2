import Derived.Test.YtlbekjokdlkghaaGreatChipEnergiesQw
import Derived.Test.YtlbekjokdlkghaaGreatChipEnergiesPb
import Derived.Test.YtlbekjokdlkghaaGreatChipEnergiesYa
import Derived.Test.YtlbekjokdlkghaaGreatChipEnergiesNb
set_option linter.unusedVariables false
set_option linter.unusedSimpArgs false
set_option maxHeartbeats 4000000
section
namespace Go.Gm
def sizeQ (w s:Int):Int:=(2*max w (-w)+s - 1) / (2*s)
def beyondM (w s half:Int):Prop:=(0<w∧half≤sizeQ w s)∨(w<0∧half<sizeQ w s)∨32768<sizeQ w s*s
instance (w s half:Int):Decidable (beyondM w s half):=by unfold beyondM;infer_instance
end Go.Gm
end

section
namespace Go.Gm
theorem useN_take {cores:List Int}{i:Nat}{k:Int}(h:cores[i]? =some k)(j:Int):useN (cores.take (i+1)) j=useN (cores.take i) j+if k=j then 1 else 0:=by
 rw [List.take_add_one,h,Option.toList_some,useN_snoc]
theorem slot_get {cores:List Int}{i:Nat}{k:Int}(h:cores[i]? =some k):(slotsM cores)[i]? =some (useN (cores.take i) k:Int):=by
 have hlt:=(List.getElem?_eq_some_iff.1 h).1
 unfold slotsM
 rw [List.getElem?_map,List.getElem?_range hlt,Option.map_some]
 unfold slotAt
 rw [h];rfl
end Go.Gm
end

section
namespace Go.Gm
theorem outs_eq {x y:Int}(hx:0≤x∧x<32)(hy:0≤y∧y<32)(h:∀b,isOut b→(hasB x b↔hasB y b)):x=y:=by
 have h1:=h 1 (.inl rfl)
 have h2:=h 2 (.inr (.inl rfl))
 have h4:=h 4 (.inr (.inr (.inl rfl)))
 have h8:=h 8 (.inr (.inr (.inr (.inl rfl))))
 have h16:=h 16 (.inr (.inr (.inr (.inr rfl))))
 obtain ⟨a,rfl⟩:=Int.eq_ofNat_of_zero_le hx.1
 obtain ⟨c,rfl⟩:=Int.eq_ofNat_of_zero_le hy.1
 have ha:a<32:=by omega
 have hc:c<32:=by omega
 unfold hasB at h1 h2 h4 h8 h16
 simp only [Int.toNat_natCast] at h1 h2 h4 h8 h16
 have key:∀a c:Fin 32,decide (a.val&&&1≠0)=decide (c.val&&&1≠0)→decide (a.val&&&2≠0)=decide (c.val&&&2≠0)→decide (a.val&&&4≠0)=decide (c.val&&&4≠0)→decide (a.val&&&8≠0)=decide (c.val&&&8≠0)→decide (a.val&&&16≠0)=decide (c.val&&&16≠0)→a=c:=by decide+kernel
 have:=key ⟨a,ha⟩ ⟨c,hc⟩ (decide_eq_decide.2 h1) (decide_eq_decide.2 h2) (decide_eq_decide.2 h4) (decide_eq_decide.2 h8) (decide_eq_decide.2 h16)
 rw [Fin.mk.injEq] at this
 rw [this]
theorem tree_same {W H src:Int}(hW:0<W)(hs:0≤src∧src<W*H){a b:List Int}(ha:∀t∈a,0≤t∧t<W*H)(hab:∀t,t∈a↔t∈b):treeM W (W*H).toNat src a=treeM W (W*H).toNat src b:=by
 have hb:∀t∈b,0≤t∧t<W*H:=fun t ht=>ha t ((hab t).2 ht)
 have la:=tree_length W (W*H).toNat src a
 have lb:=tree_length W (W*H).toNat src b
 apply List.ext_getElem (by rw [la,lb])
 intro i h1 h2
 refine outs_eq (tree_ok W _ src a _ (List.getElem_mem h1)) (tree_ok W _ src b _ (List.getElem_mem h2)) fun o ho=>?_
 have e1:=tree_has (q:=(i:Int)) hW hs ho (by omega) ha
 have e2:=tree_has (q:=(i:Int)) hW hs ho (by omega) hb
 unfold hasR at e1 e2
 rw [Int.toNat_natCast,List.getElem?_eq_getElem h1,Option.getD_some] at e1
 rw [Int.toNat_natCast,List.getElem?_eq_getElem h2,Option.getD_some] at e2
 rw [e1,e2]
 constructor
 ·rintro ⟨t,h3,h4⟩;exact ⟨t,(hab t).1 h3,h4⟩
 ·rintro ⟨t,h3,h4⟩;exact ⟨t,(hab t).2 h3,h4⟩
def lowOut (x:Int):Int:=((x.toNat&&&(x.toNat - 1):Nat):Int)
theorem links_low {x:Int}(hx:0<x∧x<16):0≤lowOut x∧lowOut x<x∧linkN (lowOut x)+1=linkN x:=by
 obtain ⟨a,rfl⟩:=Int.eq_ofNat_of_zero_le (by omega:0≤x)
 have ha:a<16:=by omega
 have h0:0<a:=by omega
 have key:∀a:Fin 16,0<a.val→0≤lowOut (a.val:Int)∧lowOut (a.val:Int)<(a.val:Int)∧linkN (lowOut (a.val:Int))+1=linkN (a.val:Int):=by decide+kernel
 exact key ⟨a,ha⟩ h0
theorem links_bless {x:Int}(hx:0≤x∧x<32):0≤bless x 16∧bless x 16<16∧linkN (bless x 16)=linkN x:=by
 obtain ⟨a,rfl⟩:=Int.eq_ofNat_of_zero_le hx.1
 have ha:a<32:=by omega
 have key:∀a:Fin 32,0≤bless (a.val:Int) 16∧bless (a.val:Int) 16<16∧linkN (bless (a.val:Int) 16)=linkN (a.val:Int):=by decide+kernel
 exact key ⟨a,ha⟩
theorem linkN_zero:linkN 0=0:=by decide
end Go.Gm
namespace Go.Gm
open Go.Proofs
structure CelM where
 b:Nat
 id:Int
 p:Par
 z:Int
 s:Sta
 due:List Int
def colD (cs:List CelM)(j:Nat):List Int:=cs.map fun c=>c.due[j]?.getD 0
def smC (cs:List CelM):Sm:=⟨cs.map (·.s),(List.range 16).map (colD cs)⟩
def Due16 (cs:List CelM):Prop:=∀c∈cs,c.due.length=16
def cadd1 (t:Nat)(s:Syn)(c:CelM):CelM:={c with due:=c.due.modify ((t+s.dl.toNat)%16) fun a=>wadd a s.wt}
def cadd (t:Nat)(cs:List CelM)(s:Syn):List CelM:=cs.modify s.to.toNat (cadd1 t s)
def cfire1 (t:Nat)(c:CelM):CelM:={c with s:=(tick c.p c.s (c.due[t%16]?.getD 0)).1,due:=c.due.set (t%16) 0}
def cfire (t:Nat)(cs:List CelM):List CelM:=cs.map (cfire1 t)
def cF (t:Nat)(cs:List CelM):List (Sta×Bool):=fire (cs.map (·.p)) (cs.map (·.s)) (colD cs (t%16))
theorem smC_get (cs:List CelM){j:Nat}(hj:j<16):(smC cs).D[j]? =some (colD cs j):=by
 unfold smC
 rw [List.getElem?_map,List.getElem?_range hj];rfl
theorem cadd_due {t:Nat}{cs:List CelM}(h:Due16 cs)(s:Syn):Due16 (cadd t cs s):=by
 intro c hc
 obtain ⟨i,hi⟩:=List.getElem?_of_mem hc
 unfold cadd at hi
 rw [List.getElem?_modify] at hi
 cases hd:cs[i]? with
 |none=>rw [hd] at hi;cases hi
 |some d=>
  rw [hd] at hi
  have:=h d (List.mem_of_getElem? hd)
  simp only [Option.map_eq_map,Option.map_some,Option.some.injEq] at hi
  split at hi<;>subst hi
  ·show (d.due.modify _ _).length=16
   rw [List.length_modify];exact this
  ·exact this
theorem colD_cadd {t:Nat}{cs:List CelM}(h:Due16 cs)(s:Syn)(j:Nat)(hj:j<16):colD (cadd t cs s) j=if (t+s.dl.toNat)%16=j then (colD cs j).modify s.to.toNat fun a=>wadd a s.wt else colD cs j:=by
 apply List.ext_getElem?
 intro i
 unfold colD cadd
 rw [List.getElem?_map,List.getElem?_modify]
 cases hd:cs[i]? with
 |none=>
  by_cases h2:(t+s.dl.toNat)%16=j
  ·rw [if_pos h2,List.getElem?_modify,List.getElem?_map,hd];rfl
  ·rw [if_neg h2,List.getElem?_map,hd];rfl
 |some d=>
  have h16:=h d (List.mem_of_getElem? hd)
  obtain ⟨a,ha⟩:∃a,d.due[j]? =some a:=⟨_,List.getElem?_eq_getElem (by omega)⟩
  by_cases h1:s.to.toNat=i<;>by_cases h2:(t+s.dl.toNat)%16=j
  ·subst h2
   simp [h1,hd,cadd1,ha]
  ·simp [h1,h2,hd,cadd1]
  ·subst h2
   simp [h1,hd]
  ·simp [h1,h2,hd]
theorem smC_cadd {t:Nat}{cs:List CelM}(h:Due16 cs)(s:Syn):smC (cadd t cs s)=⟨(smC cs).sts,due1 t (smC cs).D s⟩:=by
 have e1:(cadd t cs s).map (·.s)=cs.map (·.s):=by
  apply List.ext_getElem?
  intro i
  unfold cadd
  rw [List.getElem?_map,List.getElem?_modify,List.getElem?_map]
  cases cs[i]? with
  |none=>rfl
  |some d=>
   by_cases h1:s.to.toNat=i<;>simp [h1,cadd1]
 have e2:(List.range 16).map (colD (cadd t cs s))=due1 t ((List.range 16).map (colD cs)) s:=by
  unfold due1
  apply List.ext_getElem?
  intro j
  rw [List.getElem?_map,List.getElem?_modify,List.getElem?_map]
  rcases Nat.lt_or_ge j 16 with hj|hj
  ·rw [List.getElem?_range hj,Option.map_some,Option.map_some,colD_cadd h s j hj]
   by_cases h1:(t+s.dl.toNat)%16=j<;>simp [h1]
  ·rw [List.getElem?_eq_none (by simp;omega)];rfl
 unfold smC
 rw [e1,e2]
theorem cadds_due {t:Nat}:∀(l:List Syn) {cs:List CelM},Due16 cs→Due16 (l.foldl (cadd t) cs)
 |[],_,h=>h
 |s::l,_,h=>cadds_due l (cadd_due h s)
theorem smC_cadds {t:Nat}:∀(l:List Syn) {cs:List CelM},Due16 cs→smC (l.foldl (cadd t) cs)=⟨(smC cs).sts,l.foldl (due1 t) (smC cs).D⟩
 |[],_,_=>rfl
 |s::l,cs,h=>by
  rw [List.foldl_cons,smC_cadds l (cadd_due h s),smC_cadd h s];rfl
theorem cF_get {t:Nat}{cs:List CelM}{i:Nat}{c:CelM}(h:cs[i]? =some c):(cF t cs)[i]? =some (tick c.p c.s (c.due[t%16]?.getD 0)):=by
 unfold cF
 refine fire_get ?_ ?_ ?_
 ·rw [List.getElem?_map,h];rfl
 ·rw [List.getElem?_map,h];rfl
 ·unfold colD;rw [List.getElem?_map,h];rfl
theorem cF_len (t:Nat)(cs:List CelM):(cF t cs).length=cs.length:=by
 unfold cF
 rw [fire_length (by simp) (by simp [colD])]
 simp
theorem cfire_due {t:Nat}{cs:List CelM}(h:Due16 cs):Due16 (cfire t cs):=by
 intro c hc
 obtain ⟨d,hd,rfl⟩:=List.mem_map.1 hc
 show (d.due.set _ _).length=16
 rw [List.length_set];exact h d hd
theorem smC_cfire {t:Nat}{cs:List CelM}(h:Due16 cs):smC (cfire t cs)=⟨(cF t cs).map (·.1),(smC cs).D.modify (t%16) fun l=>List.replicate l.length 0⟩:=by
 have e1:(cfire t cs).map (·.s)=(cF t cs).map (·.1):=by
  apply List.ext_getElem?
  intro i
  unfold cfire
  rw [List.map_map,List.getElem?_map,List.getElem?_map]
  cases hd:cs[i]? with
  |none=>rw [List.getElem?_eq_none (by rw [cF_len];exact List.getElem?_eq_none_iff.1 hd)];rfl
  |some d=>rw [cF_get hd];rfl
 have e2:(List.range 16).map (colD (cfire t cs))=((List.range 16).map (colD cs)).modify (t%16) fun l=>List.replicate l.length 0:=by
  apply List.ext_getElem?
  intro j
  rw [List.getElem?_map,List.getElem?_modify,List.getElem?_map]
  rcases Nat.lt_or_ge j 16 with hj|hj
  ·rw [List.getElem?_range hj,Option.map_some,Option.map_some]
   by_cases h1:t%16=j
   ·subst h1
    simp only [if_pos,Option.map_eq_map,Option.map_some,Option.some.injEq]
    apply List.ext_getElem?
    intro i
    unfold colD cfire
    rw [List.map_map,List.getElem?_map,List.getElem?_replicate,List.length_map]
    cases hd:cs[i]? with
    |none=>rw [if_neg (by have:=List.getElem?_eq_none_iff.1 hd;omega)];rfl
    |some d=>
     have h16:=h d (List.mem_of_getElem? hd)
     rw [if_pos (List.getElem?_eq_some_iff.1 hd).1]
     simp only [Option.map_some,Function.comp,cfire1]
     rw [List.getElem?_set_self (by omega)];rfl
   ·simp only [if_neg h1,Option.map_eq_map,Option.map_some,Option.some.injEq,id]
    apply List.ext_getElem?
    intro i
    unfold colD cfire
    rw [List.map_map,List.getElem?_map,List.getElem?_map]
    cases hd:cs[i]? with
    |none=>rfl
    |some d=>simp only [Option.map_some,Function.comp,cfire1];rw [List.getElem?_set_ne h1]
  ·rw [List.getElem?_eq_none (by simp;omega)];rfl
 unfold smC
 rw [e1,e2]
def midM {α:Type}(f:α→α)(l:List α)(i:Nat):List α:=(l.map f).take i++l.drop i
theorem midM_zero {α:Type}(f:α→α)(l:List α):midM f l 0=l:=rfl
theorem midM_all {α:Type}(f:α→α)(l:List α):midM f l l.length=l.map f:=by
 unfold midM
 rw [List.drop_length,List.append_nil,List.take_of_length_le (by simp)]
theorem midM_len {α:Type}(f:α→α)(l:List α)(i:Nat):(midM f l i).length=l.length:=by
 unfold midM
 rw [List.length_append,List.length_take,List.length_map,List.length_drop];omega
theorem midM_get {α:Type}{f:α→α}{l:List α}{i:Nat}{a:α}(h:l[i]? =some a):(midM f l i)[i]? =some a:=by
 have hi:=(List.getElem?_eq_some_iff.1 h).1
 unfold midM
 rw [List.getElem?_append_right (by rw [List.length_take];omega),List.length_take,List.length_map,List.getElem?_drop]
 rw [show i+(i - min i l.length)=i by omega,h]
theorem midM_set {α:Type}{f:α→α}{l:List α}{i:Nat}{a:α}(h:l[i]? =some a):(midM f l i).set i (f a)=midM f l (i+1):=by
 have hi:=(List.getElem?_eq_some_iff.1 h).1
 have ha:=(List.getElem?_eq_some_iff.1 h).2
 unfold midM
 rw [List.set_append,if_neg (by rw [List.length_take,List.length_map];omega),List.length_take,List.length_map]
 rw [show i - min i l.length=0 by omega,List.drop_eq_getElem_cons hi,List.set_cons_zero,List.take_add_one,List.getElem?_map,h]
 simp
def cellsTo (cores:List Int)(m:Nat)(k:Int):List Nat:=(List.range m).filter fun i=>decide (cores[i]? =some k)
def cellsAt (cores:List Int)(k:Int):List Nat:=cellsTo cores cores.length k
theorem cellsTo_next (cores:List Int){m:Nat}{c:Int}(h:cores[m]? =some c)(k:Int):cellsTo cores (m+1) k=cellsTo cores m k++if c=k then [m] else []:=by
 unfold cellsTo
 rw [List.range_succ,List.filter_append]
 congr 1
 by_cases h1:c=k<;>simp [h,h1]
theorem cellsTo_len (cores:List Int)(k:Int):∀m,m≤cores.length→(cellsTo cores m k).length=useN (cores.take m) k
 |0,_=>by simp [cellsTo,useN]
 |m+1,h=>by
  have hc:cores[m]? =some cores[m]:=List.getElem?_eq_getElem (by omega)
  rw [cellsTo_next cores hc,List.length_append,cellsTo_len cores k m (by omega),useN_take hc]
  split<;>simp
theorem cellsTo_slot {cores:List Int}{k:Int}{i:Nat}(h:cores[i]? =some k):∀m,i<m→m≤cores.length→(cellsTo cores m k)[useN (cores.take i) k]? =some i
 |0,h1,_=>absurd h1 (by omega)
 |m+1,h1,h2=>by
  have hc:cores[m]? =some cores[m]:=List.getElem?_eq_getElem (by omega)
  rw [cellsTo_next cores hc]
  rcases Nat.lt_or_ge i m with h3|h3
  ·have ih:=cellsTo_slot h m h3 (by omega)
   rw [List.getElem?_append_left (List.getElem?_eq_some_iff.1 ih).1,ih]
  ·have:i=m:=by omega
   subst this
   rw [h] at hc
   have hck:cores[i]=k:=(Option.some.inj hc).symm
   rw [if_pos hck,List.getElem?_append_right (by rw [cellsTo_len _ _ _ (by omega)];omega),cellsTo_len _ _ _ (by omega),Nat.sub_self]
   rfl
theorem cellsAt_slot {cores:List Int}{k:Int}{i:Nat}(h:cores[i]? =some k):(cellsAt cores k)[useN (cores.take i) k]? =some i:=
 cellsTo_slot h _ (List.getElem?_eq_some_iff.1 h).1 (Nat.le_refl _)
theorem cellsTo_lt {cores:List Int}{m:Nat}{k:Int}{i:Nat}(h:i∈cellsTo cores m k):i<m∧cores[i]? =some k:=by
 unfold cellsTo at h
 rw [List.mem_filter,List.mem_range,decide_eq_true_eq] at h
 exact h
end Go.Gm
end
