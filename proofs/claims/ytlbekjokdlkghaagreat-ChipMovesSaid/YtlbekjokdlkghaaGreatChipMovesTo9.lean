import Derived.Test.YtlbekjokdlkghaaGreatChipMovesCc
import Derived.Test.YtlbekjokdlkghaaGreatChipMovesMl
import Derived.Test.YtlbekjokdlkghaaGreatChipMovesTo
import Derived.Test.YtlbekjokdlkghaaGreatRows
import Derived.Stop.Joined
import Derived.Test.YtlbekjokdlkghaaGreatChipMovesA0
import Derived.Test.YtlbekjokdlkghaaGreatChipMovesMc
set_option linter.unusedVariables false
set_option linter.unusedSimpArgs false
set_option maxHeartbeats 4000000
section
namespace Go.Gm
structure Prc where
 update:Int
 spike:Int
 hop:Int
 row:Int
 step:Int
def Wrk.wf (w:Wrk):Prop:=I64 w.ticks/\I64 w.updates/\I64 w.spikes/\I64 w.packets/\I64 w.hops/\I64 w.arrivals/\I64 w.rows/\I64 w.steps/\I64 w.most
def Prc.wf (p:Prc):Prop:=I64 p.update/\I64 p.spike/\I64 p.hop/\I64 p.row/\I64 p.step
def gY5 (m:Int)(l:List Int):Bool:=l.any fun x=>decide (x<0\/m<x)
def cC3 (w:Wrk):List Int:=[w.updates,w.spikes,w.hops,w.rows,w.steps]
def dM0 (w:Wrk):List Int:=[w.ticks,w.packets,w.arrivals,w.most]
def dY8 (p:Prc):List Int:=[p.update,p.spike,p.hop,p.row,p.step]
def lC4 (w:Wrk)(p:Prc):Bool:=gY5 1000000000 (cC3 w++dM0 w) || gY5 1000000 (dY8 p)
def kY5 (w:Wrk)(p:Prc):Int×Int:=if lC4 w p then (0,3) else (((cC3 w).zip (dY8 p)).foldl (fun a x=>a+x.1*x.2) 0,0)
def kN5 (a b:List Int)(j:Nat):Int:=((a.zip b).take j).foldl (fun s x=>s+x.1*x.2) 0
theorem hX9 {a b:List Int}{j:Nat}{x y:Int}(hx:a[j]? =some x)(hy:b[j]? =some y):kN5 a b (j+1)=kN5 a b j+x*y:=by
 unfold kN5
 rw [qi,(List.getElem?_zip_eq_some (z:=(x,y))).2 ⟨hx,hy⟩,qW,Qx]
 rfl
theorem kC6 {x y m n:Int}(hx:0<=x/\x<=m)(hy:0<=y/\y<=n):0<=x*y/\x*y<=m*n:=
 ⟨Int.mul_nonneg hx.1 hy.1,Int.mul_le_mul hx.2 hy.2 hy.1 (Int.le_trans hx.1 hx.2)⟩
theorem cY8 {m:Int}{l:List Int}:gY5 m l=false<->∀x∈l,0<=x/\x<=m:=by
 unfold gY5
 rw [List.any_eq_false]
 constructor
 ·intro h x hx
  have:=h x hx
  simp at this
  omega
 ·intro h x hx
  have:=h x hx
  simp
  omega
theorem fF4 {m:Int}{l:List Int}{x:Int}(h:x∈l)(hx:x<0\/m<x):gY5 m l=true:=by
 unfold gY5
 rw [List.any_eq_true]
 exact ⟨x,h,by simpa using hx⟩
end Go.Gm
namespace Go.Proofs
open Go Go.Vx Go.Gm
def lZ1 (w:Wrk):List Value:=[.int .i64 w.ticks,.int .i64 w.updates,.int .i64 w.spikes,.int .i64 w.packets,.int .i64 w.hops,.int .i64 w.arrivals,.int .i64 w.rows,.int .i64 w.steps,.int .i64 w.most]
def mV7 (p:Prc):List Value:=[.int .i64 p.update,.int .i64 p.spike,.int .i64 p.hop,.int .i64 p.row,.int .i64 p.step]
theorem fS6 {w0:World}{H:HP}{K:Value->HP->Prop}(l:List Int)(hl:l.length<=1000)(hI:∀x∈l,I64 x)(g c b6:Nat)(hm:Ent.vec (some ⟨g,0,none⟩) l.length c 3 1 (bQ1 bQ6 l)∈H)(h6:Ent.row b6 142 [.func (.func 50) #[] #[]]∈H)(hK:K (.bool (gY5 1000000000 l)) H):VCall Tryz.cx.P w0 [] H 51 [.slice (some ⟨g,0,none⟩) l.length c,.func (.func 53) #[] #[.pointer (some ⟨b6,0,none⟩)]] K:=by
 refine VCall.inl (F:=lY1) Tryz.func51 rfl rfl rfl lN9 ?_
 repeat' (conv=>whnf);first|(refine bQ0 106 ?_;refine VCall.inl (F:=hB7) Tryz.func106 rfl rfl rfl kZ6 ?_)|refine VSeq.go ?_
 all_goals (conv=>whnf)
 refine VLoop.mk (α:=Nat) (fun j=>j<=l.length/\∀x∈l.take j,0<=x/\x<=1000000000) (fun j=>[(1000000,.tuple #[]),(0,.slice (some ⟨g,0,none⟩) l.length c),(1,.func (.func 53) #[] #[.pointer (some ⟨b6,0,none⟩)]),(4,.int .i64 0),(7,.int .i64 (l.length:Int)),(8,.int .i64 (j:Int))])
  (fun _=>H) (fun j=>l.length - j) 0 ⟨by omega,by simp⟩ aE (HLe.refl _) ?_
 rintro j ⟨hj,hall⟩
 dsimp only at hj hall ⊢
 rcases qy j l.length with hlt|hge
 ·obtain ⟨x,hx⟩:∃x,l[j]? =some x:=⟨_,qq hlt⟩
  have hxm:=qz hx
  have hxi:=hI x hxm
  unfold I64 at hxi
  have hbad:(x<0\/1000000000<x)->K (.bool true) H:=fun h=>by rw [fF4 hxm h] at hK;exact hK
  repeat' (conv=>whnf);first|refine oI ?_|(refine VLd.is ?_;refine oC (fK5 hm (bQ8 (f:=bQ6) (k:=1) oR hx rfl)) ?_)|(refine VLd.is ?_;refine oC (bS4 h6 (s:=1) (off:=0) rfl) ?_)|(refine bQ0 53 ?_;refine VCall.inl (F:=mH4) Tryz.func53 rfl rfl rfl ok53 ?_)|(refine bQ0 50 ?_;refine VCall.inl (F:=mK0) Tryz.func50 rfl rfl rfl mY2 ?_)|refine VSeq.go ?_|refine oY fun _=>?_|refine oS (fun _=>?_) fun _=>?_|refine oA ?_
  all_goals (conv=>whnf)
  all_goals first
   |exact hbad qZ
   |(refine VNext.mk (j+1) ⟨by omega,?_⟩ qZ aE (HLe.refl _)
     rw [qi,hx,qW]
     intro k hk
     rcases qH.1 hk with hk|hk
     ·exact hall k hk
     ·simp only [qt] at hk;subst hk;omega)
 ·have hf:gY5 1000000000 l=false:=cY8.2 (by rw [qe hge] at hall;exact hall)
  rw [hf] at hK
  repeat' (conv=>whnf);first|refine VSeq.go ?_|refine oN fun _=>?_|refine oL ?_|refine oV fun _=>?_
  all_goals (conv=>whnf)
  exact hK
theorem fS5 {w0:World}{H:HP}{K:Value->HP->Prop}(l:List Int)(hl:l.length<=1000)(hI:∀x∈l,I64 x)(g c b6:Nat)(hm:Ent.vec (some ⟨g,0,none⟩) l.length c 3 1 (bQ1 bQ6 l)∈H)(h6:Ent.row b6 142 [.func (.func 50) #[] #[]]∈H)(hK:K (.bool (gY5 1000000 l)) H):VCall Tryz.cx.P w0 [] H 51 [.slice (some ⟨g,0,none⟩) l.length c,.func (.func 54) #[] #[.pointer (some ⟨b6,0,none⟩)]] K:=by
 refine VCall.inl (F:=lY1) Tryz.func51 rfl rfl rfl lN9 ?_
 repeat' (conv=>whnf);first|(refine bQ0 106 ?_;refine VCall.inl (F:=hB7) Tryz.func106 rfl rfl rfl kZ6 ?_)|refine VSeq.go ?_
 all_goals (conv=>whnf)
 refine VLoop.mk (α:=Nat) (fun j=>j<=l.length/\∀x∈l.take j,0<=x/\x<=1000000) (fun j=>[(1000000,.tuple #[]),(0,.slice (some ⟨g,0,none⟩) l.length c),(1,.func (.func 54) #[] #[.pointer (some ⟨b6,0,none⟩)]),(4,.int .i64 0),(7,.int .i64 (l.length:Int)),(8,.int .i64 (j:Int))])
  (fun _=>H) (fun j=>l.length - j) 0 ⟨by omega,by simp⟩ aE (HLe.refl _) ?_
 rintro j ⟨hj,hall⟩
 dsimp only at hj hall ⊢
 rcases qy j l.length with hlt|hge
 ·obtain ⟨x,hx⟩:∃x,l[j]? =some x:=⟨_,qq hlt⟩
  have hxm:=qz hx
  have hxi:=hI x hxm
  unfold I64 at hxi
  have hbad:(x<0\/1000000<x)->K (.bool true) H:=fun h=>by rw [fF4 hxm h] at hK;exact hK
  repeat' (conv=>whnf);first|refine oI ?_|(refine VLd.is ?_;refine oC (fK5 hm (bQ8 (f:=bQ6) (k:=1) oR hx rfl)) ?_)|(refine VLd.is ?_;refine oC (bS4 h6 (s:=1) (off:=0) rfl) ?_)|(refine bQ0 54 ?_;refine VCall.inl (F:=mH3) Tryz.func54 rfl rfl rfl ok54 ?_)|(refine bQ0 50 ?_;refine VCall.inl (F:=mK0) Tryz.func50 rfl rfl rfl mY2 ?_)|refine VSeq.go ?_|refine oY fun _=>?_|refine oS (fun _=>?_) fun _=>?_|refine oA ?_
  all_goals (conv=>whnf)
  all_goals first
   |exact hbad qZ
   |(refine VNext.mk (j+1) ⟨by omega,?_⟩ qZ aE (HLe.refl _)
     rw [qi,hx,qW]
     intro k hk
     rcases qH.1 hk with hk|hk
     ·exact hall k hk
     ·simp only [qt] at hk;subst hk;omega)
 ·have hf:gY5 1000000 l=false:=cY8.2 (by rw [qe hge] at hall;exact hall)
  rw [hf] at hK
  repeat' (conv=>whnf);first|refine VSeq.go ?_|refine oN fun _=>?_|refine oL ?_|refine oV fun _=>?_
  all_goals (conv=>whnf)
  exact hK
theorem gS6 (W:Wrk)(p:Prc)(hW:W.wf)(hp:p.wf)(w:World):Calls Tryz.prog 17 #[.agg (lZ1 W).toArray,.agg (mV7 p).toArray] w fun e w'=>e=.returned (.tuple #[.int .i64 (kY5 W p).1,.int .i64 (kY5 W p).2])/\St w [] [] w':=by
 obtain ⟨w1,w2,w3,w4,w5,w6,w7,w8,w9⟩:=hW
 obtain ⟨p1,p2,p3,p4,p5⟩:=hp
 have hcl:(cat [(⟨none,0,cC3 W⟩:SlD Int),⟨none,0,dM0 W⟩])=cC3 W++dM0 W:=by simp [cat]
 have hI1:∀x∈cC3 W++dM0 W,I64 x:=fun x hx=>by
  unfold cC3 dM0 at hx
  simp only [Qw,Qc,qQ,jq,or_false] at hx
  rcases hx with rfl|rfl|rfl|rfl|rfl|rfl|rfl|rfl|rfl<;>assumption
 have hI2:∀x∈dY8 p,I64 x:=fun x hx=>by
  unfold dY8 at hx
  simp only [qQ,jq,or_false] at hx
  rcases hx with rfl|rfl|rfl|rfl|rfl<;>assumption
 unfold lZ1 mV7
 refine enter (C:=Tryz.cx) (F:=mP1) (args:=[_,_]) Tryz.func17 rfl rfl rfl ok17 (St.start w []) ?_
 repeat' (conv=>whnf);first|(refine VSeq.is ?_;refine bF1 3 rfl ?_;refine VSeq.cut (at_:=3) (α:=Nat×Nat×Nat×Nat) (fun _=>True) (fun z=>[(1000000,.tuple #[]),(4,.int .i64 0),(5,.int .i64 0),(2,.pointer (some ⟨z.1,0,none⟩)),(6,.pointer (some ⟨z.2.1,0,none⟩)),(7,.slice (some ⟨z.2.2.1,0,none⟩) 5 5),(8,.slice (some ⟨z.2.2.2,0,none⟩) 5 5)]) (fun z=>[.row z.1 36 (lZ1 W),.row z.2.1 142 [.func (.func 50) #[] #[]],.vec (some ⟨z.2.2.1,0,none⟩) 5 5 3 1 (bQ1 bQ6 (cC3 W)),.vec (some ⟨z.2.2.2,0,none⟩) 5 5 3 1 (bQ1 bQ6 (dY8 p))]) ?_ ?_)|refine VSeq.go ?_|refine oL ?_|refine oT ?_|refine oV fun _=>?_|refine oK ?_|refine oH ?_|refine And.intro ?_ ?_
 all_goals (conv=>whnf)
 any_goals exact VMid.mk (_,_,_,_) trivial aE aH
 rintro ⟨b2,b6,b7,b8⟩ _
 dsimp only
 have hcon:=fun (w':World) (g7 g4 g2:Nat) (ha:Sl w' bQ6 1 (cC3 W) (some ⟨g7,0,none⟩) 5 g7 0) (hb:Sl w' bQ6 1 (dM0 W) (some ⟨g4,0,none⟩) 4 g4 0) (hc:Sl w' fR2 1 [(⟨some ⟨g7,0,none⟩,5,cC3 W⟩:SlD Int),⟨some ⟨g4,0,none⟩,4,dM0 W⟩] (some ⟨g2,0,none⟩) 2 g2 0)=>cC2 [(⟨some ⟨g7,0,none⟩,5,cC3 W⟩:SlD Int),⟨some ⟨g4,0,none⟩,4,dM0 W⟩] oU (by simp [cat,cC3,dM0]) (some ⟨g2,0,none⟩) 2 g2 0 w' hc (fun d hd=>by
  simp only [qQ,jq,or_false] at hd
  rcases hd with rfl|rfl
  ·exact ⟨g7,0,ha⟩
  ·exact ⟨g4,0,hb⟩)
 have hcE:∀g7 g4:Nat,cat [(⟨some ⟨g7,0,none⟩,5,cC3 W⟩:SlD Int),⟨some ⟨g4,0,none⟩,4,dM0 W⟩]=cC3 W++dM0 W:=fun _ _=>by simp [cat]
 have hl9:(cC3 W++dM0 W).length=9:=rfl
 have hcon:∀(w':World) (g7 g4 g2:Nat),Sl w' bQ6 1 (cC3 W) (some ⟨g7,0,none⟩) 5 g7 0->Sl w' bQ6 1 (dM0 W) (some ⟨g4,0,none⟩) 4 g4 0->Sl w' fR2 1 [(⟨some ⟨g7,0,none⟩,5,cC3 W⟩:SlD Int),⟨some ⟨g4,0,none⟩,4,dM0 W⟩] (some ⟨g2,0,none⟩) 2 g2 0->Calls Tryz.prog 52 #[.slice (some ⟨g2,0,none⟩) 2 2] w' fun e w''=>∃y:Nat×Nat,e=.returned (.slice (some ⟨y.1,0,none⟩) (cC3 W++dM0 W).length y.2)/\True/\St w' [] [.vec (some ⟨y.1,0,none⟩) (cC3 W++dM0 W).length y.2 3 1 (bQ1 bQ6 (cC3 W++dM0 W))] w'':=fun w' g7 g4 g2 ha hb hc=>(hcon w' g7 g4 g2 ha hb hc).mono fun e w'' ⟨y,e1,e2,e3⟩=>by
  rw [hcE] at e1 e2 e3
  obtain ⟨g,hg⟩:=e2 (by rw [hl9];omega)
  rw [hg] at e1 e3
  exact ⟨(g,y.2),e1,trivial,e3⟩
 cases hB1:gY5 1000000000 (cC3 W++dM0 W) with
 |true=>
  have hB2:gY5 1000000 (dY8 p)=gY5 1000000 (dY8 p):=rfl
  have hE:kY5 W p=(0,3):=by unfold kY5 lC4;rw [hB1];rfl
  rw [hE]
  repeat' (conv=>whnf);first|(refine bQ0 52 ?_;(refine bQ2 (fun w' hw'=>hcon w' b7 _ _ (bZ1 (cap:=5) (e:=3) hw' (by simp) (fun _=>rfl) rfl) (bZ1 (cap:=4) (e:=3) hw' (by exact List.mem_cons_of_mem _ List.mem_cons_self) (fun _=>rfl) rfl) (bZ1 (cap:=2) (e:=28) hw' (by exact List.mem_cons_self) (fun _=>rfl) rfl)) ?_;rintro ⟨g9,c9⟩ _;dsimp only))|(refine bQ0 51 ?_;(first|(refine fS6 (cC3 W++dM0 W) (by rw [hl9];omega) hI1 g9 c9 b6 (by simp) (by simp) ?_;rw [hB1])|(refine fS5 (dY8 p) (by simp [dY8]) hI2 b8 5 b6 (by show Ent.vec (some ⟨b8,0,none⟩) 5 5 3 1 (bQ1 bQ6 (dY8 p))∈_;simp) (by simp) ?_;rw [hB2])))|refine VSeq.go ?_|refine oL ?_|refine oV fun _=>?_
  all_goals (conv=>whnf)
  exact ⟨fun w' hw'=>⟨rfl,hw'.le .nil⟩⟩
 |false=>
  cases hB2:gY5 1000000 (dY8 p) with
  |true=>
   have hE:kY5 W p=(0,3):=by unfold kY5 lC4;rw [hB1,hB2];rfl
   rw [hE]
   repeat' (conv=>whnf);first|(refine bQ0 52 ?_;(refine bQ2 (fun w' hw'=>hcon w' b7 _ _ (bZ1 (cap:=5) (e:=3) hw' (by simp) (fun _=>rfl) rfl) (bZ1 (cap:=4) (e:=3) hw' (by exact List.mem_cons_of_mem _ List.mem_cons_self) (fun _=>rfl) rfl) (bZ1 (cap:=2) (e:=28) hw' (by exact List.mem_cons_self) (fun _=>rfl) rfl)) ?_;rintro ⟨g9,c9⟩ _;dsimp only))|(refine bQ0 51 ?_;(first|(refine fS6 (cC3 W++dM0 W) (by rw [hl9];omega) hI1 g9 c9 b6 (by simp) (by simp) ?_;rw [hB1])|(refine fS5 (dY8 p) (by simp [dY8]) hI2 b8 5 b6 (by show Ent.vec (some ⟨b8,0,none⟩) 5 5 3 1 (bQ1 bQ6 (dY8 p))∈_;simp) (by simp) ?_;rw [hB2])))|refine VSeq.go ?_|refine oL ?_|refine oV fun _=>?_
   all_goals (conv=>whnf)
   exact ⟨fun w' hw'=>⟨rfl,hw'.le .nil⟩⟩
  |false=>
   have hE:kY5 W p=(kN5 (cC3 W) (dY8 p) 5,0):=by
    unfold kY5 lC4
    rw [hB1,hB2]
    rfl
   have hcb:=cY8.1 hB1
   have hpb:=cY8.1 hB2
   rw [hE]
   repeat' (conv=>whnf);first|(refine bQ0 52 ?_;(refine bQ2 (fun w' hw'=>hcon w' b7 _ _ (bZ1 (cap:=5) (e:=3) hw' (by simp) (fun _=>rfl) rfl) (bZ1 (cap:=4) (e:=3) hw' (by exact List.mem_cons_of_mem _ List.mem_cons_self) (fun _=>rfl) rfl) (bZ1 (cap:=2) (e:=28) hw' (by exact List.mem_cons_self) (fun _=>rfl) rfl)) ?_;rintro ⟨g9,c9⟩ _;dsimp only))|(refine bQ0 51 ?_;(first|(refine fS6 (cC3 W++dM0 W) (by rw [hl9];omega) hI1 g9 c9 b6 (by simp) (by simp) ?_;rw [hB1])|(refine fS5 (dY8 p) (by simp [dY8]) hI2 b8 5 b6 (by show Ent.vec (some ⟨b8,0,none⟩) 5 5 3 1 (bQ1 bQ6 (dY8 p))∈_;simp) (by simp) ?_;rw [hB2])))|refine VSeq.go ?_|refine oL ?_|refine oV fun _=>?_
   all_goals (conv=>whnf)
   refine VLoop.mk (α:=Nat) (fun j=>j<=5/\0<=kN5 (cC3 W) (dY8 p) j/\kN5 (cC3 W) (dY8 p) j<=j*1000000000000000) (fun j=>[(1000000,.tuple #[]),(4,.int .i64 0),(5,.int .i64 0),(8,.slice (some ⟨b8,0,none⟩) 5 5),(9,.int .i64 (kN5 (cC3 W) (dY8 p) j)),(53,.slice (some ⟨b7,0,none⟩) 5 5),(54,.int .i64 5),(55,.int .i64 (j:Int))])
    (fun j=>[.vec (some ⟨b7,0,none⟩) 5 5 3 1 (bQ1 bQ6 (cC3 W)),.vec (some ⟨b8,0,none⟩) 5 5 3 1 (bQ1 bQ6 (dY8 p))]) (fun j=>5 - j) 0 ⟨by omega,(show (0:Int)<=0 by decide),(show (0:Int)<=((0:Nat):Int)*1000000000000000 by decide)⟩ aE aH ?_
   rintro j ⟨hj,hs1,hs2⟩
   rcases qy j 5 with hlt|hge
   ·obtain ⟨x,hx⟩:∃x,(cC3 W)[j]? =some x:=⟨_,qq (by show j<5;omega)⟩
    obtain ⟨y,hy⟩:∃y,(dY8 p)[j]? =some y:=⟨_,qq (by show j<5;omega)⟩
    have hpr:=kC6 (hcb x (QW _ (qz hx))) (hpb y (qz hy))
    have hnx:=hX9 hx hy
    obtain ⟨z,hz⟩:=gX (x*y)
    rw [hz] at hpr hnx
    repeat' (conv=>whnf);first|refine oI ?_|(refine VLd.is ?_;refine oC (.vec aT (bQ8 (f:=bQ6) (k:=1) oR hx rfl)) ?_)|(refine VLd.is ?_;refine oC (.vec aT (bQ8 (f:=bQ6) (k:=1) oR hy rfl)) ?_)|(refine VAr.is ?_;refine VAr.mul hz qZ qZ ?_)|refine VSeq.go ?_|refine oY fun _=>?_|refine oA ?_
    all_goals (conv=>whnf)
    exact VNext.mk (j+1) ⟨by omega,by omega,by omega⟩ qZ (by rw [hnx];exact aE) aH
   have hje:j=5:=by omega
   subst hje
   repeat' (conv=>whnf);first|refine VSeq.go ?_|refine oN fun _=>?_|refine oL ?_|refine oV fun _=>?_
   all_goals (conv=>whnf)
   exact ⟨fun w' hw'=>⟨rfl,hw'.le .nil⟩⟩
end Go.Proofs
end

section
namespace Go.Proofs
open Go Go.Vx Go.Gm Go.RowKit Go.WideShapes Go.ChangeShapes Go.Deep Go.Joins
section
variable {H : Type} {enc : TypeId × Value -> H} {W : World} {base b0 : Nat} {spare : Nat -> Bool} {held : Bool} {r : Reach}
end
end Go.Proofs
end

section
namespace Go.Proofs.YtlbekjokdlkghaaGreat.chipMoves
open Go Go.Proofs
theorem k1:(Rows.chipMovesRow.wf (OpenSpec.ofChange Rows.chipMovesSpec))=true:=by kernel_rfl
theorem k2:(laidOutB Tryz.pinned.checked.prog)=true:=by kernel_rfl
theorem k3:(mapsRowed Tryz.pinned.checked.prog)=true:=by kernel_rfl
theorem k4:(Tryz.f8.params.all (Tryz.pinned.checked.prog.readableRec ·))=true:=by kernel_rfl
theorem k5:(namedTie Tryz.pinned.checked.prog Rows.chipMovesRow.named Rows.chipMovesSpec.vars)=true:=by kernel_rfl
theorem k6:((Rows.chipMovesRow.stops==[]))=true:=by kernel_rfl
theorem k7:((Tryz.pinned.checked.prog.stops==[]))=true:=by kernel_rfl
theorem k8:((Rows.chipMovesRow.knobs==[]))=true:=by kernel_rfl
theorem k9:((Tryz.pinned.checked.prog.stopKnobs==[]))=true:=by kernel_rfl
theorem k10:((Rows.chipMovesRow.inPlace==Tryz.pinned.checked.prog.inPlace 8))=true:=by kernel_rfl
theorem k11:((Rows.chipMovesRow.unfollowed==Tryz.pinned.checked.prog.unfollowed 8))=true:=by kernel_rfl
theorem k12:((Rows.chipMovesRow.recurses==Tryz.pinned.checked.prog.recurses 8))=true:=by kernel_rfl
theorem k13:((Rows.chipMovesRow.named==Tryz.pinned.checked.prog.varsNamed 8))=true:=by kernel_rfl
theorem k14:((Rows.chipMovesRow.maps==(Tryz.f8.params.toList++Rows.chipMovesSpec.plain.varTypes Tryz.pinned.checked.prog).any (Tryz.pinned.checked.prog.mapsRec ·)))=true:=by kernel_rfl
theorem k15:((Rows.chipMovesRow.ifaces==(Tryz.f8.params.toList++Rows.chipMovesSpec.plain.varTypes Tryz.pinned.checked.prog).any (Tryz.pinned.checked.prog.ifacesRec ·)))=true:=by kernel_rfl
theorem k16:((Rows.chipMovesRow.mapsOut==Tryz.pinned.checked.prog.mapsAmong Tryz.f8.resultTypes.toList))=true:=by kernel_rfl
end Go.Proofs.YtlbekjokdlkghaaGreat.chipMoves
end

section
namespace Go.Proofs.YtlbekjokdlkghaaGreat.chipMoves
open Go Go.Proofs
theorem and2 {a b:Bool}(ha:a=true)(hb:b=true):(a&&b)=true:=by rw [ha,hb];rfl
theorem k17:((Rows.chipMovesRow.loops==(Tryz.f8.params.toList++Rows.chipMovesSpec.plain.varTypes Tryz.pinned.checked.prog).any (Tryz.pinned.checked.prog.loopsFrom ·)))=true:=by kernel_rfl
theorem k17b:((Rows.chipMovesRow.wideKeys==(Tryz.f8.params.toList++Rows.chipMovesSpec.plain.varTypes Tryz.pinned.checked.prog++Tryz.f8.resultTypes.toList).any (Tryz.pinned.checked.prog.wideKeysFrom ·)))=true:=by kernel_rfl
theorem k18:(Rows.chipMovesSpec.vars.all (Tryz.pinned.checked.prog.varReadable ·))=true:=by kernel_rfl
theorem k19:(Tryz.f8.resultTypes.all (fun t=>Tryz.pinned.checked.prog.readableRec t&&decide (t<Tryz.pinned.checked.prog.types.size)))=true:=by kernel_rfl
theorem k20:((Rows.chipMovesRow.ifacesOut==Tryz.f8.resultTypes.toList.any (Tryz.pinned.checked.prog.ifacesRec ·)))=true:=by kernel_rfl
theorem k21:((Rows.chipMovesRow.loopsOut==Tryz.f8.resultTypes.toList.any (Tryz.pinned.checked.prog.loopsFrom ·)))=true:=by kernel_rfl
theorem k22:((Rows.chipMovesRow.plainKeys==Tryz.pinned.checked.prog.plainKeys))=true:=by kernel_rfl
theorem k23:(Rows.chipMovesRow.shortTexts.isNone)=true:=by kernel_rfl
theorem k23b:(Tryz.pinned.checked.prog.stopsHeard)=true:=by kernel_rfl
theorem k24:(Tryz.pinned.checked.prog.mayEnter)=true:=by kernel_rfl
theorem k24b:((Rows.chipMovesRow.lifted==Tryz.pinned.checked.prog.liftsFinal))=true:=by kernel_rfl
theorem k24c:((Tryz.pinned.checked.prog.make==some Rows.chipMovesRow.make))=true:=by kernel_rfl
theorem k25:((Rows.chipMovesRow.kinds==(if Rows.chipMovesRow.domain.isEmpty then [] else Tryz.f8.params.toList.map fun t=>match Tryz.pinned.checked.prog.underlying t with|some (.int k)=>some k|_=>none)))=true:=by kernel_rfl
theorem k26:((Rows.chipMovesRow.pinned==Rows.chipMovesRow.pinnedBy))=true:=by kernel_rfl
theorem k27:((Rows.chipMovesRow.veiled==(Tryz.f8.params.toList++Rows.chipMovesSpec.plain.varTypes Tryz.pinned.checked.prog++Tryz.f8.resultTypes.toList).any (Tryz.pinned.checked.prog.veiledRec ·)))=true:=by kernel_rfl
theorem k28:(Rows.chipMovesRow.veiledFits Tryz.pinned.checked.prog Tryz.f8.params.toList (Tryz.f8.params.toList++Rows.chipMovesSpec.plain.varTypes Tryz.pinned.checked.prog++Tryz.f8.resultTypes.toList))=true:=by kernel_rfl
theorem named:Tryz.pinned.checked.prog.funcNamed Rows.chipMovesRow.func=some 8:=by kernel_rfl
theorem inst:Tryz.f8.isInstance Tryz.pinned.checked.prog Rows.chipMovesRow.origin Rows.chipMovesRow.targs:=of_decide_eq_true (by kernel_rfl)
theorem wrap:Tryz.f8.isWrapper Tryz.pinned.checked.prog Rows.chipMovesRow.wrapper Rows.chipMovesRow.mainSum:=by unfold Func.isWrapper;first|(rw [jw (by decide+kernel)];kernel_rfl)|(rw [jk (by decide+kernel)];exact ⟨rfl,rfl⟩)
end Go.Proofs.YtlbekjokdlkghaaGreat.chipMoves
end

section
namespace Go.Proofs
open Go Go.Vx Go.Gm Go.RowKit Go.WideShapes Go.ChangeShapes Go.Deep Go.Joins
section
variable {H : Type} {enc : TypeId × Value -> H} {P : Program} {w : World} {base : Nat} {spare : Nat -> Bool} {held : Bool}
end
structure _root_.Go.Gm.Chp.int (C:Chp):Prop where
 mesh:C.mesh.wf
 nr:I64 C.nr
 sy:I64 C.sy
 en:I64 C.en
 bits:I64 C.bits
 dead:∀x∈C.dead,I64 x
theorem _root_.Go.Gm.Chp.int.wf {C:Chp}(h:C.int)(hf:C.dead.length<=1000000):C.wf:=⟨h.mesh,h.nr,h.sy,h.en,h.bits,h.dead,hf⟩
section
variable {H : Type} {enc : TypeId × Value -> H} {W : World} {base : Nat} {spare : Nat -> Bool} {held : Bool} {r : Reach} {b0 : Nat}
end
end Go.Proofs
end

section
namespace Go.Proofs
open Go Go.Vx Go.Gm Go.RowKit Go.WideShapes Go.ChangeShapes Go.Deep Go.Joins
section
variable {H : Type} {enc : TypeId × Value -> H} {P : Program} {w : World} {base : Nat} {spare : Nat -> Bool} {held : Bool}
theorem cQ6 {t:TypeId}{fs:Array Field}{n:Nat}{cells:List Value}{y:DataW H×List MemPlace}(hs:P.underlying t=some (.struct fs))(h:DataW.trod enc P w base spare held n t cells=some y):
  ∃m,∀(i:Nat) (f:Field),fs[i]? =some f->∃z,DataW.trod enc P w base spare held m f.type ((cells.drop f.offset).take (P.cellsOf f.type))=some z:=by
 obtain ⟨d,p⟩:=y
 obtain ⟨xs,m,e,hx,hl,hxl,hall⟩:=DataW.trod_struct hs h
 refine ⟨m,fun i f h1=>?_⟩
 have h3:=hall i f h1
 have hxi:i<xs.length:=by rw [hxl];exact (Qh.1 h1).1
 rw [qq hxi] at h3
 exact ⟨_,h3⟩
theorem mV0 {cs:Array Value}(h:cs.size=14):∃a0 a1 a2 a3 a4 a5 a6 a7 a8 a9 a10 a11 a12 a13,cs=#[a0,a1,a2,a3,a4,a5,a6,a7,a8,a9,a10,a11,a12,a13]:=by
 obtain ⟨l⟩:=cs
 match l,h with
 |[a0,a1,a2,a3,a4,a5,a6,a7,a8,a9,a10,a11,a12,a13],_=>exact ⟨a0,a1,a2,a3,a4,a5,a6,a7,a8,a9,a10,a11,a12,a13,rfl⟩
end
section
variable {H : Type} {enc : TypeId × Value -> H} {W : World} {base : Nat} {spare : Nat -> Bool} {held : Bool} {r : Reach} {b0 : Nat}
theorem cX8 {n:Nat}{v:Value}{y:DataW H×List MemPlace}(h:DataW.trod enc Tryz.prog W base spare held n 3 [v]=some y):∃i:Int,v=.int .i64 i/\I64 i:=by
 obtain ⟨i,hi,_,hw⟩:=DataW.trod_int Tryz.underlying3 h
 simp only [List.cons.injEq,and_true] at hi
 exact ⟨i,hi,dH5 hw⟩
def lM6 (N:Net)(C:Chp)(cores:List Int)(l:List Evt)(ticks:Int)(pn:Option Addr)(cn:Nat)(qs:Option Addr)(cs:Nat)(pd:Option Addr)(cd:Nat)(pc:Option Addr)(cc:Nat)(pe:Option Addr)(ce:Nat):List Value:=
 [.slice pn N.ps.length cn,.int .i64 N.inputs,.slice qs N.syns.length cs,.int .i64 C.mesh.wide,.int .i64 C.mesh.high,.int .i64 C.mesh.room,.int .i64 C.nr,.int .i64 C.sy,.int .i64 C.en,.int .i64 C.bits,.slice pd C.dead.length cd,.slice pc cores.length cc,.slice pe l.length ce,.int .i64 ticks]
set_option maxRecDepth 100000 in
theorem gN5 {v:Value}{d:DataW H}{p:List MemPlace}(hv:Value.okWide Tryz.prog W r b0 33 v)(h:DataW.Trod enc Tryz.prog W base spare held 33 v d p):
  ∃(N:Net) (C:Chp) (cores:List Int) (l:List Evt) (ticks:Int) (pn:Option Addr) (cn bn on:Nat) (qs:Option Addr) (cs bs os:Nat) (pd:Option Addr) (cd bd od:Nat) (pc:Option Addr) (cc bc oc:Nat) (pe:Option Addr) (ce be oe:Nat),
   v=.agg (lM6 N C cores l ticks pn cn qs cs pd cd pc cc pe ce).toArray/\N.wf/\C.int/\(∀k∈cores,I64 k)/\(∀x∈l,x.wf)/\I64 ticks/\(N.ps.length<=maxLen/\N.syns.length<=maxLen/\C.dead.length<=maxLen/\cores.length<=maxLen/\l.length<=maxLen)/\(C.dead.length<=cd/\l.length<=ce)/\
   Sl W bH3 8 N.ps pn N.ps.length bn on/\Sl W bP1 4 N.syns qs N.syns.length bs os/\Sl W bQ6 1 C.dead pd C.dead.length bd od/\Sl W bQ6 1 cores pc cores.length bc oc/\Sl W cP1 2 l pe l.length be oe:=by
 obtain ⟨cs,rfl,hsz⟩:=okWide_struct Tryz.underlying33 hv
 have hc14:Tryz.prog.cellsOf 33=14:=by kernel_rfl
 obtain ⟨a0,a1,a2,a3,a4,a5,a6,a7,a8,a9,a10,a11,a12,a13,rfl⟩:=mV0 (hsz.trans hc14)
 obtain ⟨fuel,hf⟩:=h
 obtain ⟨m,hall⟩:=cQ6 Tryz.underlying33 hf
 have hg0:∃z,DataW.trod enc Tryz.prog W base spare held m 25 [a0,a1,a2]=some z:=by
  obtain ⟨z,g⟩:=hall 0 _ rfl
  change DataW.trod enc Tryz.prog W base spare held m 25 (List.take (Tryz.prog.cellsOf 25) (List.drop 0 [a0,a1,a2,a3,a4,a5,a6,a7,a8,a9,a10,a11,a12,a13]))=some z at g
  rw [show Tryz.prog.cellsOf 25=3 by kernel_rfl] at g
  exact ⟨z,g⟩
 have hg1:∃z,DataW.trod enc Tryz.prog W base spare held m 30 [a3,a4,a5,a6,a7,a8,a9,a10]=some z:=by
  obtain ⟨z,g⟩:=hall 1 _ rfl
  change DataW.trod enc Tryz.prog W base spare held m 30 (List.take (Tryz.prog.cellsOf 30) (List.drop 3 [a0,a1,a2,a3,a4,a5,a6,a7,a8,a9,a10,a11,a12,a13]))=some z at g
  rw [show Tryz.prog.cellsOf 30=8 by kernel_rfl] at g
  exact ⟨z,g⟩
 have hg2:∃z,DataW.trod enc Tryz.prog W base spare held m 28 [a11]=some z:=by
  obtain ⟨z,g⟩:=hall 2 _ rfl
  change DataW.trod enc Tryz.prog W base spare held m 28 (List.take (Tryz.prog.cellsOf 28) (List.drop 11 [a0,a1,a2,a3,a4,a5,a6,a7,a8,a9,a10,a11,a12,a13]))=some z at g
  rw [show Tryz.prog.cellsOf 28=1 by kernel_rfl] at g
  exact ⟨z,g⟩
 have hg3:∃z,DataW.trod enc Tryz.prog W base spare held m 31 [a12]=some z:=by
  obtain ⟨z,g⟩:=hall 3 _ rfl
  change DataW.trod enc Tryz.prog W base spare held m 31 (List.take (Tryz.prog.cellsOf 31) (List.drop 12 [a0,a1,a2,a3,a4,a5,a6,a7,a8,a9,a10,a11,a12,a13]))=some z at g
  rw [show Tryz.prog.cellsOf 31=1 by kernel_rfl] at g
  exact ⟨z,g⟩
 have hg4:∃z,DataW.trod enc Tryz.prog W base spare held m 3 [a13]=some z:=by
  obtain ⟨z,g⟩:=hall 4 _ rfl
  change DataW.trod enc Tryz.prog W base spare held m 3 (List.take (Tryz.prog.cellsOf 3) (List.drop 13 [a0,a1,a2,a3,a4,a5,a6,a7,a8,a9,a10,a11,a12,a13]))=some z at g
  rw [show Tryz.prog.cellsOf 3=1 by kernel_rfl] at g
  exact ⟨z,g⟩
 obtain ⟨zn,hn⟩:=hg0
 obtain ⟨mn,halln⟩:=cQ6 Tryz.underlying25 hn
 have n0:∃z,DataW.trod enc Tryz.prog W base spare held mn 22 [a0]=some z:=by
  obtain ⟨z,g⟩:=halln 0 _ rfl
  change DataW.trod enc Tryz.prog W base spare held mn 22 (List.take (Tryz.prog.cellsOf 22) (List.drop 0 [a0,a1,a2]))=some z at g
  rw [show Tryz.prog.cellsOf 22=1 by kernel_rfl] at g
  exact ⟨z,g⟩
 have n1:∃z,DataW.trod enc Tryz.prog W base spare held mn 3 [a1]=some z:=by
  obtain ⟨z,g⟩:=halln 1 _ rfl
  change DataW.trod enc Tryz.prog W base spare held mn 3 (List.take (Tryz.prog.cellsOf 3) (List.drop 1 [a0,a1,a2]))=some z at g
  rw [show Tryz.prog.cellsOf 3=1 by kernel_rfl] at g
  exact ⟨z,g⟩
 have n2:∃z,DataW.trod enc Tryz.prog W base spare held mn 23 [a2]=some z:=by
  obtain ⟨z,g⟩:=halln 2 _ rfl
  change DataW.trod enc Tryz.prog W base spare held mn 23 (List.take (Tryz.prog.cellsOf 23) (List.drop 2 [a0,a1,a2]))=some z at g
  rw [show Tryz.prog.cellsOf 23=1 by kernel_rfl] at g
  exact ⟨z,g⟩
 obtain ⟨zc,hc⟩:=hg1
 obtain ⟨mc,hallc⟩:=cQ6 Tryz.underlying30 hc
 have c0:∃z,DataW.trod enc Tryz.prog W base spare held mc 27 [a3,a4,a5]=some z:=by
  obtain ⟨z,g⟩:=hallc 0 _ rfl
  change DataW.trod enc Tryz.prog W base spare held mc 27 (List.take (Tryz.prog.cellsOf 27) (List.drop 0 [a3,a4,a5,a6,a7,a8,a9,a10]))=some z at g
  rw [show Tryz.prog.cellsOf 27=3 by kernel_rfl] at g
  exact ⟨z,g⟩
 have c1:∃z,DataW.trod enc Tryz.prog W base spare held mc 3 [a6]=some z:=by
  obtain ⟨z,g⟩:=hallc 1 _ rfl
  change DataW.trod enc Tryz.prog W base spare held mc 3 (List.take (Tryz.prog.cellsOf 3) (List.drop 3 [a3,a4,a5,a6,a7,a8,a9,a10]))=some z at g
  rw [show Tryz.prog.cellsOf 3=1 by kernel_rfl] at g
  exact ⟨z,g⟩
 have c2:∃z,DataW.trod enc Tryz.prog W base spare held mc 3 [a7]=some z:=by
  obtain ⟨z,g⟩:=hallc 2 _ rfl
  change DataW.trod enc Tryz.prog W base spare held mc 3 (List.take (Tryz.prog.cellsOf 3) (List.drop 4 [a3,a4,a5,a6,a7,a8,a9,a10]))=some z at g
  rw [show Tryz.prog.cellsOf 3=1 by kernel_rfl] at g
  exact ⟨z,g⟩
 have c3:∃z,DataW.trod enc Tryz.prog W base spare held mc 3 [a8]=some z:=by
  obtain ⟨z,g⟩:=hallc 3 _ rfl
  change DataW.trod enc Tryz.prog W base spare held mc 3 (List.take (Tryz.prog.cellsOf 3) (List.drop 5 [a3,a4,a5,a6,a7,a8,a9,a10]))=some z at g
  rw [show Tryz.prog.cellsOf 3=1 by kernel_rfl] at g
  exact ⟨z,g⟩
 have c4:∃z,DataW.trod enc Tryz.prog W base spare held mc 3 [a9]=some z:=by
  obtain ⟨z,g⟩:=hallc 4 _ rfl
  change DataW.trod enc Tryz.prog W base spare held mc 3 (List.take (Tryz.prog.cellsOf 3) (List.drop 6 [a3,a4,a5,a6,a7,a8,a9,a10]))=some z at g
  rw [show Tryz.prog.cellsOf 3=1 by kernel_rfl] at g
  exact ⟨z,g⟩
 have c5:∃z,DataW.trod enc Tryz.prog W base spare held mc 28 [a10]=some z:=by
  obtain ⟨z,g⟩:=hallc 5 _ rfl
  change DataW.trod enc Tryz.prog W base spare held mc 28 (List.take (Tryz.prog.cellsOf 28) (List.drop 7 [a3,a4,a5,a6,a7,a8,a9,a10]))=some z at g
  rw [show Tryz.prog.cellsOf 28=1 by kernel_rfl] at g
  exact ⟨z,g⟩
 obtain ⟨zs,hs⟩:=c0
 obtain ⟨ms,halls⟩:=cQ6 Tryz.underlying27 hs
 have s0:∃z,DataW.trod enc Tryz.prog W base spare held ms 3 [a3]=some z:=by
  obtain ⟨z,g⟩:=halls 0 _ rfl
  change DataW.trod enc Tryz.prog W base spare held ms 3 (List.take (Tryz.prog.cellsOf 3) (List.drop 0 [a3,a4,a5]))=some z at g
  rw [show Tryz.prog.cellsOf 3=1 by kernel_rfl] at g
  exact ⟨z,g⟩
 have s1:∃z,DataW.trod enc Tryz.prog W base spare held ms 3 [a4]=some z:=by
  obtain ⟨z,g⟩:=halls 1 _ rfl
  change DataW.trod enc Tryz.prog W base spare held ms 3 (List.take (Tryz.prog.cellsOf 3) (List.drop 1 [a3,a4,a5]))=some z at g
  rw [show Tryz.prog.cellsOf 3=1 by kernel_rfl] at g
  exact ⟨z,g⟩
 have s2:∃z,DataW.trod enc Tryz.prog W base spare held ms 3 [a5]=some z:=by
  obtain ⟨z,g⟩:=halls 2 _ rfl
  change DataW.trod enc Tryz.prog W base spare held ms 3 (List.take (Tryz.prog.cellsOf 3) (List.drop 2 [a3,a4,a5]))=some z at g
  rw [show Tryz.prog.cellsOf 3=1 by kernel_rfl] at g
  exact ⟨z,g⟩
 clear hall halln hallc halls hf
 obtain ⟨y,g⟩:=n1;obtain ⟨inp,rfl,hinp⟩:=cX8 g;clear g y
 obtain ⟨y,g⟩:=s0;obtain ⟨wide,rfl,hwide⟩:=cX8 g;clear g y
 obtain ⟨y,g⟩:=s1;obtain ⟨high,rfl,hhigh⟩:=cX8 g;clear g y
 obtain ⟨y,g⟩:=s2;obtain ⟨room,rfl,hroom⟩:=cX8 g;clear g y
 obtain ⟨y,g⟩:=c1;obtain ⟨nr,rfl,hnr⟩:=cX8 g;clear g y
 obtain ⟨y,g⟩:=c2;obtain ⟨sy,rfl,hsy⟩:=cX8 g;clear g y
 obtain ⟨y,g⟩:=c3;obtain ⟨en,rfl,hen⟩:=cX8 g;clear g y
 obtain ⟨y,g⟩:=c4;obtain ⟨bits,rfl,hbits⟩:=cX8 g;clear g y
 obtain ⟨y,g⟩:=hg4;obtain ⟨ticks,rfl,hti⟩:=cX8 g;clear g y
 have hts:Tryz.prog.cellTypes Tryz.prog.depth 33=some [22,3,23,3,3,3,3,3,3,3,28,28,31,3]:=by kernel_rfl
 have k0:=bC9 Tryz.underlying33 hts hv 0 rfl rfl oU
 have k2:=bC9 Tryz.underlying33 hts hv 2 rfl rfl oU
 have k10:=bC9 Tryz.underlying33 hts hv 10 rfl rfl oU
 have k11:=bC9 Tryz.underlying33 hts hv 11 rfl rfl oU
 have k12:=bC9 Tryz.underlying33 hts hv 12 rfl rfl oU
 obtain ⟨y0,g0⟩:=n0
 obtain ⟨y2,g2⟩:=n2
 obtain ⟨y10,g10⟩:=c5
 obtain ⟨y11,g11⟩:=hg2
 obtain ⟨y12,g12⟩:=hg3
 obtain ⟨pn,cn,bn,on,rows,rfl,a1,a2,a3,a4⟩:=dG6 Tryz.underlying22 Tryz.underlying140 (by kernel_rfl) (by kernel_rfl) (by decide) (cR8 Tryz.underlying3 (by kernel_rfl)) g0 k0
 obtain ⟨qs,cs,bs,os,rows2,rfl,b1,b2,b3,b4⟩:=dG6 Tryz.underlying23 Tryz.underlying154 (by kernel_rfl) (by kernel_rfl) (by decide) (cR8 Tryz.underlying3 (by kernel_rfl)) g2 k2
 obtain ⟨pe,ce,be,oe,rows3,rfl,c1,c2,c3,c4⟩:=dG6 Tryz.underlying31 Tryz.underlying67 (by kernel_rfl) (by kernel_rfl) (by decide) (cR8 Tryz.underlying3 (by kernel_rfl)) g12 k12
 obtain ⟨pd,cd,bd,od,dead,rfl,d1,d2,d3,d4⟩:=dG7 Tryz.underlying28 Tryz.underlying3 (by kernel_rfl) g10 k10
 obtain ⟨pc,cc,bc,oc,cores,rfl,e1,e2,e3,e4⟩:=dG7 Tryz.underlying28 Tryz.underlying3 (by kernel_rfl) g11 k11
 have q1:(rows.map gN2).length=rows.length:=qv _
 have q2:(rows2.map dL5).length=rows2.length:=qv _
 have q3:(rows3.map gX5).length=rows3.length:=qv _
 refine ⟨⟨rows.map gN2,inp,rows2.map dL5⟩,⟨⟨wide,high,room⟩,nr,sy,en,bits,dead⟩,cores,rows3.map gX5,ticks,pn,cn,bn,on,qs,cs,bs,os,pd,cd,bd,od,pc,cc,bc,oc,pe,ce,be,oe,by unfold lM6;rw [q1,q2,q3],⟨?_,hinp,?_⟩,⟨⟨hwide,hhigh,hroom⟩,hnr,hsy,hen,hbits,d4⟩,e4,?_,hti,⟨by rw [q1];exact a2,by rw [q2];exact b2,d2,e2,by rw [q3];exact c2⟩,⟨d1,by rw [q3];exact c1⟩,?_,?_,d3,e3,?_⟩
 ·intro x hx
  obtain ⟨r,hr,rfl⟩:=qo.1 hx
  exact (gY2 (a4 r hr).1 (a4 r hr).2).2
 ·intro x hx
  obtain ⟨r,hr,rfl⟩:=qo.1 hx
  exact (gV3 (b4 r hr).1 (b4 r hr).2).2
 ·intro x hx
  obtain ⟨r,hr,rfl⟩:=qo.1 hx
  exact (gH0 (c4 r hr).1 (c4 r hr).2).2
 ·rw [q1];exact hC5 a3 gN2 fun x hx=>(gY2 (a4 x hx).1 (a4 x hx).2).1
 ·rw [q2];exact hC5 b3 dL5 fun x hx=>(gV3 (b4 x hx).1 (b4 x hx).2).1
 ·rw [q3];exact hC5 c3 gX5 fun x hx=>(gH0 (c4 x hx).1 (c4 x hx).2).1
end
end Go.Proofs
end
