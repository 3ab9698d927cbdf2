import Derived.Test.YtlbekjokdlkghaaGreatChipKnownCc
import Derived.Test.YtlbekjokdlkghaaGreatChipKnownMl
set_option linter.unusedVariables false
set_option linter.unusedSimpArgs false
set_option maxHeartbeats 4000000
namespace Go.Gm
structure Prc where
 update:Int
 spike:Int
 hop:Int
 row:Int
 step:Int
def Wrk.wf (w:Wrk):Prop:=I64 w.ticks/\I64 w.updates/\I64 w.spikes/\I64 w.packets/\I64 w.hops/\I64 w.arrivals/\I64 w.rows/\I64 w.steps/\I64 w.most
def Prc.wf (p:Prc):Prop:=I64 p.update/\I64 p.spike/\I64 p.hop/\I64 p.row/\I64 p.step
def outB (m:Int)(l:List Int):Bool:=l.any fun x=>decide (x<0\/m<x)
def cntL (w:Wrk):List Int:=[w.updates,w.spikes,w.hops,w.rows,w.steps]
def othL (w:Wrk):List Int:=[w.ticks,w.packets,w.arrivals,w.most]
def prcL (p:Prc):List Int:=[p.update,p.spike,p.hop,p.row,p.step]
def eneB (w:Wrk)(p:Prc):Bool:=outB 1000000000 (cntL w++othL w) || outB 1000000 (prcL p)
def eneR (w:Wrk)(p:Prc):Int×Int:=if eneB w p then (0,3) else (((cntL w).zip (prcL p)).foldl (fun a x=>a+x.1*x.2) 0,0)
def sumJ (a b:List Int)(j:Nat):Int:=((a.zip b).take j).foldl (fun s x=>s+x.1*x.2) 0
theorem sumJ_next {a b:List Int}{j:Nat}{x y:Int}(hx:a[j]? =some x)(hy:b[j]? =some y):sumJ a b (j+1)=sumJ a b j+x*y:=by
 unfold sumJ
 rw [qi,(List.getElem?_zip_eq_some (z:=(x,y))).2 ⟨hx,hy⟩,qW,Qx]
 rfl
theorem prod_le {x y m n:Int}(hx:0<=x/\x<=m)(hy:0<=y/\y<=n):0<=x*y/\x*y<=m*n:=
 ⟨Int.mul_nonneg hx.1 hy.1,Int.mul_le_mul hx.2 hy.2 hy.1 (Int.le_trans hx.1 hx.2)⟩
theorem outB_false {m:Int}{l:List Int}:outB m l=false<->∀x∈l,0<=x/\x<=m:=by
 unfold outB
 rw [List.any_eq_false]
 constructor
 ·intro h x hx
  have:=h x hx
  simp at this
  omega
 ·intro h x hx
  have:=h x hx
  simp
  omega
theorem outB_true {m:Int}{l:List Int}{x:Int}(h:x∈l)(hx:x<0\/m<x):outB m l=true:=by
 unfold outB
 rw [List.any_eq_true]
 exact ⟨x,h,by simpa using hx⟩
end Go.Gm
namespace Go.Proofs
open Go Go.Vx Go.Gm
def wrkV (w:Wrk):List Value:=[.int .i64 w.ticks,.int .i64 w.updates,.int .i64 w.spikes,.int .i64 w.packets,.int .i64 w.hops,.int .i64 w.arrivals,.int .i64 w.rows,.int .i64 w.steps,.int .i64 w.most]
def prcV (p:Prc):List Value:=[.int .i64 p.update,.int .i64 p.spike,.int .i64 p.hop,.int .i64 p.row,.int .i64 p.step]
theorem out1_vc {w0:World}{H:HP}{K:Value->HP->Prop}(l:List Int)(hl:l.length<=1000)(hI:∀x∈l,I64 x)(g c b6:Nat)(hm:Ent.vec (some ⟨g,0,none⟩) l.length c 3 1 (flat intV l)∈H)(h6:Ent.row b6 142 [.func (.func 50) #[] #[]]∈H)(hK:K (.bool (outB 1000000000 l)) H):VCall Tryz.cx.P w0 [] H 51 [.slice (some ⟨g,0,none⟩) l.length c,.func (.func 53) #[] #[.pointer (some ⟨b6,0,none⟩)]] K:=by
 refine VCall.inl (F:=Tryz.fx51) Tryz.func51 rfl rfl rfl Tryz.ok51 ?_
 repeat' (conv=>whnf);first|(refine VCall.isF 106 ?_;refine VCall.inl (F:=Tryz.fx106) Tryz.func106 rfl rfl rfl Tryz.ok106 ?_)|refine VSeq.go ?_
 all_goals (conv=>whnf)
 refine VLoop.mk (α:=Nat) (fun j=>j<=l.length/\∀x∈l.take j,0<=x/\x<=1000000000) (fun j=>[(1000000,.tuple #[]),(0,.slice (some ⟨g,0,none⟩) l.length c),(1,.func (.func 53) #[] #[.pointer (some ⟨b6,0,none⟩)]),(4,.int .i64 0),(7,.int .i64 (l.length:Int)),(8,.int .i64 (j:Int))])
  (fun _=>H) (fun j=>l.length - j) 0 ⟨by omega,by simp⟩ aE (HLe.refl _) ?_
 rintro j ⟨hj,hall⟩
 dsimp only at hj hall ⊢
 rcases qy j l.length with hlt|hge
 ·obtain ⟨x,hx⟩:∃x,l[j]? =some x:=⟨_,qq hlt⟩
  have hxm:=qz hx
  have hxi:=hI x hxm
  unfold I64 at hxi
  have hbad:(x<0\/1000000000<x)->K (.bool true) H:=fun h=>by rw [outB_true hxm h] at hK;exact hK
  repeat' (conv=>whnf);first|refine oI ?_|(refine VLd.is ?_;refine VLd.mk (Rd.cast (Rd.mVec hm (sub_flat0 (f:=intV) (k:=1) (fun _=>rfl) hx rfl)) oE) ?_)|(refine VLd.is ?_;refine VLd.mk (Rd.cast (Rd.mRow h6 (s:=1) (off:=0) rfl) oE) ?_)|(refine VCall.isF 53 ?_;refine VCall.inl (F:=Tryz.fx53) Tryz.func53 rfl rfl rfl Tryz.ok53 ?_)|(refine VCall.isF 50 ?_;refine VCall.inl (F:=Tryz.fx50) Tryz.func50 rfl rfl rfl Tryz.ok50 ?_)|refine VSeq.go ?_|refine oY fun _=>?_|refine oS (fun _=>?_) fun _=>?_|refine oA ?_
  all_goals (conv=>whnf)
  all_goals first
   |exact hbad qZ
   |(refine VNext.mk (j+1) ⟨by omega,?_⟩ qZ aE (HLe.refl _)
     rw [qi,hx,qW]
     intro k hk
     rcases qH.1 hk with hk|hk
     ·exact hall k hk
     ·simp only [qt] at hk;subst hk;omega)
 ·have hf:outB 1000000000 l=false:=outB_false.2 (by rw [qe hge] at hall;exact hall)
  rw [hf] at hK
  repeat' (conv=>whnf);first|refine VSeq.go ?_|refine oN fun _=>?_|refine oL ?_|refine oV fun _=>?_
  all_goals (conv=>whnf)
  exact hK
theorem out2_vc {w0:World}{H:HP}{K:Value->HP->Prop}(l:List Int)(hl:l.length<=1000)(hI:∀x∈l,I64 x)(g c b6:Nat)(hm:Ent.vec (some ⟨g,0,none⟩) l.length c 3 1 (flat intV l)∈H)(h6:Ent.row b6 142 [.func (.func 50) #[] #[]]∈H)(hK:K (.bool (outB 1000000 l)) H):VCall Tryz.cx.P w0 [] H 51 [.slice (some ⟨g,0,none⟩) l.length c,.func (.func 54) #[] #[.pointer (some ⟨b6,0,none⟩)]] K:=by
 refine VCall.inl (F:=Tryz.fx51) Tryz.func51 rfl rfl rfl Tryz.ok51 ?_
 repeat' (conv=>whnf);first|(refine VCall.isF 106 ?_;refine VCall.inl (F:=Tryz.fx106) Tryz.func106 rfl rfl rfl Tryz.ok106 ?_)|refine VSeq.go ?_
 all_goals (conv=>whnf)
 refine VLoop.mk (α:=Nat) (fun j=>j<=l.length/\∀x∈l.take j,0<=x/\x<=1000000) (fun j=>[(1000000,.tuple #[]),(0,.slice (some ⟨g,0,none⟩) l.length c),(1,.func (.func 54) #[] #[.pointer (some ⟨b6,0,none⟩)]),(4,.int .i64 0),(7,.int .i64 (l.length:Int)),(8,.int .i64 (j:Int))])
  (fun _=>H) (fun j=>l.length - j) 0 ⟨by omega,by simp⟩ aE (HLe.refl _) ?_
 rintro j ⟨hj,hall⟩
 dsimp only at hj hall ⊢
 rcases qy j l.length with hlt|hge
 ·obtain ⟨x,hx⟩:∃x,l[j]? =some x:=⟨_,qq hlt⟩
  have hxm:=qz hx
  have hxi:=hI x hxm
  unfold I64 at hxi
  have hbad:(x<0\/1000000<x)->K (.bool true) H:=fun h=>by rw [outB_true hxm h] at hK;exact hK
  repeat' (conv=>whnf);first|refine oI ?_|(refine VLd.is ?_;refine VLd.mk (Rd.cast (Rd.mVec hm (sub_flat0 (f:=intV) (k:=1) (fun _=>rfl) hx rfl)) oE) ?_)|(refine VLd.is ?_;refine VLd.mk (Rd.cast (Rd.mRow h6 (s:=1) (off:=0) rfl) oE) ?_)|(refine VCall.isF 54 ?_;refine VCall.inl (F:=Tryz.fx54) Tryz.func54 rfl rfl rfl Tryz.ok54 ?_)|(refine VCall.isF 50 ?_;refine VCall.inl (F:=Tryz.fx50) Tryz.func50 rfl rfl rfl Tryz.ok50 ?_)|refine VSeq.go ?_|refine oY fun _=>?_|refine oS (fun _=>?_) fun _=>?_|refine oA ?_
  all_goals (conv=>whnf)
  all_goals first
   |exact hbad qZ
   |(refine VNext.mk (j+1) ⟨by omega,?_⟩ qZ aE (HLe.refl _)
     rw [qi,hx,qW]
     intro k hk
     rcases qH.1 hk with hk|hk
     ·exact hall k hk
     ·simp only [qt] at hk;subst hk;omega)
 ·have hf:outB 1000000 l=false:=outB_false.2 (by rw [qe hge] at hall;exact hall)
  rw [hf] at hK
  repeat' (conv=>whnf);first|refine VSeq.go ?_|refine oN fun _=>?_|refine oL ?_|refine oV fun _=>?_
  all_goals (conv=>whnf)
  exact hK
theorem Energy_any (W:Wrk)(p:Prc)(hW:W.wf)(hp:p.wf)(w:World):Calls Tryz.prog 17 #[.agg (wrkV W).toArray,.agg (prcV p).toArray] w fun e w'=>e=.returned (.tuple #[.int .i64 (eneR W p).1,.int .i64 (eneR W p).2])/\St w [] [] w':=by
 obtain ⟨w1,w2,w3,w4,w5,w6,w7,w8,w9⟩:=hW
 obtain ⟨p1,p2,p3,p4,p5⟩:=hp
 have hcl:(cat [(⟨none,0,cntL W⟩:SlD Int),⟨none,0,othL W⟩])=cntL W++othL W:=by simp [cat]
 have hI1:∀x∈cntL W++othL W,I64 x:=fun x hx=>by
  unfold cntL othL at hx
  simp only [Qw,Qc,qQ,QU,or_false] at hx
  rcases hx with rfl|rfl|rfl|rfl|rfl|rfl|rfl|rfl|rfl<;>assumption
 have hI2:∀x∈prcL p,I64 x:=fun x hx=>by
  unfold prcL at hx
  simp only [qQ,QU,or_false] at hx
  rcases hx with rfl|rfl|rfl|rfl|rfl<;>assumption
 unfold wrkV prcV
 refine enter (C:=Tryz.cx) (F:=Tryz.fx17) (args:=[_,_]) Tryz.func17 rfl rfl rfl Tryz.ok17 (St.start w []) ?_
 repeat' (conv=>whnf);first|(refine VSeq.is ?_;refine VSeq.isN 3 rfl ?_;refine VSeq.cut (at_:=3) (α:=Nat×Nat×Nat×Nat) (fun _=>True) (fun z=>[(1000000,.tuple #[]),(4,.int .i64 0),(5,.int .i64 0),(2,.pointer (some ⟨z.1,0,none⟩)),(6,.pointer (some ⟨z.2.1,0,none⟩)),(7,.slice (some ⟨z.2.2.1,0,none⟩) 5 5),(8,.slice (some ⟨z.2.2.2,0,none⟩) 5 5)]) (fun z=>[.row z.1 36 (wrkV W),.row z.2.1 142 [.func (.func 50) #[] #[]],.vec (some ⟨z.2.2.1,0,none⟩) 5 5 3 1 (flat intV (cntL W)),.vec (some ⟨z.2.2.2,0,none⟩) 5 5 3 1 (flat intV (prcL p))]) ?_ ?_)|refine VSeq.go ?_|refine oL ?_|refine oT ?_|refine oV fun _=>?_|refine oK ?_|refine oH ?_|refine And.intro ?_ ?_
 all_goals (conv=>whnf)
 any_goals exact VMid.mk (_,_,_,_) trivial aE aH
 rintro ⟨b2,b6,b7,b8⟩ _
 dsimp only
 have hcon:=fun (w':World) (g7 g4 g2:Nat) (ha:Sl w' intV 1 (cntL W) (some ⟨g7,0,none⟩) 5 g7 0) (hb:Sl w' intV 1 (othL W) (some ⟨g4,0,none⟩) 4 g4 0) (hc:Sl w' slVs 1 [(⟨some ⟨g7,0,none⟩,5,cntL W⟩:SlD Int),⟨some ⟨g4,0,none⟩,4,othL W⟩] (some ⟨g2,0,none⟩) 2 g2 0)=>concatInt_any [(⟨some ⟨g7,0,none⟩,5,cntL W⟩:SlD Int),⟨some ⟨g4,0,none⟩,4,othL W⟩] (by simp) (by simp [cat,cntL,othL]) (some ⟨g2,0,none⟩) 2 g2 0 w' hc (fun d hd=>by
  simp only [qQ,QU,or_false] at hd
  rcases hd with rfl|rfl
  ·exact ⟨g7,0,ha⟩
  ·exact ⟨g4,0,hb⟩)
 have hcE:∀g7 g4:Nat,cat [(⟨some ⟨g7,0,none⟩,5,cntL W⟩:SlD Int),⟨some ⟨g4,0,none⟩,4,othL W⟩]=cntL W++othL W:=fun _ _=>by simp [cat]
 have hl9:(cntL W++othL W).length=9:=rfl
 have hcon:∀(w':World) (g7 g4 g2:Nat),Sl w' intV 1 (cntL W) (some ⟨g7,0,none⟩) 5 g7 0->Sl w' intV 1 (othL W) (some ⟨g4,0,none⟩) 4 g4 0->Sl w' slVs 1 [(⟨some ⟨g7,0,none⟩,5,cntL W⟩:SlD Int),⟨some ⟨g4,0,none⟩,4,othL W⟩] (some ⟨g2,0,none⟩) 2 g2 0->Calls Tryz.prog 52 #[.slice (some ⟨g2,0,none⟩) 2 2] w' fun e w''=>∃y:Nat×Nat,e=.returned (.slice (some ⟨y.1,0,none⟩) (cntL W++othL W).length y.2)/\True/\St w' [] [.vec (some ⟨y.1,0,none⟩) (cntL W++othL W).length y.2 3 1 (flat intV (cntL W++othL W))] w'':=fun w' g7 g4 g2 ha hb hc=>(hcon w' g7 g4 g2 ha hb hc).mono fun e w'' ⟨y,e1,e2,e3⟩=>by
  rw [hcE] at e1 e2 e3
  obtain ⟨g,hg⟩:=e2 (by rw [hl9];omega)
  rw [hg] at e1 e3
  exact ⟨(g,y.2),e1,trivial,e3⟩
 cases hB1:outB 1000000000 (cntL W++othL W) with
 |true=>
  have hB2:outB 1000000 (prcL p)=outB 1000000 (prcL p):=rfl
  have hE:eneR W p=(0,3):=by unfold eneR eneB;rw [hB1];rfl
  rw [hE]
  repeat' (conv=>whnf);first|(refine VCall.isF 52 ?_;(refine VCall.genR (fun w' hw'=>hcon w' b7 _ _ (Sl.own' (cap:=5) (e:=3) hw' (by simp) (fun _=>rfl) rfl) (Sl.own' (cap:=4) (e:=3) hw' (by exact List.mem_cons_of_mem _ List.mem_cons_self) (fun _=>rfl) rfl) (Sl.own' (cap:=2) (e:=28) hw' (by exact List.mem_cons_self) (fun _=>rfl) rfl)) ?_;rintro ⟨g9,c9⟩ _;dsimp only))|(refine VCall.isF 51 ?_;(first|(refine out1_vc (cntL W++othL W) (by rw [hl9];omega) hI1 g9 c9 b6 (by simp) (by simp) ?_;rw [hB1])|(refine out2_vc (prcL p) (by simp [prcL]) hI2 b8 5 b6 (by show Ent.vec (some ⟨b8,0,none⟩) 5 5 3 1 (flat intV (prcL p))∈_;simp) (by simp) ?_;rw [hB2])))|refine VSeq.go ?_|refine oL ?_|refine oV fun _=>?_
  all_goals (conv=>whnf)
  exact ⟨fun w' hw'=>⟨rfl,hw'.le .nil⟩⟩
 |false=>
  cases hB2:outB 1000000 (prcL p) with
  |true=>
   have hE:eneR W p=(0,3):=by unfold eneR eneB;rw [hB1,hB2];rfl
   rw [hE]
   repeat' (conv=>whnf);first|(refine VCall.isF 52 ?_;(refine VCall.genR (fun w' hw'=>hcon w' b7 _ _ (Sl.own' (cap:=5) (e:=3) hw' (by simp) (fun _=>rfl) rfl) (Sl.own' (cap:=4) (e:=3) hw' (by exact List.mem_cons_of_mem _ List.mem_cons_self) (fun _=>rfl) rfl) (Sl.own' (cap:=2) (e:=28) hw' (by exact List.mem_cons_self) (fun _=>rfl) rfl)) ?_;rintro ⟨g9,c9⟩ _;dsimp only))|(refine VCall.isF 51 ?_;(first|(refine out1_vc (cntL W++othL W) (by rw [hl9];omega) hI1 g9 c9 b6 (by simp) (by simp) ?_;rw [hB1])|(refine out2_vc (prcL p) (by simp [prcL]) hI2 b8 5 b6 (by show Ent.vec (some ⟨b8,0,none⟩) 5 5 3 1 (flat intV (prcL p))∈_;simp) (by simp) ?_;rw [hB2])))|refine VSeq.go ?_|refine oL ?_|refine oV fun _=>?_
   all_goals (conv=>whnf)
   exact ⟨fun w' hw'=>⟨rfl,hw'.le .nil⟩⟩
  |false=>
   have hE:eneR W p=(sumJ (cntL W) (prcL p) 5,0):=by
    unfold eneR eneB
    rw [hB1,hB2]
    rfl
   have hcb:=outB_false.1 hB1
   have hpb:=outB_false.1 hB2
   rw [hE]
   repeat' (conv=>whnf);first|(refine VCall.isF 52 ?_;(refine VCall.genR (fun w' hw'=>hcon w' b7 _ _ (Sl.own' (cap:=5) (e:=3) hw' (by simp) (fun _=>rfl) rfl) (Sl.own' (cap:=4) (e:=3) hw' (by exact List.mem_cons_of_mem _ List.mem_cons_self) (fun _=>rfl) rfl) (Sl.own' (cap:=2) (e:=28) hw' (by exact List.mem_cons_self) (fun _=>rfl) rfl)) ?_;rintro ⟨g9,c9⟩ _;dsimp only))|(refine VCall.isF 51 ?_;(first|(refine out1_vc (cntL W++othL W) (by rw [hl9];omega) hI1 g9 c9 b6 (by simp) (by simp) ?_;rw [hB1])|(refine out2_vc (prcL p) (by simp [prcL]) hI2 b8 5 b6 (by show Ent.vec (some ⟨b8,0,none⟩) 5 5 3 1 (flat intV (prcL p))∈_;simp) (by simp) ?_;rw [hB2])))|refine VSeq.go ?_|refine oL ?_|refine oV fun _=>?_
   all_goals (conv=>whnf)
   refine VLoop.mk (α:=Nat) (fun j=>j<=5/\0<=sumJ (cntL W) (prcL p) j/\sumJ (cntL W) (prcL p) j<=j*1000000000000000) (fun j=>[(1000000,.tuple #[]),(4,.int .i64 0),(5,.int .i64 0),(8,.slice (some ⟨b8,0,none⟩) 5 5),(9,.int .i64 (sumJ (cntL W) (prcL p) j)),(53,.slice (some ⟨b7,0,none⟩) 5 5),(54,.int .i64 5),(55,.int .i64 (j:Int))])
    (fun j=>[.vec (some ⟨b7,0,none⟩) 5 5 3 1 (flat intV (cntL W)),.vec (some ⟨b8,0,none⟩) 5 5 3 1 (flat intV (prcL p))]) (fun j=>5 - j) 0 ⟨by omega,(show (0:Int)<=0 by decide),(show (0:Int)<=((0:Nat):Int)*1000000000000000 by decide)⟩ aE aH ?_
   rintro j ⟨hj,hs1,hs2⟩
   rcases qy j 5 with hlt|hge
   ·obtain ⟨x,hx⟩:∃x,(cntL W)[j]? =some x:=⟨_,qq (by show j<5;omega)⟩
    obtain ⟨y,hy⟩:∃y,(prcL p)[j]? =some y:=⟨_,qq (by show j<5;omega)⟩
    have hpr:=prod_le (hcb x (QW _ (qz hx))) (hpb y (qz hy))
    have hnx:=sumJ_next hx hy
    obtain ⟨z,hz⟩:=gX (x*y)
    rw [hz] at hpr hnx
    repeat' (conv=>whnf);first|refine oI ?_|(refine VLd.is ?_;refine VLd.mk (Rd.cast (.vec aT (sub_flat0 (f:=intV) (k:=1) (fun _=>rfl) hx rfl)) oE) ?_)|(refine VLd.is ?_;refine VLd.mk (Rd.cast (.vec aT (sub_flat0 (f:=intV) (k:=1) (fun _=>rfl) hy rfl)) oE) ?_)|(refine VAr.is ?_;refine VAr.mul hz qZ qZ ?_)|refine VSeq.go ?_|refine oY fun _=>?_|refine oA ?_
    all_goals (conv=>whnf)
    exact VNext.mk (j+1) ⟨by omega,by omega,by omega⟩ qZ (by rw [hnx];exact aE) aH
   have hje:j=5:=by omega
   subst hje
   repeat' (conv=>whnf);first|refine VSeq.go ?_|refine oN fun _=>?_|refine oL ?_|refine oV fun _=>?_
   all_goals (conv=>whnf)
   exact ⟨fun w' hw'=>⟨rfl,hw'.le .nil⟩⟩
end Go.Proofs
