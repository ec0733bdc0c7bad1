/- A part of the proof: Df1, Sp1, Sp2, RefPeer, Boxes, Sp3, Sp4. -/
import Derived.Test.YtifkacnoiocebaaGreatDz27
import Derived.Deep.MidRow
set_option linter.unusedVariables false
set_option linter.unusedSimpArgs false
set_option maxRecDepth 100000
set_option maxHeartbeats 8000000
namespace Go.Proofs.YtifkacnoiocebaaGreat
open aj Go.Maps Go.RowKit
theorem OC (a b x y:Nat) (h1:a≤15) (h2:b≤15) (h3:x≤7) (h4:y≤7):dH ⟨(a:Int),(b:Int),(x:Int),(y:Int)⟩=true:=by
 simp only[dH,aZ,Bool.and_eq_true,decide_eq_true_eq]
 omega
theorem oZ (c:Nat) (hc:c<16384):dH (pk c)=true:=OC (c / 1024) (c / 64 % 16) (c / 8 % 8) (c % 8) (by omega) (by omega) (by omega) (by omega)
theorem wC (c:Nat) (hc:c<16384):iV (pk c)=c:=by
 simp only[iV,pk,Int.toNat_natCast]
 omega
def iC (ds:List Dev) (ls:List ah) (K:Nat) (x:Pl) (c:Nat):Bool:=aF ds ls K x (aH c)
theorem BM (ds:List Dev) (ls:List ah) (K:Nat) (x:Pl) (c:Nat) (hc:c<16384):decide (0≤iR ds ls K x (pk c))=iC ds ls K x c:=by
 rw[Bool.eq_iff_iff,decide_eq_true_eq,Ll,wC c hc]
 exact⟨fun h=>h.2,fun h=>⟨oZ c hc,h⟩⟩
def z8 (N:Nat) (x:Pl):Value:=.agg #[.pointer (some ⟨N,0,none⟩),.int .i64 x.1,.int .i64 x.2]
theorem Hw (N:Nat) (ds:List Dev) (ls:List ah) (K:Nat) (x:Pl) (hx:eU x) (c:Nat) (hc:c<16384) (W:World) (h:kZ W N ds ls K):
  Calls Tryz.prog 45 #[z8 N x,fQ c] W fun e W'=>e= .returned (.bool (iC ds ls K x c))∧RowKit.Below W.heap.size W W':=by
 have HR:=hide (fun(w':World) (hb:RowKit.Below W.heap.size W w')=>Fe N ds ls K x hx (pk c) w' (h.below hb))
 have MH:=hide (BM ds ls K x c hc)
 have Kh:=hide (Kl c)
 unfold z8
 rw[Kl]
 clear h
 obtain⟨x1,x2⟩:=x
 generalize pk c=p at*
 obtain⟨a,b,s,d⟩:=p
 simp only at*
 generalize iC ds ls K (x1,x2) c=R at*
 generalize iR ds ls K (x1,x2) ⟨a,b,s,d⟩=Q at*
 go_enter Tryz.func45,Tryz.ntmps45
 go_wp2_with fail
 have hb2:=(below_alloc2 W (.cells #[.pointer (some ⟨N,0,none⟩),.int .i64 x1,.int .i64 x2] 107)).trans ((below_alloc2 (W.alloc (.cells #[.pointer (some ⟨N,0,none⟩),.int .i64 x1,.int .i64 x2] 107)) (.cells #[.int .i64 a,.int .i64 b,.int .i64 s,.int .i64 d] 29)).mono (below_alloc2 W _).size)
 refine(HR.out _ hb2).mono ?_
 rintro e w3 ⟨rfl,hb⟩
 have HB3:=hide (hb2.trans (hb.mono hb2.size))
 clear hb hb2 HR
 go_wp2
 go_ret
 exact⟨bX (by simp[← MH.out]),HB3.out⟩
theorem Lm (Na Nb:Nat) (VY VZ:List Dev) (V5 lsb:List ah) (Ka Kb:Nat) (x y:Pl) (hx:eU x) (hy:eU y) (W:World) (ha:kZ W Na VY V5 Ka) (hb:kZ W Nb VZ lsb Kb):
  Calls Tryz.prog 44 #[.func (.func 45) #[z8 Na x] #[],.func (.func 45) #[z8 Nb y] #[]] W fun e W'=>e= .returned (nT (mV (iC VY V5 Ka x) (iC VZ lsb Kb y) 16384))∧RowKit.Below W.heap.size W W':=by
 have HA:=hide (fun(c:Nat) (hc:c<16384) (w':World) (hb:RowKit.Below W.heap.size W w')=>Hw Na VY V5 Ka x hx c hc w' (ha.below hb))
 have Hu:=hide (fun(c:Nat) (hc:c<16384) (w':World) (hb':RowKit.Below W.heap.size W w')=>Hw Nb VZ lsb Kb y hy c hc w' (hb.below hb'))
 clear ha hb
 generalize iC VY V5 Ka x=F at*
 generalize iC VZ lsb Kb y=G at*
 generalize z8 Na x=u at*
 generalize z8 Nb y=v at*
 go_enter Tryz.func44,Tryz.ntmps44
 go_wp2_with fail
 have HZ0:=hide (Bx.new W #[.int .i64 0,.int .i64 0,.int .i64 0,.int .i64 0] 29)
 have HB0:=hide (below_alloc2 W (.cells #[.int .i64 0,.int .i64 0,.int .i64 0,.int .i64 0] 29))
 go_loopw [11] (fun i wr=>∃k:Nat,k≤16384∧i= .int .i64 (k:Int)∧Hid (RowKit.Below W.heap.size W wr)∧Hid (Bx wr W.heap.size #[.int .i64 0,.int .i64 0,.int .i64 0,.int .i64 0] 29)∧Hid (∀j,j<k→F j=G j)) (fun i _=>16384 - (intOf i).toNat)
 case atStart=>exact⟨0,Nat.zero_le _,rfl,HB0,HZ0,hide (fun j h=>absurd h (by omega))⟩
 case round=>
  clear HZ0 HB0
  obtain⟨k,hk,rfl,HB,HZ,HE⟩:=hrel
  by_cases hlt:k<16384
  ·obtain⟨x0,x1,x2,x3,hpv⟩:=tC k
   have Kh:=hide hpv
   have ng:=hide (fun w' hb=>hpv▸HA.out k hlt w' hb)
   have xR:=hide (fun w' hb=>hpv▸Hu.out k hlt w' hb)
   have iE:=hide (hpv▸Xm wr k hlt)
   clear hpv
   go_wp2_with fail
   refine iE.out.mono ?_
   clear iE
   rintro e wa ⟨rfl,hba⟩
   have hb2:=hba.trans ((below_alloc2 wa (.cells #[.int .i64 x0,.int .i64 x1,.int .i64 x2,.int .i64 x3] 29)).mono hba.size)
   have Km:=hide (HB.out.trans (hb2.mono HB.out.size))
   have HZp:=hide (HZ.out.below hb2)
   have MI:=hide (Bx.new wa #[.int .i64 x0,.int .i64 x1,.int .i64 x2,.int .i64 x3] 29)
   have hne:W.heap.size≠wa.heap.size:=by have:=HZ.out.lt;have:=hba.size;omega
   clear hba hb2 HB HZ
   go_wp2_with fail
   generalize World.alloc wa _=wp at*
   generalize wa.heap.size=N at*
   obtain⟨f,hf⟩:∃f,F k=f:=⟨_,rfl⟩
   obtain⟨g,hg⟩:∃g,G k=g:=⟨_,rfl⟩
   simp only[hf]at ng
   simp only[hg]at xR
   have Dm:=hide (And.intro hf hg)
   clear hf hg
   refine bB (by kernel_rfl) (by kernel_rfl) ?_
   intro T hT gt hg1 hgi
   have aJ:=hide hg1
   have dZ:=hide hgi
   clear hg1 hgi
   have k0:∀t,(gt t).cell? ⟨N,0,none⟩=some (.int .i64 x0):=fun t=>(MI.out.below (aJ.out t)).get 0 _ rfl
   have k1:∀t,(gt t).cell? ⟨N,1,none⟩=some (.int .i64 x1):=fun t=>(MI.out.below (aJ.out t)).get 1 _ rfl
   have k2:∀t,(gt t).cell? ⟨N,2,none⟩=some (.int .i64 x2):=fun t=>(MI.out.below (aJ.out t)).get 2 _ rfl
   have k3:∀t,(gt t).cell? ⟨N,3,none⟩=some (.int .i64 x3):=fun t=>(MI.out.below (aJ.out t)).get 3 _ rfl
   repeat (go_big_quiet_step ((first | (go_at_call_of 45 (u);exact eB aJ.out dZ.out (ng.out _ (Km.out.trans ((aJ.out _).mono Km.out.size)))) | (go_at_call_of 45 (v);exact eB aJ.out dZ.out (xR.out _ (Km.out.trans ((aJ.out _).mono Km.out.size)))))))
   refine wpQuiet_nil ?_
   intro _ hw'
   obtain⟨t,rfl⟩:=hw'
   have V6:=hide (Km.out.trans ((aJ.out t).mono Km.out.size))
   have Ay:=hide (HZp.out.below (aJ.out t))
   have V7:=hide (MI.out.below (aJ.out t))
   generalize gt t=wq at*
   clear aJ dZ k0 k1 k2 k3 Km HZp MI ng xR
   have p0:=V7.out.get 0 _ rfl
   have p1:=V7.out.get 1 _ rfl
   have p2:=V7.out.get 2 _ rfl
   have p3:=V7.out.get 3 _ rfl
   have z0:=Ay.out.get 0 _ rfl
   have z1:=Ay.out.get 1 _ rfl
   have z2:=Ay.out.get 2 _ rfl
   have z3:=Ay.out.get 3 _ rfl
   have f0:=Ay.out.frozen 0
   have f1:=Ay.out.frozen 1
   have f2:=Ay.out.frozen 2
   have f3:=Ay.out.frozen 3
   cases f<;>cases g
   ·go_wp2_with fail
    go_roundw
    case rel=>exact⟨k+1,by omega,by go_num,V6,Ay,hide (fun j hj=>by
     rcases(by omega:j<k∨j=k)with h | rfl
     ·exact HE.out j h
     ·rw[Dm.out.1,Dm.out.2])⟩
    case measure=>simp[intOf];omega
   ·have HR:=hide (tF hlt (by rw[Dm.out.1,Dm.out.2];rfl) HE.out)
    go_wp2
    have lZ:=(((Ay.out.set 0 (.int .i64 x0)).set 1 (.int .i64 x1)).set 2 (.int .i64 x2)).set 3 (.int .i64 x3)
    have y0:=lZ.get 0 (.int .i64 x0) rfl
    have y1:=lZ.get 1 (.int .i64 x1) rfl
    have y2:=lZ.get 2 (.int .i64 x2) rfl
    have y3:=lZ.get 3 (.int .i64 x3) rfl
    refine bodyPost_ret (v:=.tuple #[.agg #[.int .i64 x0,.int .i64 x1,.int .i64 x2,.int .i64 x3],.int .i64 2]) (by simp only[results,Tryz.f44];simp[go_sem,y0,y1,y2,y3]) rfl ⟨by rw[HR.out,Dm.out.1];simp only[nT];rw[Kh.out];rfl,?_⟩
    exact(((V6.out.setCell (Nat.le_refl _) _).setCell (Nat.le_refl _) _).setCell (Nat.le_refl _) _).setCell (Nat.le_refl _) _
   ·have HR:=hide (tF hlt (by rw[Dm.out.1,Dm.out.2];rfl) HE.out)
    go_wp2
    have lZ:=(((Ay.out.set 0 (.int .i64 x0)).set 1 (.int .i64 x1)).set 2 (.int .i64 x2)).set 3 (.int .i64 x3)
    have y0:=lZ.get 0 (.int .i64 x0) rfl
    have y1:=lZ.get 1 (.int .i64 x1) rfl
    have y2:=lZ.get 2 (.int .i64 x2) rfl
    have y3:=lZ.get 3 (.int .i64 x3) rfl
    refine bodyPost_ret (v:=.tuple #[.agg #[.int .i64 x0,.int .i64 x1,.int .i64 x2,.int .i64 x3],.int .i64 1]) (by simp only[results,Tryz.f44];simp[go_sem,y0,y1,y2,y3]) rfl ⟨by rw[HR.out,Dm.out.1];simp only[nT];rw[Kh.out];rfl,?_⟩
    exact(((V6.out.setCell (Nat.le_refl _) _).setCell (Nat.le_refl _) _).setCell (Nat.le_refl _) _).setCell (Nat.le_refl _) _
   ·go_wp2_with fail
    go_roundw
    case rel=>exact⟨k+1,by omega,by go_num,V6,Ay,hide (fun j hj=>by
     rcases(by omega:j<k∨j=k)with h | rfl
     ·exact HE.out j h
     ·rw[Dm.out.1,Dm.out.2])⟩
    case measure=>simp[intOf];omega
  ·have hk4:k=16384:=by omega
   have HR:=hide (Dl (F:=F) (G:=G) (n:=16384) (fun j hj=>HE.out j (by omega)))
   have z0:=HZ.out.get 0 _ rfl
   have z1:=HZ.out.get 1 _ rfl
   have z2:=HZ.out.get 2 _ rfl
   have z3:=HZ.out.get 3 _ rfl
   have f0:=HZ.out.frozen 0
   have f1:=HZ.out.frozen 1
   have f2:=HZ.out.frozen 2
   have f3:=HZ.out.frozen 3
   go_wp2
   have lZ:=(((HZ.out.set 0 (.int .i64 0)).set 1 (.int .i64 0)).set 2 (.int .i64 0)).set 3 (.int .i64 0)
   have y0:=lZ.get 0 (.int .i64 0) rfl
   have y1:=lZ.get 1 (.int .i64 0) rfl
   have y2:=lZ.get 2 (.int .i64 0) rfl
   have y3:=lZ.get 3 (.int .i64 0) rfl
   refine bodyPost_ret (v:=.tuple #[.agg #[.int .i64 0,.int .i64 0,.int .i64 0,.int .i64 0],.int .i64 0]) (by simp only[results,Tryz.f44];simp[go_sem,y0,y1,y2,y3]) rfl ⟨by rw[HR.out];rfl,?_⟩
   exact(((HB.out.setCell (Nat.le_refl _) _).setCell (Nat.le_refl _) _).setCell (Nat.le_refl _) _).setCell (Nat.le_refl _) _
theorem Fq (F:aj.Fn) (a:iq):∀(l:List aj.Fn) (i:Nat),jm (l++[F]) i a=if 0≤jm l i a then jm l i a else if F a=true then((i+l.length:Nat):Int)else -1
 |[],i=>by
  by_cases h:F a=true<;>simp[jm,h]
 |G::l,i=>by
  by_cases h:G a=true
  ·simp[jm,h]
  ·simp only[List.cons_append,jm,h]
   simp only[Bool.false_eq_true,if_false]
   rw[Fq F a l (i+1)]
   simp only[List.length_cons]
   rw[show i+1+l.length=i+(l.length+1) by omega]
def eT (ds:List Dev) (ls:List ah) (k:Nat) (x:Pl) (c:Nat):Int:=iR ds ls k x (pk c)
theorem Kn (ds:List Dev) (ls:List ah) (k:Nat) (x:Pl) (c:Nat) (hc:c<16384):eT ds ls (k+1) x c=if 0≤eT ds ls k x c then eT ds ls k x c else if iC ds ls (k+1) x c=true then((k+1:Nat):Int)else -1:=by
 unfold eT iR iC
 rw[oZ c hc,if_pos rfl,if_pos rfl,wC c hc,List.range_succ,List.map_append,List.map_cons,List.map_nil,Fq]
 simp
theorem ze (ds:List Dev) (ls:List ah) (k:Nat) (x:Pl) (c:Nat) (hc:c<16384):0≤eT ds ls k x c↔iC ds ls k x c=true:=by
 have:=BM ds ls k x c hc
 rw[← this,decide_eq_true_eq]
 exact Iff.rfl
theorem QY (ds:List Dev) (ls:List ah) (x:Pl) (c:Nat) (hc:c<16384):∀k,eT ds ls k x c≤(k:Int)
 |0=>by
  unfold eT iR
  rw[oZ c hc,if_pos rfl]
  by_cases h:aF ds ls 0 x (aH (iV (pk c)))=true<;>simp[jm,h]
 |k+1=>by
  rw[Kn ds ls k x c hc]
  have:=QY ds ls x c hc k
  split
  ·omega
  ·split<;>omega
theorem Xn (ds:List Dev) (ls:List ah) (k:Nat) (x:Pl) (c:Nat) (hc:c<16384) {v:Int} (hv:v=eT ds ls k x c∨(eT ds ls k x c<0∧v=((k+1:Nat):Int))):(0≤v∧v≤(k:Int))↔iC ds ls k x c=true:=by
 rw[← ze ds ls k x c hc]
 have:=QY ds ls x c hc k
 rcases hv with rfl | ⟨h1,rfl⟩<;>omega
theorem aax {F G:aj.Fn} (hF:aj.Below 14 F) (hG:aj.Below 14 G) (h:∀c,c<16384→F (aH c)=G (aH c)):F=G:=by
 funext x
 have e:∀u,u<14→x u=aH (pQ x 14) u:=fun u hu=>(AY x 14 u hu).symm
 rw[hF x _ e,hG x _ e]
 exact h _ (wN x 14)
theorem QZ {ds:List Dev} {ls:List ah} {k:Nat} (h:∀x c,c<16384→iC ds ls (k+1) x c=iC ds ls k x c):aF ds ls (k+1)=aF ds ls k:=by
 funext x
 exact aax (gN.round ds ls (k+1) x) (gN.round ds ls k x) (h x)
def Aa (ds:List Dev) (ls:List ah) (k:Nat) (x:Pl) (c:Nat):Prop:=
 ∃(i:Nat) (d:Dev) (o:Nat),ds[i]?=some d∧aD ls ((i:Int),(o:Int))=some x∧pU d (aD ls ((i:Int),1)).isSome (fun q c=>iC ds ls k ((i:Int),(q:Int)) c) o (c / 1024) (c / 64 % 16) (c / 8 % 8) (c % 8)
theorem zf {ds:List Dev} {ls:List ah} (hd:∀d∈ds,fU d) (hr:∀d∈ds,∀r∈d.rules,r.ok) (k:Nat) (x:Pl) (c:Nat) (hc:c<16384):iC ds ls (k+1) x c=true↔iC ds ls k x c=true∨Aa ds ls k x c:=by
 obtain⟨hf,e⟩:=jA hc
 have h:=Ov (ls:=ls) (x:=x) hd hr hf k
 unfold Gr at h
 rw[e]at h
 exact h
theorem Ko {ds:List Dev} {ls:List ah} (hd:∀d∈ds,fU d) (hr:∀d∈ds,∀r∈d.rules,r.ok) (k:Nat) (x:Pl) (c:Nat) (hc:c<16384) {D:Bool} (hD:D=true↔Aa ds ls k x c):
  (if eT ds ls k x c<0∧D=true then((k+1:Nat):Int)else eT ds ls k x c)=eT ds ls (k+1) x c:=by
 rw[Kn ds ls k x c hc]
 have h1:=ze ds ls k x c hc
 have h2:=zf (ls:=ls) hd hr k x c hc
 rw[← hD]at h2
 have hm: -1≤eT ds ls k x c:=by
  unfold eT iR
  split
  ·exact(Dk _ _ _).1
  ·exact Int.le_refl _
 by_cases h0:0≤eT ds ls k x c
 ·rw[if_neg (fun h=>by omega),if_pos h0]
 ·rw[if_neg h0]
  have h3:¬iC ds ls k x c=true:=fun h=>h0 (h1.2 h)
  by_cases hd:D=true
  ·rw[if_pos ⟨by omega,hd⟩,if_pos (h2.2 (.inr hd))]
  ·rw[if_neg (fun h=>hd h.2),if_neg (fun h=>(h2.1 h).elim h3 hd)]
   omega
theorem told_none {ds:List Dev} {ls:List ah} (hd:∀d∈ds,fU d) (hr:∀d∈ds,∀r∈d.rules,r.ok) {k:Nat} (h:∀x c,c<16384→eT ds ls k x c<0→¬Aa ds ls k x c):aF ds ls (k+1)=aF ds ls k:=
 QZ fun x c hc=>by
  rw[Bool.eq_iff_iff,zf hd hr k x c hc]
  refine⟨fun q=>q.elim id fun q=>?_,.inl⟩
  have h1:=ze ds ls k x c hc
  by_cases h0:0≤eT ds ls k x c
  ·exact h1.1 h0
  ·exact absurd q (h x c hc (by omega))
theorem Q0 {ds:List Dev} {ls:List ah} (hd:∀d∈ds,fU d) (hr:∀d∈ds,∀r∈d.rules,r.ok) {k:Nat} {x:Pl} {c:Nat} (hc:c<16384) (h0:eT ds ls k x c<0) (h:Aa ds ls k x c):aF ds ls (k+1)≠aF ds ls k:=fun e=>by
 have h1:iC ds ls (k+1) x c=true:=(zf hd hr k x c hc).2 (.inr h)
 unfold iC at h1
 rw[e]at h1
 have:=(ze ds ls k x c hc).2 h1
 omega
end Go.Proofs.YtifkacnoiocebaaGreat
namespace Go.Proofs.YtifkacnoiocebaaGreat
open Go.Maps Go.RowKit Go.WideElems
def BO (w:World) (b:Nat) (T:Nat→Int):Prop:=∀c,c<16384→w.cell? ⟨b,c,none⟩=some (.int .i64 (T c))
def Kq (b:Nat):Value:=.slice (some ⟨b,0,none⟩) 16384 16384
structure gV (w:World) (s mb:Nat) (rd:Int) (D:aB→Prop) (blk:aB→Nat) (T:aB→Nat→Int) (M:aB→Option Value):Prop where
 c0:w.cell? ⟨s,0,none⟩=some (.int .i64 rd)
 c1:w.cell? ⟨s,1,none⟩=some (.map (some mb))
 mp:aV Tryz.prog 27 eG eU w mb M
 val:∀x,D x→M x=some (Kq (blk x))
 no:∀x,¬D x→M x=none
 tab:∀x,D x→BO w (blk x) (T x)
 inj:∀x y,D x→D y→blk x=blk y→x=y
 ne:∀x,D x→blk x≠s∧blk x≠mb
 Fu:s≠mb
theorem aV.IY {w:World} {b:Nat} {M:aB→Option Value} (h:aV Tryz.prog 27 eG eU w b M) (x y:Int) (hx:aO x) (hy:aO y):
  (Instr.lookup 42 (.map (some b)) (.agg #[.int .i64 x,.int .i64 y]) false).run Tryz.prog w= .ok ((M (x,y)).getD (.slice none 0 0)) w:=
 (h.UL lW Tryz.underlying42 (z:=.slice none 0 0) (by kernel_rfl) (a:=(x,y)) ⟨hx,hy⟩).2
def og (T:aB→Nat→Int) (x:aB) (c:Nat) (v:Int):aB→Nat→Int:=fun y d=>if y=x∧d=c then v else T y d
section
variable {w w':World} {s mb:Nat} {rd:Int} {D:aB→Prop} {blk:aB→Nat} {T:aB→Nat→Int} {M:aB→Option Value}
theorem gV.same (h:gV w s mb rd D blk T M) (hs:∀b,b=s∨b=mb∨(∃x,D x∧b=blk x)→w'.heap[b]?=w.heap[b]?):gV w' s mb rd D blk T M:=by
 have hc:∀b,b=s∨b=mb∨(∃x,D x∧b=blk x)→∀o,w'.cell? ⟨b,o,none⟩=w.cell? ⟨b,o,none⟩:=fun b hb o=>by
  unfold World.cell?
  rw[hs b hb]
 exact⟨by rw[hc s (.inl rfl)];exact h.c0,by rw[hc s (.inl rfl)];exact h.c1,h.mp.same (hs mb (.inr (.inl rfl))),h.val,h.no,fun x hx c hcc=>by rw[hc _ (.inr (.inr ⟨x,hx,rfl⟩))];exact h.tab x hx c hcc,h.inj,h.ne,h.Fu⟩
end
theorem TI (w:World) (s mb:Nat) (rd:Int) (D:aB→Prop) (blk:aB→Nat) (T:aB→Nat→Int) (M:aB→Option Value) (h:gV w s mb rd D blk T M) (i port:Int) (hx:aO i) (hy:aO port) (hD:D (i,port)) (c:Nat) (hc:c<16384) (k:Int):
  Calls Tryz.prog 64 #[.pointer (some ⟨s,0,none⟩),.int .i64 i,.int .i64 port,.int .i64 (c:Int),.int .i64 k] w fun e w'=>e= .returned (.bool (decide (0≤T (i,port) c) && decide (T (i,port) c≤k)))∧w=w':=by
 have hlk:=h.mp.IY i port hx hy
 rw[h.val _ hD]at hlk
 simp only[Option.getD_some,Kq]at hlk
 have h1:=h.c1
 have h2:=h.tab _ hD c hc
 generalize T (i,port) c=t at*
 generalize blk (i,port)=b at*
 clear h
 have i1:(0:Int)≤(c:Int):=by omega
 have i2:(c:Int)<16384:=by omega
 go_enter Tryz.func64,Tryz.ntmps64
 go_wp2
 all_goals go_ret
 all_goals (rename_i ht;refine⟨?_,rfl⟩;first | (simp[ht];done) | (simp;omega))
theorem MJ {w:World} {b:Nat} {x0 x1 x2 x3:Value} {t:TypeId} (h:w.heap[b]?=some (.cells #[x0,x1,x2,x3] t)):
  w.cell? ⟨b,0,none⟩=some x0∧w.cell? ⟨b,1,none⟩=some x1∧w.cell? ⟨b,2,none⟩=some x2∧w.cell? ⟨b,3,none⟩=some x3:=
 ⟨by rw[cell_of_row _ _ _ _ _ _ h];rfl,by rw[cell_of_row _ _ _ _ _ _ h];rfl,by rw[cell_of_row _ _ _ _ _ _ h];rfl,by rw[cell_of_row _ _ _ _ _ _ h];rfl⟩
theorem tH (a b c d:Nat) (h1:a<16) (h2:b<16) (h3:c<8) (h4:d<8) (W:World):
  Calls Tryz.prog 33 #[.agg #[.int .i64 (a:Int),.int .i64 (b:Int),.int .i64 (c:Int),.int .i64 (d:Int)]] W fun e W'=>e= .returned (.int .i64 ((a*1024+b*64+c*8+d:Nat):Int))∧RowKit.Below W.heap.size W W':=by
 have hx:=heap_alloc_new W (.cells #[.int .i64 (a:Int),.int .i64 (b:Int),.int .i64 (c:Int),.int .i64 (d:Int)] 29)
 have HB:=hide ((RowKit.Below.refl W.heap.size W).alloc (Nat.le_refl _) (.cells #[.int .i64 (a:Int),.int .i64 (b:Int),.int .i64 (c:Int),.int .i64 (d:Int)] 29))
 obtain⟨z0,z1,z2,z3⟩:=MJ hx
 go_enter Tryz.func33,Tryz.ntmps33
 go_wp2_with fail
 generalize W.alloc (.cells #[.int .i64 (a:Int),.int .i64 (b:Int),.int .i64 (c:Int),.int .i64 (d:Int)] 29)=w1 at*
 clear hx
 go_wp2
 go_ret
 refine⟨?_,HB.out⟩
 congr 2
end Go.Proofs.YtifkacnoiocebaaGreat
namespace Go.Proofs.YtifkacnoiocebaaGreat
open Go.RowKit
theorem tJ (a b:Int):(a ==b)=(b ==a):=by
 rw[Bool.eq_iff_iff,beq_iff_eq,beq_iff_eq];exact eq_comm
theorem jJ (dA:Option Addr) (dn dc:Nat) (lA:Option Addr) (ln lc:Nat) (ls:List ah) (x y:Int) (W:World) (hn:ln≤9223372036854775807) (hl:bD ah.cells 4 W W.heap.size lA ln ls):
  Calls Tryz.prog 31 #[.agg #[.slice dA dn dc,.slice lA ln lc],.agg #[.int .i64 x,.int .i64 y]] W fun e W'=>e= .returned (pJ (aD ls (x,y)))∧Below W.heap.size W W':=by
 have HL:=hide (fun(w':World) (hb:RowKit.Below W.heap.size W w')=>show bD ah.cells 4 w' w'.heap.size lA ln ls from hl.below hb hb.size)
 have jL:=hide hl.1
 clear hl
 have hG:∃W0,W0=((W.alloc (.cells #[.slice dA dn dc,.slice lA ln lc] 25)).alloc (.cells #[.int .i64 x,.int .i64 y] 27)).alloc (.cells #[.int .i64 0,.int .i64 0] 27):=⟨_,rfl⟩
 obtain⟨W0,hG⟩:=hG
 have hz:W0.heap.size=W.heap.size+3:=by rw[hG];simp
 have HQ:=hide (fun(w':World) (hb:RowKit.Below W0.heap.size W0 w')=>show(w'.cell? ⟨W.heap.size,1,none⟩=some (.slice lA ln lc)∧w'.cell? ⟨W.heap.size+1,0,none⟩=some (.int .i64 x)∧w'.cell? ⟨W.heap.size+1,1,none⟩=some (.int .i64 y))∧jQ w' (W.heap.size+1+1) 0 0∧RowKit.Below W.heap.size W w' from by
  have kD:jQ W0 (W.heap.size+1+1) 0 0:=by
   rw[hG]
   have:=jQ.new ((W.alloc (.cells #[.slice dA dn dc,.slice lA ln lc] 25)).alloc (.cells #[.int .i64 x,.int .i64 y] 27)) 0 0 27
   simpa using this
  have xZ:=kD.below hb (by omega)
  rw[hz,hG]at hb
  obtain⟨c,h1,h2⟩:=P8 [(#[.slice dA dn dc,.slice lA ln lc],25),(#[.int .i64 x,.int .i64 y],27),(#[.int .i64 0,.int .i64 0],27)] W hb
  exact⟨⟨c 0 _ _ rfl 1 _ rfl,c 1 _ _ rfl 0 _ rfl,c 1 _ _ rfl 1 _ rfl⟩,xZ,h1⟩)
 have HG:=hide hG
 have HR:=hide (RowKit.Below.refl W0.heap.size W0)
 have HZ:=hide hz
 clear hG hz
 go_enter Tryz.func31,Tryz.ntmps31
 go_wp2
 rw[← HG.out]
 go_loopw [6] (fun i wr=>∃k:Nat,k≤ln∧i= .int .i64 k∧Hid (aD ls (x,y)=aD (ls.drop k) (x,y))∧Hid (RowKit.Below W0.heap.size W0 wr)) (fun i _=>ln - (intOf i).toNat)
 case atStart=>exact⟨0,Nat.zero_le _,rfl,hide rfl,HR⟩
 case round=>
  clear HR
  obtain⟨k,hk,rfl,HE,HB⟩:=hrel
  obtain⟨⟨x0,x1,x2⟩,⟨z0,z1,z2,z3⟩,hbW⟩:=HQ.out wr HB.out
  have gD:=hide hbW
  clear hbW
  by_cases hlt:k<ln
  ·obtain⟨r,hr⟩:∃r,ls[k]?=some r:=⟨_,List.getElem?_eq_getElem (by have:=jL.out;omega)⟩
   have HS:=hide (Fv hr (x,y))
   obtain⟨b,o,rfl,_,_⟩:=(HL.out _ gD.out).2 (by omega)
   obtain⟨kD,q0,q1,q2,q3⟩:=oM (HL.out _ gD.out) hr
   have bO:=hide (fun o=>show RowKit.Below W0.heap.size W0 (wr.alloc o)from HB.out.alloc HB.out.size o)
   have v1:=fun o=>(HQ.out _ (bO.out o)).1.2.1
   have v2:=fun o=>(HQ.out _ (bO.out o)).1.2.2
   have v3:=fun o=>(HQ.out _ (bO.out o)).2.1.1
   have v4:=fun o=>(HQ.out _ (bO.out o)).2.1.2.1
   have v5:=fun o=>(HQ.out _ (bO.out o)).2.1.2.2.1
   have v6:=fun o=>(HQ.out _ (bO.out o)).2.1.2.2.2
   have kE:=hide (fun o=>(HQ.out _ (bO.out o)).2.2)
   clear hr
   obtain⟨ra,rp,rb,rq⟩:=r
   cases e1:(ra ==x)
   ·cases e3:(rb ==x)
    ·have HN:=hide (show aD ls (x,y)=aD (ls.drop (k+1)) (x,y)from by rw[HE.out,HS.out];simp only[dh,ah.e1,ah.e2,tJ x,tJ y,e1,e3,Bool.false_and,Bool.and_false,Bool.false_eq_true,if_false])
     go_wp2
     go_roundw
     case rel=>exact⟨k+1,by omega,by go_num,HN,hide (bO.out _)⟩
     case measure=>simp[intOf];omega
    ·cases e4:(rq ==y)
     ·have HN:=hide (show aD ls (x,y)=aD (ls.drop (k+1)) (x,y)from by rw[HE.out,HS.out];simp only[dh,ah.e1,ah.e2,tJ x,tJ y,e1,e3,e4,Bool.false_and,Bool.and_false,Bool.false_eq_true,if_false])
      go_wp2
      go_roundw
      case rel=>exact⟨k+1,by omega,by go_num,HN,hide (bO.out _)⟩
      case measure=>simp[intOf];omega
     ·have HN:=hide (show aD ls (x,y)=some (ra,rp)from by rw[HE.out,HS.out];simp only[dh,ah.e1,ah.e2,tJ x,tJ y,e1,e3,e4,Bool.false_and,Bool.and_false,Bool.and_self,Bool.false_eq_true,if_false,if_true])
      go_wp2
      refine bodyPost_ret (v:=.tuple #[.agg #[.int .i64 ra,.int .i64 rp],.bool true]) (by simp[results,Tryz.results31,go_sem,v3,v4]) rfl ⟨by rw[HN.out];rfl,?_⟩
      exact((kE.out _).setCell (jG _) _).setCell (jG _) _
   ·cases e2:(rp ==y)
    ·cases e3:(rb ==x)
     ·have HN:=hide (show aD ls (x,y)=aD (ls.drop (k+1)) (x,y)from by rw[HE.out,HS.out];simp only[dh,ah.e1,ah.e2,tJ x,tJ y,e1,e2,e3,Bool.false_and,Bool.and_false,Bool.false_eq_true,if_false])
      go_wp2
      go_roundw
      case rel=>exact⟨k+1,by omega,by go_num,HN,hide (bO.out _)⟩
      case measure=>simp[intOf];omega
     ·cases e4:(rq ==y)
      ·have HN:=hide (show aD ls (x,y)=aD (ls.drop (k+1)) (x,y)from by rw[HE.out,HS.out];simp only[dh,ah.e1,ah.e2,tJ x,tJ y,e1,e2,e3,e4,Bool.false_and,Bool.and_false,Bool.false_eq_true,if_false])
       go_wp2
       go_roundw
       case rel=>exact⟨k+1,by omega,by go_num,HN,hide (bO.out _)⟩
       case measure=>simp[intOf];omega
      ·have HN:=hide (show aD ls (x,y)=some (ra,rp)from by rw[HE.out,HS.out];simp only[dh,ah.e1,ah.e2,tJ x,tJ y,e1,e2,e3,e4,Bool.false_and,Bool.and_false,Bool.and_self,Bool.false_eq_true,if_false,if_true])
       go_wp2
       refine bodyPost_ret (v:=.tuple #[.agg #[.int .i64 ra,.int .i64 rp],.bool true]) (by simp[results,Tryz.results31,go_sem,v3,v4]) rfl ⟨by rw[HN.out];rfl,?_⟩
       exact((kE.out _).setCell (jG _) _).setCell (jG _) _
    ·have HN:=hide (show aD ls (x,y)=some (rb,rq)from by rw[HE.out,HS.out];simp only[dh,ah.e1,ah.e2,tJ x,tJ y,e1,e2,Bool.false_and,Bool.and_false,Bool.and_self,Bool.false_eq_true,if_false,if_true])
     go_wp2
     refine bodyPost_ret (v:=.tuple #[.agg #[.int .i64 rb,.int .i64 rq],.bool true]) (by simp[results,Tryz.results31,go_sem,v3,v4]) rfl ⟨by rw[HN.out];rfl,?_⟩
     exact((kE.out _).setCell (jG _) _).setCell (jG _) _
  ·have HN:=hide (show aD ls (x,y)=none from by rw[HE.out,List.drop_of_length_le (by have:=jL.out;omega)];rfl)
   go_wp2
   refine bodyPost_ret (v:=.tuple #[.agg #[.int .i64 0,.int .i64 0],.bool false]) (by simp[results,Tryz.results31,go_sem,z0,z1]) rfl ⟨by rw[HN.out];rfl,?_⟩
   exact(gD.out.setCell (jG _) _).setCell (jG _) _
open Go.Maps
def dO (w:World) (N:Nat) (vs:Array Value):Prop:=(∀(j:Nat) (v:Value),vs[j]?=some v→w.cell? ⟨N,j,none⟩=some v)∧∀o,w.frozen? ⟨N,o,none⟩=false
theorem dO.of_block {w:World} {N:Nat} {vs:Array Value} {t:TypeId} (h:w.heap[N]?=some (.cells vs t)):dO w N vs:=
 ⟨fun j v hv=>by rw[cell_of_row _ _ _ _ _ _ h];exact hv,fun o=>by unfold World.frozen?;simp only[h];simp⟩
theorem dO.new (w:World) (vs:Array Value) (t:TypeId):dO (w.alloc (.cells vs t)) w.heap.size vs:=dO.of_block (heap_alloc_new w _)
theorem dO.below {w w':World} {B N:Nat} {vs:Array Value} (h:dO w N vs) (hB:Below B w w') (hN:N<B):dO w' N vs:=
 ⟨fun j v hv=>(hB.cell (p:=⟨N,j,none⟩) hN).trans (h.1 j v hv),fun o=>(hB.frozen (p:=⟨N,o,none⟩) hN).trans (h.2 o)⟩
theorem dO.set {w:World} {N:Nat} {vs:Array Value} (h:dO w N vs) (j:Nat) (v:Value):dO (w.setCell ⟨N,j,none⟩ v) N (vs.setIfInBounds j v):=by
 refine⟨fun i u hu=>?_,fun o=>by rw[World.frozen?_setCell];exact h.2 o⟩
 by_cases e:j=i
 ·subst e
  rw[Array.getElem?_setIfInBounds_self]at hu
  split at hu
  ·rename_i hj
   cases hu
   exact World.cell?_setCell_same _ _ _ (h.1 j _ (Array.getElem?_eq_getElem hj))
  ·cases hu
 ·rw[Array.getElem?_setIfInBounds_ne e]at hu
  rw[World.cell?_setCell_other _ _ _ _ (by simp[Ne.symm e])]
  exact h.1 i u hu
theorem dO.far {w:World} {N:Nat} {vs:Array Value} (h:dO w N vs) (a:Addr) (v:Value) (hne:a.block≠N):dO (w.setCell a v) N vs:=by
 refine⟨fun i u hu=>?_,fun o=>by rw[World.frozen?_setCell];exact h.2 o⟩
 rw[World.cell?_setCell_other _ _ _ _ (by intro e;apply hne;rw[e])]
 exact h.1 i u hu
theorem Y4:∀(l:List (Array Value×TypeId)) (W:World) (i:Nat) c t,l[i]?=some (c,t)→(l.foldl (fun w x=>w.alloc (.cells x.1 x.2)) W).heap[W.heap.size+i]?=some (.cells c t):=by
 intro l
 induction l with
 |nil=>intro W i c t h;simp at h
 |cons x l ih=>
  intro W i c t h
  have hz:(W.alloc (.cells x.1 x.2)).heap.size =W.heap.size+1:=by simp
  simp only[List.foldl_cons]
  cases i with
  |zero=>
   cases h
   obtain⟨_,hb,_⟩:=P8 l (W.alloc (.cells c t)) (Below.refl _ _)
   rw[hz]at hb
   rw[Nat.add_zero,hb.block _ (Nat.lt_succ_self _)]
   exact heap_alloc_new W _
  |succ i=>
   have:=ih (W.alloc (.cells x.1 x.2)) i c t (by simpa using h)
   rw[hz]at this
   rw[show W.heap.size+(i+1)=W.heap.size+1+i by omega]
   exact this
open Go.WideElems
theorem TJ (w:World) (nA pS kA mA:Nat) (n:aC) (hn:n.ln≤9223372036854775807) (hl:bD ah.cells 4 w w.heap.size n.lA n.ln n.ls) (hA:dO w nA #[.slice n.dA n.dn n.dc,.slice n.lA n.ln n.lc]) (i port:Int) (p:P4)
  (hp:aD n.ls (i,port)=none):
  Calls Tryz.prog 32 #[.int .i64 i,.int .i64 port,.agg #[.int .i64 p.src,.int .i64 p.dst,.int .i64 p.dz,.int .i64 p.dU],.pointer (some ⟨nA,0,none⟩),.pointer (some ⟨pS,0,none⟩),.pointer (some ⟨kA,0,none⟩),.pointer (some ⟨mA,0,none⟩)] w fun e w'=>e= .returned (.tuple #[])∧RowKit.Below w.heap.size w w':=by
 have HB:=hide (fun(o:Obj)=>show RowKit.Below w.heap.size w (w.alloc o)from(RowKit.Below.refl _ _).alloc (Nat.le_refl _) o)
 have a0:=fun(o:Obj)=>(hA.below (HB.out o) (jO (hA.1 0 _ rfl))).1 0 _ rfl
 have a1:=fun(o:Obj)=>(hA.below (HB.out o) (jO (hA.1 0 _ rfl))).1 1 _ rfl
 have fI:=hide (fun(w1:World) (hb:RowKit.Below w.heap.size w w1)=>jJ n.dA n.dn n.dc n.lA n.ln n.lc n.ls i port w1 hn (hl.below hb hb.size))
 clear hl hA
 rw[hp]at fI
 go_enter Tryz.func32,Tryz.ntmps32
 go_wp2_with fail
 refine(fI.out _ (HB.out _)).mono ?_
 clear fI
 rintro en w1 ⟨rfl,hb0⟩
 have hb:=(HB.out _).trans (hb0.mono (HB.out _).size)
 clear hb0 a0 a1
 generalize World.alloc w _=wz at*
 have HB2:=hide hb
 clear hb HB
 simp only[pJ]
 go_wp2
 generalize hW1:World.alloc w1 _=W1
 have hb1:RowKit.Below w.heap.size w W1:=by rw[← hW1];exact HB2.out.alloc HB2.out.size _
 clear hW1 HB2
 refine aY (fun w'=>RowKit.Below w.heap.size w w') 13 (by kernel_rfl) hb1.drew (fun hS=>?_)
 refine rP 0 hS ?_
 refine rP 1 hS ?_
 refine rK 2 hS ?_
 refine rK 3 hS ?_
 refine rK 4 hS ?_
 refine rK 5 hS ?_
 refine rK 6 hS ?_
 refine rK 7 hS ?_
 refine rK 8 hS ?_
 refine rK 9 hS ?_
 refine rK 10 hS ?_
 refine rK 11 hS ?_
 refine rK 12 hS ?_
 intro inv
 refine rT 13 inv fun K hK=>?_
 go_simp
 refine hK.out _ _ ?_
 clear hK K inv
 intro inv
 try simp only[Act.put,aK,aL,aM]
 refine rD ?_
 clear inv
 go_wp2
 go_end0
 exact⟨rfl,hS⟩
structure KC (C:Nat→Prop) (w w':World):Prop where
 low:RowKit.Below 0 w w'
 same:∀b,b<w.heap.size→¬C b→w'.heap[b]?=w.heap[b]?
section
variable {C C':Nat→Prop} {w w' w'':World} {B:Nat}
theorem KC.refl (C:Nat→Prop) (w:World):KC C w w:=⟨RowKit.Below.refl _ _,fun _ _ _=>rfl⟩
theorem KC.size (h:KC C w w'):w.heap.size≤w'.heap.size:=h.low.size
theorem KC.trans (h:KC C w w') (k:KC C w' w''):KC C w w'':=⟨h.low.trans k.low,fun b hb hn=>(k.same b (Nat.lt_of_lt_of_le hb h.size) hn).trans (h.same b hb hn)⟩
theorem KC.of_below (hb:RowKit.Below w.heap.size w w'):KC C w w':=⟨hb.mono (Nat.zero_le _),fun b h _=>hb.block b h⟩
theorem KC.kH (a:Addr) (v:Value) (h:C a.block):KC C w (w.setCell a v):=
 ⟨(RowKit.Below.refl 0 w).setCell (Nat.zero_le _) v,fun b hb hn=>RowKit.Below.heap_setCell w a v b (fun e=>hn (e▸h))⟩
theorem KC.to (h:KC C w w') (hB:B≤w.heap.size) (hC:∀b,C b→B≤b):RowKit.Below B w w':=
 ⟨h.low.os,h.low.tape,h.low.output,h.low.size,fun b hb=>h.same b (Nat.lt_of_lt_of_le hb hB) (fun hc=>Nat.lt_irrefl _ (Nat.lt_of_lt_of_le hb (hC b hc)))⟩
theorem dO.same {N:Nat} {vs:Array Value} (h:dO w N vs) (hs:w'.heap[N]?=w.heap[N]?):dO w' N vs:=
 ⟨fun j v hv=>by rw[World.cell?_of_block (w:=w) (a:=⟨N,j,none⟩) hs];exact h.1 j v hv,fun o=>(World.frozen?_of_block (a:=⟨N,o,none⟩) hs).trans (h.2 o)⟩
theorem Bx.kc {N:Nat} {vs:Array Value} {t:TypeId} (h:Bx w N vs t) (k:KC C w w') (hN:¬C N):Bx w' N vs t:=h.same (k.same N h.lt hN)
end
structure SE where
 (B N nA pS kA mA s mb:Nat)
 n:aC
 k:Nat
 D:aB→Prop
 blk:aB→Nat
 M:aB→Option Value
def SE.C (E:SE) (b:Nat):Prop:=b=E.mA∨∃x,E.D x∧b=E.blk x
structure SE.Ok (E:SE):Prop where
 fix:∀b,b=E.nA∨b=E.pS∨b=E.kA∨b=E.s∨b=E.mb→E.B≤b∧b<E.N∧¬E.C b
 Q5:∀b,E.C b→E.B≤b∧b<E.N
 mx:∀x,E.D x→E.blk x≠E.mA
 ln:E.n.ls.length≤15
 peer:∀x y,aD E.n.ls x=some y→E.D y
 dom:∀x,E.D x→aO x.1∧aO x.2
 kb:E.k≤1000000000
 BN:E.B≤E.N
structure rF (E:SE) (w:World) (T:aB→Nat→Int) (more:Bool):Prop where
 sz:E.N≤w.heap.size
 net:bq w E.B E.n
 nb:dO w E.nA #[.slice E.n.dA E.n.dn E.n.dc,.slice E.n.lA E.n.ln E.n.lc]
 sp:dO w E.pS #[.pointer (some ⟨E.s,0,none⟩)]
 kk:dO w E.kA #[.int .i64 (E.k:Int)]
 mo:dO w E.mA #[.bool more]
 st:gV w E.s E.mb 0 E.D E.blk T E.M
 fr:∀x,E.D x→∀o,w.frozen? ⟨E.blk x,o,none⟩=false
section
variable {E:SE} {w w':World} {T:aB→Nat→Int} {more:Bool}
theorem rF.below (h:rF E w T more) (hE:E.Ok) (hb:RowKit.Below E.N w w'):rF E w' T more:=by
 have hs:∀b,b=E.nA∨b=E.pS∨b=E.kA∨b=E.s∨b=E.mb→w'.heap[b]?=w.heap[b]?:=fun b hh=>hb.block b (hE.fix b hh).2.1
 have hc:∀b,E.C b→w'.heap[b]?=w.heap[b]?:=fun b hh=>hb.block b (hE.Q5 b hh).2
 refine⟨Nat.le_trans h.sz hb.size,h.net.below (hb.mono hE.BN) (Nat.le_refl _),h.nb.same (hs _ (.inl rfl)),h.sp.same (hs _ (.inr (.inl rfl))),h.kk.same (hs _ (.inr (.inr (.inl rfl)))),h.mo.same (hc _ (.inl rfl)),h.st.same ?_,fun x hx o=>?_⟩
 ·rintro b (rfl | rfl | ⟨x,hx,rfl⟩)
  ·exact hs _ (.inr (.inr (.inr (.inl rfl))))
  ·exact hs _ (.inr (.inr (.inr (.inr rfl))))
  ·exact hc _ (.inr ⟨x,hx,rfl⟩)
 ·exact(World.frozen?_of_block (a:=⟨E.blk x,o,none⟩) (hc _ (.inr ⟨x,hx,rfl⟩))).trans (h.fr x hx o)
theorem rF.up (h:rF E w T more) (hE:E.Ok) (hb:RowKit.Below w.heap.size w w'):rF E w' T more:=h.below hE (hb.mono h.sz)
theorem rF.put (h:rF E w T more) (hE:E.Ok) {x:aB} (hx:E.D x) (c:Nat) (hc:c<16384) (v:Int):rF E (w.setCell ⟨E.blk x,c,none⟩ (.int .i64 v)) (og T x c v) more:=by
 have hB:=(hE.Q5 _ (.inr ⟨x,hx,rfl⟩)).1
 have ho:∀b,b≠E.blk x→(w.setCell ⟨E.blk x,c,none⟩ (.int .i64 v)).heap[b]?=w.heap[b]?:=fun b hb=>RowKit.Below.heap_setCell w _ _ b hb
 have hs:∀b,b=E.nA∨b=E.pS∨b=E.kA∨b=E.s∨b=E.mb→(w.setCell ⟨E.blk x,c,none⟩ (.int .i64 v)).heap[b]?=w.heap[b]?:=fun b hh=>ho b (fun e=>(hE.fix b hh).2.2 (.inr ⟨x,hx,e⟩))
 have hb:RowKit.Below E.B w (w.setCell ⟨E.blk x,c,none⟩ (.int .i64 v)):=(RowKit.Below.refl _ _).setCell hB _
 refine⟨by rw[size_setCell];exact h.sz,h.net.below hb (Nat.le_refl _),h.nb.same (hs _ (.inl rfl)),h.sp.same (hs _ (.inr (.inl rfl))),h.kk.same (hs _ (.inr (.inr (.inl rfl)))),h.mo.same (ho _ (fun e=>hE.mx x hx e.symm)),?_,fun y hy o=>by rw[World.frozen?_setCell];exact h.fr y hy o⟩
 have e1:=hs E.s (.inr (.inr (.inr (.inl rfl))))
 have e2:=hs E.mb (.inr (.inr (.inr (.inr rfl))))
 have g:∀o,World.cell? (w.setCell ⟨E.blk x,c,none⟩ (.int .i64 v)) ⟨E.s,o,none⟩=w.cell? ⟨E.s,o,none⟩:=fun o=>World.cell?_of_block (a:=⟨E.s,o,none⟩) e1
 refine⟨by rw[g];exact h.st.c0,by rw[g];exact h.st.c1,h.st.mp.same e2,h.st.val,h.st.no,?_,h.st.inj,h.st.ne,h.st.Fu⟩
 intro y hy d hd
 by_cases e:y=x
 ·subst e
  by_cases ed:d=c
  ·subst ed
   rw[World.cell?_setCell_same _ _ _ (h.st.tab y hy d hd)]
   simp[og]
  ·rw[World.cell?_setCell_other _ _ _ _ (by first | (simp;done) | (simp;omega) | (intro e;cases e;exact ed rfl))]
   rw[h.st.tab y hy d hd]
   simp[og,ed]
 ·rw[World.cell?_setCell_other _ _ _ _ (by simp;intro h1;exact absurd (h.st.inj _ _ hx hy h1).symm e)]
  rw[h.st.tab y hy d hd]
  simp[og,e]
theorem rF.said (h:rF E w T more) (hE:E.Ok) (b:Bool):rF E (w.setCell ⟨E.mA,0,none⟩ (.bool b)) T b:=by
 have hB:=(hE.Q5 _ (.inl rfl)).1
 have ho:∀c,c≠E.mA→(w.setCell ⟨E.mA,0,none⟩ (.bool b)).heap[c]?=w.heap[c]?:=fun c hc=>RowKit.Below.heap_setCell w _ _ c hc
 have hs:∀c,c=E.nA∨c=E.pS∨c=E.kA∨c=E.s∨c=E.mb→(w.setCell ⟨E.mA,0,none⟩ (.bool b)).heap[c]?=w.heap[c]?:=fun c hh=>ho c (fun e=>(hE.fix c hh).2.2 (.inl e))
 have hb:RowKit.Below E.B w (w.setCell ⟨E.mA,0,none⟩ (.bool b)):=(RowKit.Below.refl _ _).setCell hB _
 refine⟨by rw[size_setCell];exact h.sz,h.net.below hb (Nat.le_refl _),h.nb.same (hs _ (.inl rfl)),h.sp.same (hs _ (.inr (.inl rfl))),h.kk.same (hs _ (.inr (.inr (.inl rfl)))),?_,h.st.same ?_,fun y hy o=>by rw[World.frozen?_setCell];exact h.fr y hy o⟩
 ·have:=h.mo.set 0 (.bool b)
  simpa using this
 ·rintro c (rfl | rfl | ⟨x,hx,rfl⟩)
  ·exact hs _ (.inr (.inr (.inr (.inl rfl))))
  ·exact hs _ (.inr (.inr (.inr (.inr rfl))))
  ·exact ho _ (hE.mx x hx)
end
end Go.Proofs.YtifkacnoiocebaaGreat
