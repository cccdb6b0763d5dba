import Derived.Test.YtpjomdmjohjheaaGreatDoorB3
set_option linter.unusedVariables false
set_option linter.unusedSimpArgs false
set_option maxRecDepth 100000
set_option maxHeartbeats 8000000
section
namespace Go
theorem z0s {fn:Func} {t u v z:Tmp} (h:fn.results=#[.tmp t,.tmp u,.tmp v,.tmp z]) (tmps:Array Value) (P:Program) (w:World) :
  (results fn tmps).run P w=.ok (.tuple #[tmps.getD t undef,tmps.getD u undef,tmps.getD v undef,tmps.getD z undef]) w:=by
 simp [results,h]
end Go
namespace Go.Log
open Go.Lk Go.RowKit Go.Vfs
theorem z6o:∀ (f at':Nat) (b:List Nat),(∀ x ∈ b,x < 256) -> ∀ q ∈ items f at' b,0 <= q.1 -> q.2.length <= mxr /\ ∀ x ∈ q.2,x < 256
 | 0,_,_,_,q,hq=>by simp [items] at hq
 | f + 1,at',b,hb,q,hq=>by
  unfold items at hq;split at hq
  ·simp at hq
  ·
   split at hq
   ·simp at hq
   ·
    split at hq
    ·rw [List.mem_singleton] at hq;subst hq;intro h;simp at h
    ·
     rename_i h1 h2 h3;rcases List.mem_cons.1 hq with rfl | hq
     ·intro _;refine ⟨?_,fun x hx=>hb x (List.mem_of_mem_drop (List.mem_of_mem_take hx))⟩;have:¬ mxr < num (b.take 4):=fun e=>h3 (.inl e);simp only [List.length_take];omega
     ·exact z6o f _ _ (fun x hx=>hb x (List.mem_of_mem_drop hx)) q hq
theorem tw_p {α:Type} (f:α -> Bool):∀ (l:List α) (q:α),q ∈ l.takeWhile f -> f q=true /\ q ∈ l
 | [],q,h=>by simp at h
 | x :: l,q,h=>by
  rw [List.takeWhile_cons] at h;split at h
  ·
   rename_i hx;rcases List.mem_cons.1 h with rfl | h
   ·exact ⟨hx,by simp⟩
   ·have:=tw_p f l q h;exact ⟨this.1,by simp [this.2]⟩
  ·simp at h
theorem z4i {b:List Nat} (h:∀ x ∈ b,x < 256):Recs (whole b).1:=by
 intro r hr;unfold whole wholeI at hr;obtain ⟨q,hq,rfl⟩:=List.mem_map.1 hr;obtain ⟨h1,h2⟩:=tw_p _ _ q hq;exact z6o _ _ _ h q h2 (by simpa using h1)
theorem z9n {X:Ds} {s:ByteArray} {b:List Nat} (h:∀ x ∈ (Go.Proofs.YtpjomdmjohjheaaGreatDoor.readOf X.D X.fc s).1,x < 256) (ho:oneR X s=some b):b.length <= mxr /\ ∀ x ∈ b,x < 256:=by
 unfold oneR at ho;split at ho
 ·exact z4i h b (List.mem_of_head? ho)
 ·cases ho
def numS (o:Option (List Nat)):Nat × Option (List Nat):=match o with | none=>(0,none) | some l=>if 8 <= l.length then (num (l.take 8),some (l.drop 8)) else (0,none)
def endS (o:Option (List Nat)):Int:=match o with | none=>4 | some l=>if l=[] then 0 else 4
theorem man_s (b:List Nat):manN b=if endS (numS (numS (some b)).2).2=0 /\ (numS (some b)).1 <= mxn /\ 1 <= (numS (numS (some b)).2).1 /\ (numS (numS (some b)).2).1 <= mxn then some ((numS (some b)).1,(numS (numS (some b)).2).1) else none:=by
 rcases Nat.lt_or_ge b.length 8 with h | h
 ·
  have e1:numS (some b)=(0,none):=by unfold numS;simp only;rw [if_neg (by omega)]
  rw [e1];have:¬ b.length=16:=by omega
  unfold manN;rw [if_neg (fun e=>this e.1),if_neg (fun e=>by have:=e.1;simp [numS,endS] at this)]
 ·
  have e1:numS (some b)=(num (b.take 8),some (b.drop 8)):=by unfold numS;simp only;rw [if_pos h]
  rw [e1];simp only;rcases Nat.lt_or_ge b.length 16 with h2 | h2
  ·
   have e2:numS (some (b.drop 8))=(0,none):=by unfold numS;simp only;rw [if_neg (by rw [List.length_drop];omega)]
   rw [e2];have:¬ b.length=16:=by omega
   unfold manN;rw [if_neg (fun e=>this e.1),if_neg (fun e=>by have:=e.1;simp [endS] at this)]
  ·
   have e2:numS (some (b.drop 8))=(num ((b.drop 8).take 8),some ((b.drop 8).drop 8)):=by unfold numS;simp only;rw [if_pos (by rw [List.length_drop];omega)]
   rw [e2];simp only;by_cases h16:b.length=16
   ·have e3:(b.drop 8).drop 8=[]:=List.drop_of_length_le (by rw [List.length_drop];omega);have e4:(b.drop 8).take 8=b.drop 8:=List.take_of_length_le (by rw [List.length_drop];omega);rw [e3,e4];unfold manN;simp [endS,h16]
   ·
    have e3:(b.drop 8).drop 8 ≠ []:=fun e=>by have:=congrArg List.length e;simp at this;omega
    unfold manN;rw [if_neg (fun e=>h16 e.1),if_neg (fun e=>by have:=e.1;simp only [endS] at this;rw [if_neg e3] at this;omega)]
def fndR (nm:ByteArray) (X:Ds):(Nat × Nat) × Bool × Int :=
 match flook X.D.files (manf nm) with
 | none=>((0,0),false,0)
 | some _=>match (oneR X (manf nm)).bind manN with
  | none=>((0,0),true,10)
  | some p=>(p,true,0)
end Go.Log
namespace Go.Proofs.YtpjomdmjohjheaaGreatDoor
open Go.RowKit Go.Lk Go.Vfs Go.Log
def RdS (w:World) (R:Nat -> Prop) (g:Nat) (o:Option (List Nat)):Prop:=match o with | none=>RdNo w g | some l=>RdAt w R g l
theorem zb9 (g:Nat) (R:Nat -> Prop) (o:Option (List Nat)) (w:World) (h:RdS w R g o) :
  Calls Tryz.prog 103 #[.pointer (some ⟨g,0,none⟩),.int .i64 8] w fun e w'=>e=.returned (.int .u64 ((numS o).1:Nat)) /\ RdS w' R g (numS o).2 /\ Keeps (·=g) w w':=by
 cases o with
 | none =>
  refine (zdw g 8 (.inr rfl) w h).mono ?_;rintro e w' ⟨rfl,rfl⟩;exact ⟨rfl,h,Keeps.refl _ _⟩
 | some l =>
  rcases Nat.lt_or_ge l.length 8 with hl | hl
  ·
   refine (z9k g 8 (.inr rfl) R l w h hl).mono ?_;rintro e w' ⟨rfl,h1,h2⟩;have e1:numS (some l)=(0,none):=by unfold numS;simp only;rw [if_neg (by omega)]
   rw [e1];exact ⟨rfl,h1,h2⟩
  ·
   refine (z4y g 8 (.inr rfl) R l w h hl).mono ?_;rintro e w' ⟨rfl,h1,h2⟩;have e1:numS (some l)=(num (l.take 8),some (l.drop 8)):=by unfold numS;simp only;rw [if_pos hl]
   rw [e1];exact ⟨rfl,h1,h2⟩
theorem zgx (g:Nat) (R:Nat -> Prop) (o:Option (List Nat)) (w:World) (h:RdS w R g o) :
  Calls Tryz.prog 111 #[.pointer (some ⟨g,0,none⟩)] w fun e w'=>e=.returned (.int .i64 (endS o)) /\ w=w':=by
 cases o with
 | none=>exact end_no g w h
 | some l=>exact end_ok g R l w h
theorem zf1 (l d:Nat) (nm:ByteArray) (X:Ds) (F R:Nat -> Prop) (w:World) (h:DiskAt w d F R X.D X.fc) (hc:w.cell? ⟨l,0,none⟩=some (.pointer (some ⟨d,0,none⟩))) (hc1:w.cell? ⟨l,1,none⟩=some (.string nm)) (h16:nm.size <= 16) (hm:mnB nm=true) :
  Calls Tryz.prog 51 #[.pointer (some ⟨l,0,none⟩)] w fun e w'=>e=.returned (.tuple #[.int .i64 ((fndR nm X).1.1:Nat),.int .i64 ((fndR nm X).1.2:Nat),.bool (fndR nm X).2.1,.int .i64 (fndR nm X).2.2]) /\ Keeps Nb w w':=by
 have hms:(manf nm).size <= maxLen:=z5r h16 (by decide);have FA:=qq (z1c l nm sMan w.drew hc1 (by omega) (by decide));have LA:=qq (zfa d (manf nm) X.D F R X.fc w.drew (h.nb ((Keeps.refl Nb w).drew)) hms);have hlo:lastsOf X.D X.fc (manf nm)=match flook X.D.files (manf nm) with | none=>(0,6) | some b=>(((X.fc b).lasts:Nat),0):=by
  have:=z2y hm h16;rcases z05 X.D (manf nm) with ⟨q1,q2⟩ | ⟨q1,q2,q3⟩ | ⟨b,q1,q2,q3⟩
  ·rw [this] at q1;cases q1
  ·unfold lastsOf;rw [q3,q2]
  ·unfold lastsOf;rw [q3,q2]
 have H:=qq h;clear h;go_enter Tryz.func51,Tryz.ntmps51;go_wp2;refine WT.region (fun u=>u.cell? ⟨l,0,none⟩=some (.pointer (some ⟨d,0,none⟩)) /\ u.cell? ⟨l,1,none⟩=some (.string nm)) 11 12 [0,1,2,3,4,5,6,7,8,9,10,11] (by kernel_rfl) rfl ?_;have HS:Hid ((fun u:World=>u.cell? ⟨l,0,none⟩=some (.pointer (some ⟨d,0,none⟩)) /\ u.cell? ⟨l,1,none⟩=some (.string nm)) w.drew):=qq ⟨hc,hc1⟩;refine WT.t 0 (v:=_) (y:=by rintro w ⟨C1,C2⟩;go_simp;with_reducible rfl) (s:=HS.out) (h:=?_);refine WT.t 1 (v:=_) (y:=by rintro w ⟨C1,C2⟩;go_simp;with_reducible rfl) (s:=HS.out) (h:=?_);refine WT.t 2 (v:=_) (y:=by rintro w ⟨C1,C2⟩;go_simp;with_reducible rfl) (s:=HS.out) (h:=?_);refine WT.t 3 (v:=.pointer (some ⟨d,0,none⟩)) (y:=by rintro w ⟨C1,C2⟩;exact zb (by kernel_rfl) (by rfl) C1) (s:=HS.out) (h:=?_);refine WT.t 4 (v:=_) (y:=by rintro w ⟨C1,C2⟩;go_simp;with_reducible rfl) (s:=HS.out) (h:=?_);refine WT.call 5 (by simp only [qi];rfl) (by kernel_rfl) (by rfl) (by go_simp;first | done | rfl | exact ⟨⟨rfl,rfl⟩,rfl⟩ | exact ⟨⟨rfl,rfl,rfl⟩,rfl⟩) FA.out ?_;rintro _ _ ⟨rfl,rfl⟩;refine ⟨_,rfl,HS.out,?_⟩;simp only [Nat.reduceAdd,qn];refine WT.call 6 (by simp only [qi];rfl) (by kernel_rfl) (by rfl) (by go_simp;first | done | rfl | exact ⟨⟨rfl,rfl⟩,rfl⟩ | exact ⟨⟨rfl,rfl,rfl⟩,rfl⟩ | exact ⟨⟨rfl,rfl,rfl,rfl⟩,rfl⟩) LA.out ?_;rintro _ w1 ⟨rfl,k1⟩;have HS1:Hid ((fun u:World=>u.cell? ⟨l,0,none⟩=some (.pointer (some ⟨d,0,none⟩)) /\ u.cell? ⟨l,1,none⟩=some (.string nm)) w1):=qq ⟨(k1.cell (lt_of_cell (w:=w.drew) hc) (fun e=>e)).trans hc,(k1.cell (lt_of_cell (w:=w.drew) hc1) (fun e=>e)).trans hc1⟩;have K1:=qq (((Keeps.refl Nb w).drew).trans_nb k1);clear HS FA LA k1;have HS:=HS1;refine ⟨_,rfl,HS.out,?_⟩;simp only [Nat.reduceAdd,qn];generalize lastsOf X.D X.fc (manf nm)=lo at hlo ⊢;obtain ⟨la,le⟩:=lo;have HLo:=qq hlo;clear hlo hc hc1;refine WT.t 7 (v:=_) (y:=by rintro w ⟨C1,C2⟩;go_simp;with_reducible rfl) (s:=HS.out) (h:=?_);refine WT.t 8 (v:=_) (y:=by rintro w ⟨C1,C2⟩;go_simp;with_reducible rfl) (s:=HS.out) (h:=?_);refine WT.t 9 (v:=_) (y:=by rintro w ⟨C1,C2⟩;go_simp;with_reducible rfl) (s:=HS.out) (h:=?_);refine WT.t 10 (v:=_) (y:=by rintro w ⟨C1,C2⟩;go_simp;with_reducible rfl) (s:=HS.out) (h:=?_);refine WT.stop (by kernel_rfl) ?_;refine WP.o 11 (v:=_) (y:=by go_simp;first | with_reducible rfl | exact ⟨rfl,rfl⟩) (h:=?_);refine WP.done (by kernel_rfl) ?_;cases hfl:flook X.D.files (manf nm) with
 | none =>
  rw [hfl] at HLo;have e1:le=6:=(congrArg Prod.snd HLo.out)
  subst e1;have HN:Hid (fndR nm X=((0,0),false,0)):=qq (by unfold fndR;rw [hfl]);clear hfl HLo;go_wp2
  (try simp only [Exit.inBlock,Exit.then])
  refine bodyPost_ret (z0s rfl _ _ _) rfl ?_;exact ⟨by rw [HN.out];first | done | rfl,K1.out⟩
 | some fb =>
  rw [hfl] at HLo;have e1:le=0:=(congrArg Prod.snd HLo.out)
  subst e1;have HFL:=qq hfl;clear hfl HLo;have F2:=qq (z1c l nm sMan w1 HS.out.2 (by omega) (by decide));have O2:=qq (zdz l d (manf nm) X F R w1 (H.out.nb K1.out) HS.out.1 hms);clear HS1;go_wp2_with fail;refine F2.out.mono ?_;rintro _ _ ⟨rfl,rfl⟩;go_wp2_with fail;refine O2.out.mono ?_;rintro e2 w2 ⟨ho,k2⟩;have hby:=(z1d H.out (manf nm)).2;have fin:∀ (v:Value) (b:List Nat) (wh:Bool),e2=.returned (.tuple #[v,.bool wh]) -> Bytes w2 (SinceB w1 w2) v b -> b.length <= mxr -> ((wh=false /\ (oneR X (manf nm)).bind manN=none) \/ (wh=true /\ (oneR X (manf nm)).bind manN=manN b)) -> ∃ v b wh,e2=.returned (.tuple #[v,.bool wh]) /\ Bytes w2 (SinceB w1 w2) v b /\ b.length <= mxr /\ (oneR X (manf nm)).bind manN=if wh=true then manN b else none:=by
   rintro v b wh h1 h2 h3 h4;refine ⟨v,b,wh,h1,h2,h3,?_⟩;rcases h4 with ⟨rfl,h4⟩ | ⟨rfl,h4⟩ <;> simp [h4]
  obtain ⟨v,b,wh,rfl,hb,hbl,hm2⟩:∃ v b wh,e2=.returned (.tuple #[v,.bool wh]) /\ Bytes w2 (SinceB w1 w2) v b /\ b.length <= mxr /\ (oneR X (manf nm)).bind manN=if wh=true then manN b else none:=by
   cases hor:oneR X (manf nm) with
   | none =>
    rw [hor] at ho;exact ⟨_,[],false,ho,Bytes.nil _ _,by decide,by simp⟩
   | some b =>
    rw [hor] at ho;obtain ⟨v,ho,hb⟩:=ho;exact ⟨v,b,true,ho,hb,(z9n hby hor).1,by simp⟩
  clear fin ho hby;have RA:=qq (read_at' v b _ w2 hb (by unfold mxr at hbl;omega));have K2:=qq (K1.out.trans_nb k2);obtain ⟨av,cv,rfl,-⟩:=id hb;clear hb hbl k2 O2 F2;go_wp2_with fail;refine RA.out.mono ?_;rintro _ w3 ⟨g,rfl,k3,hrd,hge⟩;have N1:=qq (zb9 g _ (some b) w3 hrd);clear hrd RA;go_wp2_with fail;refine N1.out.mono ?_;rintro _ w4 ⟨rfl,hr4,k4⟩;have N2:=qq (zb9 g _ _ w4 hr4);clear hr4 N1;go_wp2_with fail;refine N2.out.mono ?_;rintro _ w5 ⟨rfl,hr5,k5⟩;have E5:=qq (zgx g _ _ w5 hr5);have K5:Hid (Keeps Nb w w5):=qq (((K2.out.trans_nb k3).own (k:=g) (by have:=K2.out.size;omega) k4).own (k:=g) (by have:=K2.out.size;omega) k5);clear hr5 N2 k3 k4 k5 hge;have hman:=man_s b;rw [hman] at hm2;clear hman;generalize numS (some b)=n1 at hm2 E5 ⊢;obtain ⟨sn,o1⟩:=n1;simp only at hm2 E5 ⊢;generalize numS o1=n2 at hm2 E5 ⊢;obtain ⟨fi,o2⟩:=n2;simp only at hm2 E5 ⊢;generalize endS o2=er at hm2 E5;have hno:(oneR X (manf nm)).bind manN=none -> fndR nm X=((0,0),true,10):=fun e=>by unfold fndR;rw [HFL.out,e]
  have hyes:∀ q,(oneR X (manf nm)).bind manN=some q -> fndR nm X=(q,true,0):=fun q e=>by unfold fndR;rw [HFL.out,e]
  have HM:=qq hm2;have HNO:=qq hno;have HYE:=qq hyes;clear hm2 hno hyes H HS;cases wh
  ·
   have HN:=qq (HNO.out (by rw [HM.out];rfl));go_wp2
   (try simp only [Exit.inBlock,Exit.then])
   refine bodyPost_ret (z0s rfl _ _ _) rfl ?_;exact ⟨by rw [HN.out];first | done | rfl,K5.out⟩
  ·
   go_wp2_with fail;refine E5.out.mono ?_;rintro _ _ ⟨rfl,rfl⟩;rcases Classical.em (er ≠ 0) with h1 | h1
   ·
    have HN:=qq (HNO.out (by rw [HM.out,if_pos trivial,if_neg (fun e=>h1 e.1)]));have t1:(er != 0)=true:=by simpa using h1
    clear h1 E5;go_wp2
    (try simp only [Exit.inBlock,Exit.then])
    refine bodyPost_ret (z0s rfl _ _ _) rfl ?_;exact ⟨by rw [HN.out];first | done | rfl,K5.out⟩
   have h1:=Classical.not_not.1 h1;subst h1;rcases Nat.lt_or_ge mxn sn with h2 | h2
   ·
    have HN:=qq (HNO.out (by rw [HM.out,if_pos trivial,if_neg (fun e=>by omega)]));have t1:decide (2147483647 < (sn:Int))=true:=by unfold mxn at h2;simpa using (by omega:(2147483647:Int) < sn)
    clear h2 E5;go_wp2
    (try simp only [Exit.inBlock,Exit.then])
    refine bodyPost_ret (z0s rfl _ _ _) rfl ?_;exact ⟨by rw [HN.out];first | done | rfl,K5.out⟩
   have t2:decide (2147483647 < (sn:Int))=false:=by unfold mxn at h2;simpa using (by omega:(sn:Int) <= 2147483647)
   rcases Nat.lt_or_ge fi 1 with h3 | h3
   ·
    have HN:=qq (HNO.out (by rw [HM.out,if_pos trivial,if_neg (fun e=>by omega)]));have t1:decide ((fi:Int) < 1)=true:=by simpa using (by omega:(fi:Int) < 1)
    clear h2 h3 E5;go_wp2
    (try simp only [Exit.inBlock,Exit.then])
    refine bodyPost_ret (z0s rfl _ _ _) rfl ?_;exact ⟨by rw [HN.out];first | done | rfl,K5.out⟩
   have t3:decide ((fi:Int) < 1)=false:=by simpa using (by omega:(1:Int) <= fi)
   rcases Nat.lt_or_ge mxn fi with h4 | h4
   ·
    have HN:=qq (HNO.out (by rw [HM.out,if_pos trivial,if_neg (fun e=>by omega)]));have t1:decide (2147483647 < (fi:Int))=true:=by unfold mxn at h4;simpa using (by omega:(2147483647:Int) < fi)
    clear h2 h3 h4 E5;go_wp2
    (try simp only [Exit.inBlock,Exit.then])
    refine bodyPost_ret (z0s rfl _ _ _) rfl ?_;exact ⟨by rw [HN.out];first | done | rfl,K5.out⟩
   have t4:decide (2147483647 < (fi:Int))=false:=by unfold mxn at h4;simpa using (by omega:(fi:Int) <= 2147483647)
   have HN:=qq (HYE.out (sn,fi) (by rw [HM.out,if_pos trivial,if_pos ⟨rfl,h2,h3,h4⟩]));have hw1:IntKind.i64.wrap (sn:Int)=sn:=by unfold mxn at h2;exact IntWalk.i64_in _ (by omega)
   have hw2:IntKind.i64.wrap (fi:Int)=fi:=by unfold mxn at h4;exact IntWalk.i64_in _ (by omega)
   clear h2 h3 h4 E5;go_wp2
   (try simp only [Exit.inBlock,Exit.then])
   refine bodyPost_ret (z0s rfl _ _ _) rfl ?_;exact ⟨by rw [HN.out];first | done | rfl,K5.out⟩
end Go.Proofs.YtpjomdmjohjheaaGreatDoor
end
section
namespace Go.Lk
open Go.RowKit
variable {P:Program} {w w':World} {t e:TypeId} {size bytes:Nat} {z:Value} {a:Act} {s x:Operand} {dst:Option Tmp} {ty:TypeId} {pos:String} {aft:Array Edge} {gd:Option (Nat × Bool)}
theorem ze7 (E:ElemT P t e size bytes z) {v:Value} {ad:Option Addr} {m c2 n base:Nat} {xs news:List Value} (hv:w.ownsRow base e size v n xs) (hs:a.eval s=v) (hx:a.eval x=.slice ad m c2)
  (hsrc:Has w ad news) (hl:news.length=m * size) (h1:∀ u ∈ news,u.oneCell'=true) (h63:n + m <= maxLen) (hbytes:(n + m) * bytes <= 140737488355328) (hb:base <= w.heap.size) :
  ∃ v' w',(execOp a.eval ⟨dst,.call ⟨.builtin .append,#[s,x],#[t,t]⟩,ty,pos,aft,gd⟩).run P w=.ok (.value v') w' /\ (w'.ownsRow base e size v' (n + m) (xs ++ news) /\ w.grownBy w' v.ownBlock):=by
 obtain ⟨v',w',h2,h3,h4,-⟩:=z2u (P:=P) (c:=c2) ty E base n xs news hv hsrc hl h1 h63 hbytes hb;exact ⟨v',w',z59 hs hx h2,h3,h4⟩
end Go.Lk
namespace Go.Proofs.YtpjomdmjohjheaaGreatDoor
open Go.RowKit Go.Lk Go.Vfs Go.Log
theorem zf4 {l:List Nat} {zs:List Int} (h:zs.Perm (l.map fun n:Nat=>(n:Int))) (hs:zs.Pairwise (· <= ·)):∃ ms:List Nat,ms.Perm l /\ ms.Pairwise (· <= ·) /\ zs=ms.map fun n:Nat=>(n:Int):=by
 have hz:∀ z ∈ zs,0 <= z:=fun z hz=>by
  obtain ⟨n,-,rfl⟩:=List.mem_map.1 (h.mem_iff.1 hz);omega
 have e:zs=(zs.map Int.toNat).map fun n:Nat=>(n:Int):=by
  rw [List.map_map]
  conv=>lhs;rw [<- List.map_id zs]
  exact List.map_congr_left fun z hz'=>by have:=hz z hz';simp;omega
 refine ⟨zs.map Int.toNat,?_,?_,e⟩
 ·
  have:=h.map Int.toNat
  rw [List.map_map] at this;have e2:l.map (Int.toNat ∘ fun n:Nat=>(n:Int))=l:=by
   conv=>rhs;rw [<- List.map_id l]
   exact List.map_congr_left fun z _=>by simp
  rwa [e2] at this
 ·rw [List.pairwise_map];exact hs.imp fun h=>Int.toNat_le_toNat h
theorem zbn (v:Value) (l:List Nat) (base:Nat) (w:World) (h:w.ownsRow base 3 1 v l.length (l.map fun n:Nat=>Value.int .i64 n)) (hl:l.length <= 1000000) :
  Calls Tryz.prog 119 #[v] w fun e w'=>e=.returned (.tuple #[]) /\ (∃ ms:List Nat,ms.Perm l /\ ms.Pairwise (· <= ·) /\ w'.ownsRow base 3 1 v l.length (ms.map fun n:Nat=>Value.int .i64 n)) /\ Keeps (fun k=>v.ownBlock=some k) w w':=by
 have hm:∀ l:List Nat,(l.map fun n:Nat=>Value.int .i64 n)=(l.map fun n:Nat=>(n:Int)).map (Value.int .i64):=fun l=>by rw [List.map_map];rfl
 obtain ⟨h1,h2⟩:=id h;rcases h2 with ⟨rfl,h0⟩ | ⟨g,cap,cur,rfl,hbg,hg,hnc,hcm,hcs,htake⟩
 ·have hnil:l=[]:=List.length_eq_zero_iff.1 h0;subst hnil;refine (AnyM.slices_Sort_int_none Tryz.sort119 none 0 w).mono ?_;rintro e w' ⟨rfl,rfl⟩;exact ⟨rfl,⟨[],List.Perm.refl _,List.Pairwise.nil,h⟩,Keeps.refl _ _⟩
 ·have hH:Go.Sort.Holds (Value.int .i64) w g 0 (l.map fun n:Nat=>(n:Int)).toArray:=holds_of_blockI hg (by rw [<- hm,List.length_map];simpa using htake);have key:=AnyM.slices_Sort_int Tryz.sort119 g 0 cap (l.map fun n:Nat=>(n:Int)) w hH (lt_of_block hg) (by rw [List.length_map];omega);rw [List.length_map] at key;refine key.mono ?_;rintro e w' ⟨rfl,n,os,rfl⟩;obtain ⟨ms,k1,k2,k3⟩:=zf4 (List.mergeSort_perm (l.map fun n:Nat=>(n:Int)) fun x y=>decide (x <= y)) ((List.pairwise_mergeSort (le:=fun x y:Int=>decide (x <= y)) (fun a b c h1 h2=>by simp at *;omega) (fun a b=>by simp;omega) _).imp fun h=>by simpa using h);rw [k3];refine ⟨rfl,⟨ms,k1,k2,?_⟩,(Keeps.refl _ w).grown (grownBy_sortedI _) (fun k hk _=>by cases hk;rfl)⟩;rw [hm ms];have:=ownsRow_sortedI (n:=n) (os:=os) (ss:=l.map fun n:Nat=>(n:Int)) (ts:=ms.map fun n:Nat=>(n:Int)) (by simp [k1.length_eq]) hbg hg (by rw [List.length_map];exact hnc) hcm hcs;rw [List.length_map] at this;exact this
theorem el35:ElemT Tryz.prog 35 3 1 8 (.int .i64 0):=⟨by kernel_rfl,by kernel_rfl,rfl,by decide⟩
end Go.Proofs.YtpjomdmjohjheaaGreatDoor
end
section
namespace Go.Lk
open Go.RowKit
variable {P:Program} {w w':World} {F R:Nat -> Prop} {t e:TypeId} {size bytes:Nat} {z:Value} {a:Act} {s x:Operand} {dst:Option Tmp} {ty:TypeId} {pos:String} {aft:Array Edge} {gd:Option (Nat × Bool)}
theorem zeb (ty:TypeId) (E:ElemT P t e size bytes z) {ad ad2:Option Addr} {c2 n c:Nat} (hn:n <= c) :
  (Builtin.append_ #[t,t] ty #[.slice ad n c,.slice ad2 0 c2]).run P w=.ok (.slice ad n c) w:=by
 obtain ⟨i,hi,h4⟩:=Option.map_eq_some_iff.1 E.hi;cases ad2 with
 | none=>cases ad <;> simp [Builtin.append_,run_underlying E.ht,sizeOf,typeInfo,hi,Builtin.lenOf,Builtin.firstCells,hn,storeCells]
 | some p=>cases ad <;> simp [Builtin.append_,run_underlying E.ht,sizeOf,typeInfo,hi,Builtin.lenOf,Builtin.firstCells,hn,storeCells,loadCells,loadCellsFrom]
theorem re_push' (E:ElemT P t e size bytes z) {v:Value} {ad:Option Addr} {m c2 n:Nat} {xs news:List Value} (hv:RowS w F R e size v n xs) (hs:a.eval s=v) (hx:a.eval x=.slice ad m c2)
  (hsrc:Has w ad news) (hl:news.length=m * size) (h1:∀ u ∈ news,u.oneCell'=true) (h63:n + m <= maxLen) (hbytes:(n + m) * bytes <= 140737488355328) :
  ∃ v' w',(execOp a.eval ⟨dst,.call ⟨.builtin .append,#[s,x],#[t,t]⟩,ty,pos,aft,gd⟩).run P w=.ok (.value v') w' /\ IsPush F R e size (n + m) (xs ++ news) w v' w':=by
 rcases Nat.eq_zero_or_pos m with h | h
 ·subst h;have hn:news=[]:=List.length_eq_zero_iff.1 (by omega);subst hn;obtain ⟨k1,k2,a',c,rfl,k4,k5,k6,k7,k8⟩:=id hv;refine ⟨_,w,z59 hs hx (zeb ty E k4),?_⟩;rw [List.append_nil];exact ⟨hv.mono (fun k h=>.inl h) (fun _ h=>h),Nb,Keeps.refl _ _,fun k h=>h.elim⟩
 ·exact z1s E hv hs hx hsrc hl h1 h h63 hbytes
end Go.Lk
namespace Go.Lk
theorem RowS.typed {w:World} {F R:Nat -> Prop} {e:TypeId} {size n:Nat} {v:Value} {xs:List Value} (h:RowS w F R e size v n xs):RowS w (fun k=>F k /\ IsT w e k) R e size v n xs:=by
 obtain ⟨h1,h2,a,c,rfl,h4,h5,h6,h7,h8⟩:=h;refine ⟨h1,h2,a,c,rfl,h4,h5,h6,fun b off e hz=>⟨(h7 b off e hz).1.imp (fun hf=>⟨hf,(h7 b off e hz).2⟩) id,(h7 b off e hz).2⟩,h8.imp id fun ⟨x,y⟩=>⟨x,fun g hg=>⟨y g hg,?_⟩⟩⟩;rcases x.2 with ⟨e,-⟩ | ⟨g',cap,cur,e,-,hb,-⟩
 ·rw [e] at hg;cases hg
 ·rw [e] at hg;cases hg;exact ⟨_,_,hb⟩
end Go.Lk
namespace Go.Log
open Go.Lk Go.RowKit Go.Vfs
variable {w w' w2:World} {l d:Nat} {Fd Rd FL RL FN RN S:Nat -> Prop} {L L':Lg} {X:Ds}
def LUp (w w':World) (l d:Nat) (Fd Rd FL RL:Nat -> Prop) (L:Lg) (X:Ds):Prop :=
 ∃ FL' RL',LgAt w' l d Fd Rd FL' RL' L X /\ (∀ k,FL' k -> FL k \/ w.heap.size <= k) /\ (∀ k,RL' k -> RL k \/ w.heap.size <= k) /\ Keeps FL w w'
theorem LUp.of (h:LgAt w' l d Fd Rd FL RL L X) (hk:Keeps FL w w'):LUp w w' l d Fd Rd FL RL L X:=⟨FL,RL,h,fun _ e=>.inl e,fun _ e=>.inl e,hk⟩
theorem LgAt.lt6 (h:LgAt w l d Fd Rd FL RL L X):6 <= w.heap.size:=by
 have:=h.low l (.inr h.fl);have:=h.ltF l h.fl;omega
theorem LgAt.put {w0 wa:World} {sv lv:Value} {vs:List Value} (h:LgAt wa l d Fd Rd FL RL L X) (hz:wa.heap.size <= w.heap.size) (hd:DiskAt w d Fd Rd X.D X.fc) (hT:∃ cs,w.heap[l]?=some (.cells cs 78 (0,0))) (hs:SetAt w w' l (.cells (lcs d sv lv L') 78 (0,0)))
  (h0:∀ k,(Fd k \/ Rd k \/ FL k \/ RL k) -> k < w0.heap.size) (h6:6 <= w0.heap.size) (hn:NumL L')
  (hb:Bytes w (fun k=>RL k \/ (w0.heap.size <= k /\ k < w.heap.size /\ IsT w 5 k)) sv L'.snap) (hr:RowS w (fun k=>FL k \/ (w0.heap.size <= k /\ k < w.heap.size /\ IsT w 22 k)) (fun _=>False) 22 1 lv L'.recs.length vs)
  (hl:BytesL w (fun k=>RL k \/ (w0.heap.size <= k /\ k < w.heap.size /\ IsT w 5 k)) vs L'.recs) :
  LgAt w' l d Fd Rd (fun k=>FL k \/ (w0.heap.size <= k /\ k < w.heap.size /\ IsT w 22 k)) (fun k=>RL k \/ (w0.heap.size <= k /\ k < w.heap.size /\ IsT w 5 k)) L' X:=by
 obtain ⟨-,-,g3,g4,g5,g6,g7,g8,g9⟩:=h;have g1:=hd;have k:=hs.k;have hll:l < w0.heap.size:=h0 l (.inr (.inr (.inl g3)));have hRl:∀ k,(RL k \/ (w0.heap.size <= k /\ k < w.heap.size /\ IsT w 5 k)) -> ¬ k=l:=fun k e h=>by
  rw [h] at e;exact e.elim (fun e=>(g5 l e).2 g3) (fun e=>by omega)
 have hTl:∀ k,IsT w 22 k -> ¬ k=l:=fun k ht e=>by subst e;obtain ⟨cs,hc⟩:=hT;exact (ht.ne ⟨_,_,hc⟩ (by decide)) rfl
 refine ⟨g1.keeps k (fun k hk e=>(g4 l g3).1 (e ▸ hk)) (fun k hk e=>(g4 l g3).2 (e ▸ hk)),⟨sv,lv,vs,hs.blk,hb.keeps k hRl,hr.keeps k (fun k hk ht=>hTl k ht),hl.keeps k hRl⟩,.inl g3,?_,?_,?_,?_,hn,?_⟩
 ·
  rintro k (e | e)
  ·exact g4 k e
  ·exact ⟨fun e2=>by have:=h0 k (.inl e2);omega,fun e2=>by have:=h0 k (.inr (.inl e2));omega⟩
 ·
  rintro k (e | e)
  ·exact ⟨(g5 k e).1,fun e2=>e2.elim (g5 k e).2 (fun e2=>by have:=h0 k (.inr (.inr (.inr e)));omega)⟩
  ·exact ⟨fun e2=>by have:=h0 k (.inl e2);omega,fun e2=>e2.elim (fun e2=>by have:=h0 k (.inr (.inr (.inl e2)));omega) (fun e2=>(e2.2.2.ne e.2.2 (by decide)) rfl)⟩
 ·
  rintro k (e | e)
  ·exact Nat.lt_of_lt_of_le (g6 k e) (Nat.le_trans hz hs.k.size)
  ·exact Nat.lt_of_lt_of_le e.2.1 hs.k.size
 ·
  rintro k (e | e)
  ·exact Nat.lt_of_lt_of_le (g7 k e) (Nat.le_trans hz hs.k.size)
  ·exact Nat.lt_of_lt_of_le e.2.1 hs.k.size
 ·
  rintro k (e | e | e)
  ·exact g9 k (.inl e)
  ·exact g9 k (.inr e)
  ·omega
end Go.Log
end
section
namespace Go.Proofs.YtpjomdmjohjheaaGreatDoor
open Go.RowKit Go.Lk Go.Vfs Go.Log
theorem z66 (X:Ds) (n:Nat) (ns:List Nat) (L:Lg) (e:Nat):rdl X (n :: ns) L e =
  if (whole (readOf X.D X.fc (sgf L.name n)).1).2.2=true /\ ((readOf X.D X.fc (sgf L.name n)).1.length <= (whole (readOf X.D X.fc (sgf L.name n)).1).2.1 \/ ns=[]) then
   rdl X ns { L with recs:=L.recs ++ (whole (readOf X.D X.fc (sgf L.name n)).1).1,segment:=n,size:=(readOf X.D X.fc (sgf L.name n)).1.length } (whole (readOf X.D X.fc (sgf L.name n)).1).2.1
  else none:=rfl
def ReadD (w:World) (l d:Nat) (Fd Rd FL RL:Nat -> Prop) (X:Ds) (r:Option (Lg × Nat)) (e:Ending) (w':World):Prop :=
 match r with
 | none=>e=.returned (.tuple #[.int .i64 0,.int .i64 10]) /\ DiskAt w' d Fd Rd X.D X.fc /\ Keeps FL w w'
 | some p=>e=.returned (.tuple #[.int .i64 (p.2:Nat),.int .i64 0]) /\ LUp w w' l d Fd Rd FL RL p.1 X
def segL (nm:ByteArray) (first:Nat) (l:List ByteArray):List Nat:=(l.map (sgn nm)).filter fun n=>decide (first <= n)
def NumsI (w6:World) (b6:Nat) (nm:ByteArray) (first:Nat) (l:List ByteArray) (W:World):Prop :=
 ∃ v,W.heap[b6]?=some (.cells #[v] 35 (0,0)) /\ W.ownsRow (w6.heap.size + 2) 3 1 v (segL nm first l).length ((segL nm first l).map fun n:Nat=>Value.int .i64 n) /\ Keeps (fun b=>w6.heap.size <= b \/ b=b6) w6 W
theorem NumsI.book {w6 A B:World} {b6:Nat} {nm:ByteArray} {first:Nat} {l:List ByteArray} (h:NumsI w6 b6 nm first l A) (k:Keeps (Book w6) A B) (hb:b6 < w6.heap.size):NumsI w6 b6 nm first l B:=by
 obtain ⟨v,h1,h2,h3⟩:=h;exact ⟨v,k.at h1 (fun e=>by unfold Book at e;omega),z0a h2 k (fun j hj e=>by unfold Book at e;omega),h3.trans k (fun j hj e=>by unfold Book at e;omega)⟩
def ReadI (X:Ds) (ms:List Nat) (W1:World) (l d:Nat) (Fd Rd FL RL:Nat -> Prop) (L1:Lg) (k:Nat) (Lk:Lg) (en:Nat) (wr:World):Prop :=
 LUp W1 wr l d Fd Rd FL RL Lk X /\ rdl X ms L1 0=rdl X (ms.drop k) Lk en /\ Lk.name=L1.name /\ Lk.recs.length <= k * 2097153
theorem zfb (l d s:Nat) (Fd Rd FL RL:Nat -> Prop) (L:Lg) (X:Ds) (w:World) (h:LgAt w l d Fd Rd FL RL L X) (hv:Vars w) (hs:s <= mxn) (hr0:L.recs=[]) :
  Calls Tryz.prog 59 #[.pointer (some ⟨l,0,none⟩),.int .i64 s] w fun e w'=>∃ r,readR X L s r /\ ReadD w l d Fd Rd FL RL X r e w':=by
 have H:=qq h;have HV:=qq hv;have h6:Hid (6 <= w.heap.size):=qq h.lt6;clear h hv;refine z1b Tryz.func59 rfl ?_;simp only [Tryz.ntmps59,List.size_toArray,List.length_cons,List.length_nil,Nat.reduceAdd,Nat.reduceSub,Array.replicate_succ,Array.replicate_zero,List.push_toArray,List.append_toArray,List.nil_append,List.cons_append];go_wp2_with (first | go_skip | (with_reducible refine zo (t:=40) ?_))
 refine za (vbox1 (v:=.pointer (some ⟨l,0,none⟩)) (by rfl) rfl ?_);intro b2 w1 n1;simp only [Nat.reduceAdd,qn];have B2:=qq n1.blk;have G2:Hid (w.heap.size <= b2 /\ b2 < w1.heap.size):=qq ⟨n1.ge,n1.lt⟩;have K1:=qq n1.k;clear n1;have H1:=qq (H.out.nb K1.out);by_cases h0:s=0
 ·
  have hb2l:b2 ≠ l:=fun e=>by have:=H.out.ltF l H.out.fl;have:=G2.out.1;omega
  have c2:w1.cell? ⟨b2,0,none⟩=some (.pointer (some ⟨l,0,none⟩)):=(cell_of_block B2.out).trans rfl
  obtain ⟨L1,HG,HSN,hnm,hfi,hrc⟩:∃ L1,Hid (LUp w1 w1 l d Fd Rd FL RL L1 X) /\ Hid (snapR X L s=some L1) /\ L1.name=L.name /\ L1.first=L.first /\ L1.recs=[] :=
   ⟨L,qq (LUp.of H1.out (Keeps.refl _ _)),qq (by unfold snapR;rw [if_pos h0]),rfl,rfl,hr0⟩
  have t0:¬ 0 < s:=by omega
  clear h0;obtain ⟨FL1,RL1,H1',hFL1,hRL1,kA⟩:=HG.out;have HA:=qq H1';have KA:=qq kA;have HFL1:=qq hFL1;have HRL1:=qq hRL1;have HNM:=qq hnm;have HFI:=qq hfi;have HRC:=qq hrc;clear H1' hFL1 hRL1 kA HG hnm hfi hrc;go_wp2_with (first | go_skip | (with_reducible refine qv (by decide) ?_))
  refine za (valloc (z:=.slice none 0 0) (by kernel_rfl) ?_);intro b6 wB nB;simp only [Nat.reduceAdd,qn];have B6:=qq nB.blk;have KB:=qq nB.k;have G6:Hid (w1.heap.size <= b6 /\ b6 < wB.heap.size):=qq ⟨nB.ge,nB.lt⟩;clear nB;have HB':=qq (HA.out.nb KB.out);obtain ⟨sv',lv',hcs⟩:=HB'.out.cells;have HC:=qq hcs;have B2B:=qq (KB.out.nb B2.out);have cB2:wB.cell? ⟨b2,0,none⟩=some (.pointer (some ⟨l,0,none⟩)):=(cell_of_block B2B.out).trans rfl;have cl:wB.cell? ⟨l,0,none⟩=some (.pointer (some ⟨d,0,none⟩)):=(cell_of_block (HC.out wB (Keeps.refl _ _))).trans rfl;have FA:=qq (z48 d X.D Fd Rd X.fc wB HB'.out.disk);clear hcs c2;go_wp2_with fail;refine FA.out.mono ?_;rintro _ w6 ⟨ns,hperm,a3,a4,rfl,hfa,k6⟩;obtain ⟨ps,hps⟩:∃ ps,(ns.map fun s=>(s,szOf X.D X.fc s))=ps:=⟨_,rfl⟩
  rw [hps] at hfa;have HPS:=qq hps;have HPM:=qq hperm;have HFA:=qq hfa;have K6:=qq k6;have HLEN:Hid (ps.length=ns.length):=qq (by rw [<- hps,List.length_map]);have W6:Hid (w6.heap[b6]?=some (.cells #[.slice none 0 0] 35 (0,0))):=qq (k6.nb B6.out);have L6:b6 < wB.heap.size:=lt_of_block B6.out;have z36:=k6.size;have HV6:Hid (Vars w6):=qq ((((HV.out.nb K1.out).keeps KA.out (fun k hk e=>by have:=H.out.low k (.inr e);omega)).nb KB.out).nb K6.out);clear hps hperm hfa k6 FA cB2 cl;go_wp2_with (with_reducible refine z0z ?_)
  refine za ((wpIn_wide (n:=9)).1 ?_);have hlw:l < w.heap.size:=H.out.ltF l H.out.fl;have hzA:w1.heap.size <= w1.heap.size:=KA.out.size
  refine z1o (gf:=95) (lb:=#[.pointer (some ⟨a3,0,none⟩),.pointer (some ⟨a4,0,none⟩)]) (by rfl) (enters_of Tryz.func95 (by kernel_rfl) rfl)
   (z2q 8 (by omega) wB.heap.size a3 a4 ps (fun b=>w6.heap.size <= b \/ b=b6) w6 HFA.out (fun b h1 h2 e=>by omega))
   (fun b hb=>.inl (by unfold Book at hb;omega)) (fun i args W h=>by obtain ⟨p,-,rfl⟩:=h;rfl)
   (fun i W=>NumsI w6 b6 L1.name L1.first (ns.take i) W) (fun _ _=>False)
   (fun i A B h k=>h.book k (by omega)) (fun c A B h=>h.elim) ⟨_,W6.out,⟨rfl,.inl ⟨rfl,rfl⟩⟩,Keeps.refl _ _⟩ ?_ ?_ (fun _ _ h=>h.elim)
  ·
   rintro lm i args W rfl hW2 hI hi ⟨p,hp,rfl⟩;simp only [List.zip_toArray,List.zip_cons_cons,List.zip_nil_right,List.foldl_toArray,List.foldl_cons,List.foldl_nil,List.setIfInBounds_toArray,List.set_cons_succ,List.set_cons_zero];have hns:ns[i]?=some p.1:=by
    rw [<- HPS.out,List.getElem?_map] at hp;obtain ⟨s,h1,h2⟩:=Option.map_eq_some_iff.1 hp;rw [h1,<- h2]
   have hmn:mnB p.1=true:=by
    have h1:=HPM.out.mem_iff.1 (List.mem_of_getElem? hns);obtain ⟨q,hq,e⟩:=List.mem_map.1 h1;rw [<- e];exact H.out.disk.names.files q hq
   obtain ⟨nm,sz⟩:=p;have HNS:=qq hns;have hsz:=z16 hmn;have HI:=qq hI;clear hI hp hns hmn
   repeat (first | (with_reducible refine zg ?_) | (with_reducible refine stop_range ?_) | gi_step)
   refine za (zi (by kernel_rfl) (by rintro ⟨_,_,h⟩;exact h) ?_);go_wp2;refine ⟨Keeps.refl _ _,fun W3 k3=>?_⟩;have kb3:Keeps (Book w6) W W3:=k3.mono (fun i _ e=>.inr e);obtain ⟨v,e1,e2,e3⟩:=HI.out.book kb3 (by omega);have KW3:=qq e3;have E1:=qq e1;have E2:=qq e2;have c2:W3.cell? ⟨b2,0,none⟩=some (.pointer (some ⟨l,0,none⟩)):=(cell_of_block (KW3.out.at (K6.out.nb B2B.out) (fun e=>by have:=G2.out;have:=G6.out;omega))).trans rfl;have bl3:W3.heap[l]?=some (.cells (lcs d sv' lv' L1) 78 (0,0)):=KW3.out.at (HC.out w6 K6.out) (fun e=>by have:=G2.out;have:=G6.out;omega)
   have BL3:=qq bl3;have HV3:Hid (Vars W3):=qq (HV6.out.keeps KW3.out (fun k hk e=>by have:=h6.out;have:=G2.out;have:=G6.out;omega));have PA:=qq (z3l l L1.name nm ByteArray.empty W3 HV3.out ((cell_of_block bl3).trans rfl) (by rw [HNM.out];have:=H.out.nums.n16;omega) (by omega) (by decide));have zW3:w6.heap.size + 2 <= W3.heap.size:=by have:=k3.size;omega
   clear k3 e1 e2 e3 kb3 bl3
   repeat (first | (with_reducible refine zg ?_) | (with_reducible refine stop_range ?_) | gi_step)
   refine za (zi (by kernel_rfl) (by rintro ⟨_,_,h⟩;exact h) ?_);go_wp2_with fail;refine PA.out.mono ?_;rintro _ W4 ⟨rfl,k4⟩;have c4:W4.cell? ⟨b2,0,none⟩=some (.pointer (some ⟨l,0,none⟩)):=(k4.cell (lt_of_cell c2) (fun e=>e)).trans c2;have c43:W4.cell? ⟨l,3,none⟩=some (.int .i64 (L1.first:Nat)):=(cell_of_block (k4.nb BL3.out)).trans rfl;have E14:=qq (k4.nb E1.out);have c46:W4.cell? ⟨b6,0,none⟩=some v:=(cell_of_block E14.out).trans rfl;have E24:=qq (z0a E2.out k4 (fun _ _ e=>e));have KW4:=qq k4;clear k4 c2 PA HI;have hsg:pn (fl L1.name ByteArray.empty) nm=sgn L1.name nm:=rfl;rw [hsg];have hsplit:segL L1.name L1.first (ns.take (i + 1))=segL L1.name L1.first (ns.take i) ++ (if L1.first <= sgn L1.name nm then [sgn L1.name nm] else []):=by
    have hil:=(List.getElem?_eq_some_iff.1 HNS.out).1;rw [List.take_succ_eq_append_getElem hil,(List.getElem?_eq_some_iff.1 HNS.out).2];unfold segL;rw [List.map_append,List.filter_append];by_cases hle:L1.first <= sgn L1.name nm <;> simp [hle]
   have HSP:=qq hsplit;clear hsplit hsg;obtain ⟨n,hn⟩:∃ n,sgn L1.name nm=n:=⟨_,rfl⟩
   rw [hn] at HSP ⊢;clear hn;have c43':Hid (W4.cell? ⟨b2,0,none⟩=some (.pointer (some ⟨l,0,none⟩))):=qq c4;by_cases hle:L1.first <= n
   ·
    rw [if_pos hle] at HSP;go_wp2
    repeat (first | (with_reducible refine zg ?_) | (with_reducible refine stop_range ?_) | gi_step)
    refine za (zi (by kernel_rfl) (by rintro ⟨_,_,h⟩;exact h) ?_);go_wp2
    repeat (first | (with_reducible refine zg ?_) | (with_reducible refine stop_range ?_) | gi_step)
    refine za (zi (by kernel_rfl) (by rintro ⟨_,_,h⟩;exact h) ?_);go_wp2_with (first | go_skip | (with_reducible refine qv (by decide) ?_))
    refine za (zj rfl (zl el35 [.int .i64 n] rfl (by simp [List.range'_succ];first | done | rfl | exact ⟨rfl,rfl⟩ | exact ⟨rfl,rfl,rfl⟩ | exact ⟨rfl,rfl,rfl,rfl⟩ | exact ⟨rfl,rfl,rfl,rfl,rfl⟩ | exact ⟨rfl,rfl,rfl,rfl,rfl,rfl⟩) (by simp [Value.cells]) (by simp)) ?_);rintro _ W5 ⟨g8,rfl,n8⟩;simp only [Nat.reduceAdd,qn];have HH8:Hid (Has W5 (some ⟨g8,0,none⟩) [.int .i64 n]):=qq (zm n8.blk);have K5:=qq n8.k;have O5:=qq (z0a E24.out K5.out (fun _ _ e=>e));have zk:(segL L1.name L1.first (ns.take i)).length <= 1000000:=by
     have h1:(segL L1.name L1.first (ns.take i)).length <= (ns.take i).length:=by unfold segL;exact Nat.le_trans (List.length_filter_le _ _) (by simp)
     have h2:=HPM.out.length_eq;have h3:=H.out.disk.nums.nf;simp at h1 h2;omega
    clear n8;go_wp2_with (first | go_skip | (with_reducible refine qv (by decide) ?_))
    refine za (zj rfl (ze7 (base:=w6.heap.size + 2) el35 O5.out (by rfl) (by rfl) HH8.out rfl (by intro u hu;rw [List.mem_singleton.1 hu];rfl) (by unfold maxLen;omega) (by omega) (by have:=KW4.out.size;have:=K5.out.size;omega)) ?_);rintro v2 W6 ⟨o6,g6⟩;simp only [Nat.reduceAdd,qn];obtain ⟨a6,c6,rfl,-,-,-,-⟩:=z08 o6;have hob:∀ k,v.ownBlock=some k -> w6.heap.size + 2 <= k:=fun k e=>by
     rcases E2.out.2 with ⟨e2,-⟩ | ⟨g,cap,cur,e2,hg,-⟩
     ·rw [e2] at e;simp [Value.ownBlock] at e
     ·rw [e2] at e;simp only [Value.ownBlock,Option.some.injEq] at e;omega
    have kk6:Keeps (fun k=>w6.heap.size + 2 <= k) W5 W6:=(Keeps.refl _ W5).grown g6 (fun k hk _=>hob k hk);have b66:W6.heap[b6]?=some (.cells #[v] 35 (0,0)):=kk6.at (K5.out.nb E14.out) (fun e=>by have:=G6.out;omega)
    have kf6:Keeps (fun b=>(w6.heap.size <= b \/ b=b6) /\ ¬ Book w6 b) W3 W6:=((KW4.out.trans_nb K5.out).of_nb).trans kk6 (fun j _ e=>⟨.inl (by omega),fun h=>by unfold Book at h;omega⟩);have O6:=qq o6;clear kk6 g6 o6;go_wp2_with (first | go_skip | (with_reducible refine qv (by decide) ?_))
    refine za (zc rfl (zd (v:=.slice a6 ((segL L1.name L1.first (ns.take i)).length + 1) c6) (n:=1) (by kernel_rfl) (by rfl) (by rfl) b66 (by rfl) (by simp [Value.cells]) (by simp [Value.cells,Value.oneCell'])) ?_);intro W7 s7;simp only [Nat.reduceAdd,qn];refine wpList_nil ?_;have hk7:b6 < w6.heap.size:=by have:=G6.out;omega
    have kf:Keeps (fun b=>(w6.heap.size <= b \/ b=b6) /\ ¬ Book w6 b) W3 W7:=kf6.trans s7.k (fun j _ e=>by have h1:j=b6:=e;subst h1;exact ⟨.inr rfl,by unfold Book;omega⟩);refine ⟨kf,_,s7.blk,?_,KW3.out.trans kf (fun j _ e=>e.1)⟩;rw [HSP.out,List.length_append,List.map_append];exact z0a O6.out s7.k (fun j hj e=>by have h1:j=b6:=e;omega)
   ·
    rw [if_neg hle,List.append_nil] at HSP;go_wp2
    repeat (first | (with_reducible refine zg ?_) | (with_reducible refine stop_range ?_) | gi_step)
    refine za (zi (by kernel_rfl) (by rintro ⟨_,_,h⟩;exact h) ?_);go_wp2
    gi_wp2
    have kf:Keeps (fun b=>(w6.heap.size <= b \/ b=b6) /\ ¬ Book w6 b) W3 W4:=KW4.out.of_nb;refine ⟨kf,v,E14.out,?_,KW3.out.trans kf (fun j _ e=>e.1)⟩;rw [HSP.out];exact E24.out
  ·
   rintro W ⟨nv,en1,en2,en3⟩ hD;rw [HLEN.out,List.take_length] at en2;obtain ⟨nums,hnums⟩:∃ q,segL L1.name L1.first ns=q:=⟨_,rfl⟩
   rw [hnums] at en2;have hn6:nums.length <= 1000000:=by
    have h1:(segL L1.name L1.first ns).length <= ns.length:=by unfold segL;exact Nat.le_trans (List.length_filter_le _ _) (by simp)
    have h2:=HPM.out.length_eq;have h3:=H.out.disk.nums.nf;rw [hnums] at h1;simp at h2;omega
   have hnb:∀ n ∈ nums,n <= mxn:=fun n hn=>by
    rw [<- hnums] at hn;obtain ⟨q,-,rfl⟩:=List.mem_map.1 (List.mem_filter.1 hn).1;by_cases h0:sgn L1.name q=0
    ·rw [h0];exact Nat.zero_le _
    ·exact (z3e h0).2.2
   have hsegs:∀ ms:List Nat,ms.Perm nums -> ms.Pairwise (· <= ·) -> SegsOf L1.name L1.first X ms:=fun ms h1 h2=>⟨h2,by
    rw [<- hnums] at h1
    exact h1.trans ((HPM.out.map _).filter _)⟩
   have HSEG:=qq hsegs;have HN6:=qq hn6;have HNB:=qq hnb;clear hnums hn6 hnb hsegs;obtain ⟨an,cn,rfl,hcn1,hcn2,-,han⟩:=z08 en2;obtain ⟨m,hm⟩:∃ m,nums.length=m:=⟨_,rfl⟩
   have ltA:Hid (∀ k,(Fd k \/ Rd k \/ FL1 k \/ RL1 k) -> k < w1.heap.size):=qq (fun k e=>e.elim (HA.out.disk.ltF k) fun e=>e.elim (HA.out.disk.ltR k) fun e=>e.elim (HA.out.ltF k) (HA.out.ltR k));have HW:Hid (LgAt W l d Fd Rd FL1 RL1 L1 X):=qq ((HA.out.nb (KB.out.trans_nb K6.out)).keeps en3 (fun k hk e=>by have:=ltA.out k (.inl hk);have:=G6.out;omega) (fun k hk e=>by have:=ltA.out k (.inr (.inl hk));have:=G6.out;omega) (fun k hk e=>by have:=ltA.out k (.inr (.inr (.inl hk)));have:=G6.out;omega) (fun k hk e=>by have:=ltA.out k (.inr (.inr (.inr hk)));have:=G6.out;omega));have SO:=qq (zbn _ nums (w6.heap.size + 2) W en2 HN6.out);have c6:W.cell? ⟨b6,0,none⟩=some (.slice an nums.length cn):=(cell_of_block en1).trans rfl;have EN1:=qq en1;have EN3:=qq en3;have HD:=qq hD;clear en1 en2 en3 hD han;have HM:=qq hm;rw [hm] at SO c6 HN6 EN1;clear hm;go_wp2_with fail;refine SO.out.mono ?_;rintro _ W1 ⟨rfl,⟨ms,hperm,hsort,ho⟩,k1⟩
   have KS:Hid (Keeps (fun k=>w6.heap.size + 2 <= k) W W1):=qq (k1.mono (fun k _ e=>by
    have e:(Value.slice an m cn).ownBlock=some k:=e;rcases ho.2 with ⟨e2,-⟩ | ⟨g,cap,cur,e2,hg,-⟩
    ·rw [e2] at e;simp [Value.ownBlock] at e
    ·rw [e2] at e;simp only [Value.ownBlock,Option.some.injEq] at e;omega))
   have hml:ms.length=m:=by rw [hperm.length_eq];exact HM.out
   have HSG:=qq (HSEG.out ms hperm hsort);have HMB:Hid (∀ n ∈ ms,n <= mxn):=qq (fun n hn=>HNB.out n (hperm.mem_iff.1 hn));have HML:=qq hml;obtain ⟨a',c',ea,-,-,hhas,hbl⟩:=z08 ho;cases ea;have HHAS:=qq hhas;have HBL:Hid (∀ b off,an=some ⟨b,off,none⟩ -> w6.heap.size + 2 <= b):=qq (fun b off e=>(hbl b off e).2.2.1);have hzs:w6.heap.size < W.heap.size:=lt_of_block HD.out;have B61:=qq (KS.out.at EN1.out (fun e=>by have:=G6.out;omega));have HD1:=qq (KS.out.at HD.out (fun e=>by omega));have B21:=qq (KS.out.at (EN3.out.at (K6.out.nb B2B.out) (fun e=>by have:=G2.out;have:=G6.out;omega)) (fun e=>by have:=G2.out;have:=G6.out;omega));have HW1:Hid (LgAt W1 l d Fd Rd FL1 RL1 L1 X):=qq (HW.out.keeps KS.out (fun k hk e=>by have:=ltA.out k (.inl hk);have:=G6.out;omega) (fun k hk e=>by have:=ltA.out k (.inr (.inl hk));have:=G6.out;omega) (fun k hk e=>by have:=ltA.out k (.inr (.inr (.inl hk)));have:=G6.out;omega) (fun k hk e=>by have:=ltA.out k (.inr (.inr (.inr hk)));have:=G6.out;omega));have HV1:Hid (Vars W1):=qq ((HV6.out.keeps EN3.out (fun k hk e=>by have:=h6.out;have:=G2.out;have:=G6.out;omega)).keeps KS.out (fun k hk e=>by have:=h6.out;have:=G2.out;have:=G6.out;omega));have KW1:Hid (Keeps FL w W1):=qq (((((K1.out.of_nb).trans KA.out (fun _ _ e=>e)).trans_nb (KB.out.trans_nb K6.out)).trans EN3.out (fun j hj e=>by have:=G2.out;have:=G6.out;omega)).trans KS.out (fun j hj e=>by have:=G2.out;have:=G6.out;omega));have hF2:¬ FL1 b2:=fun e=>(HFL1.out b2 e).elim (fun e=>by have:=H.out.ltF b2 e;have:=G2.out;omega) (fun e=>by have:=G2.out;omega);have hF6:¬ FL1 b6:=fun e=>by have:=ltA.out b6 (.inr (.inr (.inl e)));have:=G6.out;omega
   have hzw:w1.heap.size <= W1.heap.size /\ w6.heap.size < W1.heap.size:=by have:=KS.out.size;have:=G6.out;omega
   have HF:=qq (And.intro hF2 hF6);have HZW:=qq hzw;clear SO k1 hperm hsort ho hml hhas hbl c6 hF2 hF6 hzw;have c61:W1.cell? ⟨b6,0,none⟩=some (.slice an m cn):=(cell_of_block B61.out).trans rfl;go_wp2
   go_loopw [9,62] (fun ev iv wr=>∃ k Lk en,k <= m /\ ev=.int .i64 (en:Nat) /\ iv=.int .i64 (k:Nat) /\ ReadI X ms W1 l d Fd Rd FL1 RL1 L1 k Lk en wr) (fun _ iv _=>m - (intOf iv).toNat)
   case atStart=>exact ⟨0,L1,0,Nat.zero_le _,rfl,rfl,LUp.of HW1.out (Keeps.refl _ _),rfl,rfl,by rw [HRC.out];simp⟩
   case round =>
    obtain ⟨k,Lk,en,hk,rfl,rfl,hup,hrd,hkn,hkr⟩:=hrel;obtain ⟨FLk,RLk,hlk,hFk,hRk,kk⟩:=hup;have HLK:=qq hlk;have HFK:=qq hFk;have HRK:=qq hRk;have KK:=qq kk;have HRD:=qq hrd;have HKN:=qq hkn;have HKR:=qq hkr;clear hlk hFk hRk kk hrd hkn hkr;have B2r:=qq (KK.out.at B21.out HF.out.1);have B6r:=qq (KK.out.at B61.out HF.out.2);have HDr:=qq (KK.out.at HD1.out (fun e=>by have:=ltA.out _ (.inr (.inr (.inl e)));have:=G6.out;omega));have HVr:Hid (Vars wr):=qq (HV1.out.keeps KK.out (fun k hk e=>by have:=HW1.out.low k (.inr e);omega));have KWr:Hid (Keeps FL w wr):=qq (KW1.out.trans KK.out (fun j hj e=>(HFL1.out j e).elim id (fun e=>by have:=G2.out;omega)));have c2:wr.cell? ⟨b2,0,none⟩=some (.pointer (some ⟨l,0,none⟩)):=(cell_of_block B2r.out).trans rfl;have c6:wr.cell? ⟨b6,0,none⟩=some (.slice an m cn):=(cell_of_block B6r.out).trans rfl;by_cases hlt:k < m
    ·
     have HLT:=qq hlt;have i1:(k:Int) < (m:Int):=by omega
     obtain ⟨n,rest,hdr⟩:∃ n rest,ms.drop k=n :: rest:=⟨ms[k]'(by rw [HML.out];exact hlt),_,List.drop_eq_getElem_cons (by rw [HML.out];exact hlt)⟩
     have hnk:ms[k]?=some n:=by have h:=congrArg (·[0]?) hdr;simpa using h
     obtain ⟨g,off,rfl,hck⟩:∃ b off,an=some ⟨b,off,none⟩ /\ wr.cell? ⟨b,off + k,none⟩=some (.int .i64 (n:Nat)):=by
      rcases HHAS.out.keeps KK.out (fun b off e _ h=>by have:=HBL.out b off e;have:=ltA.out b (.inr (.inr (.inl h)));have:=G6.out;omega) with h | ⟨b,off,h,hc⟩
      ·have:ms=[]:=List.map_eq_nil_iff.1 h;rw [this] at hnk;cases hnk
      ·exact ⟨b,off,h,hc k _ (by rw [List.getElem?_map,hnk];rfl)⟩
     have hnm:n <= mxn:=HMB.out n (List.mem_of_getElem? hnk);have HDR:=qq hdr;have HNK:=qq hnk;have hrest:(rest=[] ↔ k + 1=m):=by
      have:=congrArg List.length hdr;rw [List.length_drop,HML.out,List.length_cons] at this;rw [<- List.length_eq_zero_iff];omega
     have HRS:=qq hrest;obtain ⟨sv3,lv3,vs3,q1,q2,q3,q4⟩:=HLK.out.ex;have Q1:=qq q1;have Q3:=qq q3;have Q4:=qq q4;have Q2:=qq q2;clear hdr hnk hrest q1 q2 q3 q4;go_wp2;refine WT.region (fun u=>u.cell? ⟨b2,0,none⟩=some (.pointer (some ⟨l,0,none⟩)) /\ u.cell? ⟨l,0,none⟩=some (.pointer (some ⟨d,0,none⟩))) 12 13 [0,1,2,3,4,5,6,7,8,9,10,11,12] (by kernel_rfl) rfl ?_;have HS:Hid ((fun u:World=>u.cell? ⟨b2,0,none⟩=some (.pointer (some ⟨l,0,none⟩)) /\ u.cell? ⟨l,0,none⟩=some (.pointer (some ⟨d,0,none⟩))) wr.drew):=qq ⟨c2,(cell_of_block (w:=wr.drew) Q1.out).trans rfl⟩;have SA:=qq (z0t l Lk.name n wr.drew (HVr.out.nb ((Keeps.refl Nb wr).drew)) ((cell_of_block (w:=wr.drew) Q1.out).trans rfl) (by have:=HLK.out.nums.n16;omega) (by unfold mxn at hnm;omega));refine WT.t 0 (v:=.pointer (some ⟨l,0,none⟩)) (y:=by rintro w ⟨C1,C2⟩;exact zb (by kernel_rfl) (by rfl) C1) (s:=HS.out) (h:=?_);refine WT.t 1 (v:=_) (y:=by rintro w ⟨C1,C2⟩;go_simp;with_reducible rfl) (s:=HS.out) (h:=?_);refine WT.t 2 (v:=_) (y:=by rintro w ⟨C1,C2⟩;go_simp;with_reducible rfl) (s:=HS.out) (h:=?_);refine WT.t 3 (v:=.pointer (some ⟨d,0,none⟩)) (y:=by rintro w ⟨C1,C2⟩;exact zb (by kernel_rfl) (by rfl) C2) (s:=HS.out) (h:=?_);refine WT.t 4 (v:=.pointer (some ⟨l,0,none⟩)) (y:=by rintro w ⟨C1,C2⟩;exact zb (by kernel_rfl) (by rfl) C1) (s:=HS.out) (h:=?_);refine WT.t 5 (v:=_) (y:=by rintro w ⟨C1,C2⟩;go_simp;with_reducible rfl) (s:=HS.out) (h:=?_);refine WT.call 6 (by simp only [qi];rfl) (by kernel_rfl) (by rfl) (by go_simp;first | done | rfl | exact ⟨⟨rfl,rfl⟩,rfl⟩ | exact ⟨⟨rfl,rfl,rfl⟩,rfl⟩) SA.out ?_;rintro _ wa ⟨rfl,ka⟩;have KA2:Hid (Keeps Nb wr wa):=qq (((Keeps.refl Nb wr).drew).trans_nb ka);clear ka SA;replace HS:Hid ((fun u:World=>u.cell? ⟨b2,0,none⟩=some (.pointer (some ⟨l,0,none⟩)) /\ u.cell? ⟨l,0,none⟩=some (.pointer (some ⟨d,0,none⟩))) wa):=qq ⟨(cell_of_block (KA2.out.nb B2r.out)).trans rfl,(cell_of_block (KA2.out.nb Q1.out)).trans rfl⟩;refine ⟨_,rfl,HS.out,?_⟩;simp only [Nat.reduceAdd,qn];have RA:=qq (z5p d (sgf Lk.name n) X.D Fd Rd X.fc wa (HLK.out.disk.nb KA2.out) (by have:=z16 (z0u HLK.out.nums.name HLK.out.nums.n16 hnm);unfold maxLen;omega));have hrf:=z1d HLK.out.disk (sgf Lk.name n);have HRF:=qq hrf;clear hrf;generalize hro:readOf X.D X.fc (sgf Lk.name n)=ro at RA HRF;obtain ⟨bs,er⟩:=ro;have HRO:=qq hro;clear hro;refine WT.call 7 (by simp only [qi];rfl) (by kernel_rfl) (by rfl) (by go_simp;first | done | rfl | exact ⟨⟨rfl,rfl⟩,rfl⟩ | exact ⟨⟨rfl,rfl,rfl⟩,rfl⟩) RA.out ?_;rintro _ wb ⟨bv,rfl,hbv,kb⟩;have HBV:Hid (Bytes wb (SinceB wa wb) bv bs):=qq (z0k hbv HRF.out.2);have KB2:Hid (Keeps Nb wr wb):=qq (KA2.out.trans_nb kb);clear hbv kb RA;replace HS:Hid ((fun u:World=>u.cell? ⟨b2,0,none⟩=some (.pointer (some ⟨l,0,none⟩)) /\ u.cell? ⟨l,0,none⟩=some (.pointer (some ⟨d,0,none⟩))) wb):=qq ⟨(cell_of_block (KB2.out.nb B2r.out)).trans rfl,(cell_of_block (KB2.out.nb Q1.out)).trans rfl⟩;refine ⟨_,rfl,HS.out,?_⟩;simp only [Nat.reduceAdd,qn];refine WT.t 8 (v:=_) (y:=by rintro w ⟨C1,C2⟩;go_simp;with_reducible rfl) (s:=HS.out) (h:=?_);refine WT.t 9 (v:=_) (y:=by rintro w ⟨C1,C2⟩;go_simp;with_reducible rfl) (s:=HS.out) (h:=?_);refine WT.t 10 (v:=_) (y:=by rintro w ⟨C1,C2⟩;go_simp;with_reducible rfl) (s:=HS.out) (h:=?_);refine WT.t 11 (v:=_) (y:=by rintro w ⟨C1,C2⟩;go_simp;with_reducible rfl) (s:=HS.out) (h:=?_);refine WT.stop (by kernel_rfl) ?_;refine WP.o 12 (v:=_) (y:=by go_simp;first | with_reducible rfl | exact ⟨rfl,rfl⟩) (h:=?_);refine WP.done (by kernel_rfl) ?_;obtain ⟨bva,bvc,rfl,-⟩:=id HBV.out;have WA:=qq (z6d _ bs _ wb HBV.out (fun _ e=>e.1.2) HRF.out.1);clear HS hck c6;go_wp2_with fail;refine WA.out.mono ?_;rintro _ wq ⟨lv4,vs4,rfl,r4,bl4,k4⟩;have hrw:=z4i HRF.out.2;have hil:=z3h (bs.length + 1) 0 bs;have hwl:(whole bs).1.length <= 2097153:=by
      have h1:(whole bs).1.length <= (items (bs.length + 1) 0 bs).length:=by unfold whole wholeI good;simp only [List.length_map];exact (List.takeWhile_sublist _).length_le
      have:=HRF.out.1;omega
     generalize hwo:whole bs=wo at r4 bl4 hrw hwl ⊢;obtain ⟨rs,wn,rt⟩:=wo;simp only at r4 bl4 hrw hwl ⊢;obtain ⟨p1,p2,a4',c4',rfl,p4,p5,p6,p7,p8⟩:=id r4;have R4:=qq r4;have BL4:=qq bl4;have HRW:=qq hrw;have HWL:=qq hwl;have HWO:=qq hwo;have K4:Hid (Keeps Nb wb wq):=qq k4;have KQ:Hid (Keeps Nb wr wq):=qq (KB2.out.trans_nb k4);obtain ⟨q,hq⟩:∃ q,bs.length=q:=⟨_,rfl⟩
     obtain ⟨r4n,hr4n⟩:∃ q,rs.length=q:=⟨_,rfl⟩
     have HQ:=qq hq;have HR4:=qq hr4n;rw [hq,hr4n];have hstep:rdl X ms L1 0=if rt=true /\ (q <= wn \/ rest=[]) then rdl X rest { Lk with recs:=Lk.recs ++ rs,segment:=n,size:=q } wn else none:=by
      rw [HRD.out,HDR.out,z66,HRO.out];simp only;rw [hwo];simp only;rw [hq]
     have HST:=qq hstep;have HDq:=qq (KQ.out.nb HDr.out);have c2q:wq.cell? ⟨b2,0,none⟩=some (.pointer (some ⟨l,0,none⟩)):=(cell_of_block (KQ.out.nb B2r.out)).trans rfl;have c6q:wq.cell? ⟨b6,0,none⟩=some (.slice (some ⟨g,off,none⟩) m cn):=(cell_of_block (KQ.out.nb B6r.out)).trans rfl;have iw:IntKind.i64.wrap ((m:Int) - 1)=(m:Int) - 1:=IntWalk.i64_in _ (by have:=HN6.out;omega);have hbad:¬ (rt=true /\ (q <= wn \/ rest=[])) -> readR X L s none:=fun hb=>by
      unfold readR;rw [HSN.out];exact ⟨ms,HSG.out,by rw [hstep,if_neg hb];split <;> rfl⟩
     have HBAD:=qq hbad;have HRS2:=qq (HRS.out);clear hwo p1 p2 p4 p5 p6 p7 p8 r4 bl4 hrw hwl hil k4 hq hr4n hstep hbad WA c2;cases rt
     ·
      have HB:=qq (HBAD.out (fun e=>by simp at e));go_wp2;have kp:=zw wq w6.heap.size (.deferred none);have hle6:w.heap.size <= w6.heap.size:=by have:=G2.out;have:=G6.out;omega
      have KF:Hid (Keeps FL w (wq.putObj w6.heap.size (.deferred none))):=qq ((KWr.out.trans_nb KQ.out).trans kp (fun j hj e=>by have:j=w6.heap.size:=e;omega));have DF:Hid (DiskAt (wq.putObj w6.heap.size (.deferred none)) d Fd Rd X.D X.fc):=qq ((HLK.out.disk.nb KQ.out).keeps kp (fun j hj e=>by have:j=w6.heap.size:=e;have:=H.out.disk.ltF j hj;omega) (fun j hj e=>by have:j=w6.heap.size:=e;have:=H.out.disk.ltR j hj;omega));refine ⟨by simp,.inl ⟨_,_,rfl,run_takeDeferred HDq.out,?_⟩⟩;exact ⟨.tuple #[.int .i64 0,.int .i64 10],by simp [results,Tryz.f59,go_sem],none,HB.out,rfl,DF.out,KF.out⟩
     ·
      rcases Nat.lt_or_ge wn q with hwq | hwq
      ·
       rcases Nat.lt_or_ge (k + 1) m with hkm | hkm
       ·
        have HB:=qq (HBAD.out (fun e=>e.2.elim (fun e=>by omega) (fun e=>by have:=HRS2.out.1 e;omega)));have t1:decide ((k:Int) < (m:Int) - 1)=true:=by simp;omega
        have t2:(k:Int) < (m:Int) - 1:=by omega
        clear hkm;go_wp2;have kp:=zw wq w6.heap.size (.deferred none);have hle6:w.heap.size <= w6.heap.size:=by have:=G2.out;have:=G6.out;omega
        have KF:Hid (Keeps FL w (wq.putObj w6.heap.size (.deferred none))):=qq ((KWr.out.trans_nb KQ.out).trans kp (fun j hj e=>by have:j=w6.heap.size:=e;omega));have DF:Hid (DiskAt (wq.putObj w6.heap.size (.deferred none)) d Fd Rd X.D X.fc):=qq ((HLK.out.disk.nb KQ.out).keeps kp (fun j hj e=>by have:j=w6.heap.size:=e;have:=H.out.disk.ltF j hj;omega) (fun j hj e=>by have:j=w6.heap.size:=e;have:=H.out.disk.ltR j hj;omega));refine ⟨by simp,.inl ⟨_,_,rfl,run_takeDeferred HDq.out,?_⟩⟩;exact ⟨.tuple #[.int .i64 0,.int .i64 10],by simp [results,Tryz.f59,go_sem],none,HB.out,rfl,DF.out,KF.out⟩
       ·
        have t1:¬ ((k:Int) < (m:Int) - 1):=by omega
        have HOK:Hid (rdl X ms L1 0=rdl X (ms.drop (k + 1)) { Lk with recs:=Lk.recs ++ rs,segment:=n,size:=q } wn):=qq (by
         have hr:rest=[]:=HRS2.out.2 (by omega);rw [HST.out,if_pos ⟨rfl,.inr hr⟩];have:=congrArg (List.drop 1) HDR.out;rw [List.drop_drop] at this;simp at this
         rw [this])
        clear hkm;have c9:wq.cell? ⟨l,9,none⟩=some lv3:=(cell_of_block (KQ.out.nb Q1.out)).trans rfl;have HLQ:=qq (HLK.out.nb KQ.out);have R3:=qq (Q3.out.keeps KQ.out (fun _ _ _ e=>e));obtain ⟨-,p2,a4,c4,ea,p4,p5,p6,p7,p8⟩:=id R4.out;cases ea;have HAS4:=qq p6;have ONE4:=qq p2;have hvl:vs4.length=r4n:=by rw [BL4.out.1];exact HR4.out
        have HVL:=qq hvl;obtain ⟨lk,hlk⟩:∃ q,Lk.recs.length=q:=⟨_,rfl⟩
        have HLKN:=qq hlk;rw [hlk] at R3;have hkr:lk <= 2097153000000:=by have h1:=HKR.out;rw [hlk] at h1;have:=HN6.out;omega
        have hwl:r4n <= 2097153:=by have:=HWL.out;have:=HR4.out;omega
        clear p2 p4 p5 p6 p7 p8 hvl hlk;go_wp2;clear c6q;refine WT.region (fun u=>u.cell? ⟨b2,0,none⟩=some (.pointer (some ⟨l,0,none⟩)) /\ u.cell? ⟨l,9,none⟩=some lv3) 7 10 [0,1,2,3,4,5,6,7,8,9] (by kernel_rfl) rfl ?_;have HS:Hid ((fun u:World=>u.cell? ⟨b2,0,none⟩=some (.pointer (some ⟨l,0,none⟩)) /\ u.cell? ⟨l,9,none⟩=some lv3) wq.drew):=qq ⟨c2q,c9⟩;refine WT.t 0 (v:=.pointer (some ⟨l,0,none⟩)) (y:=by rintro w ⟨C1,C2⟩;exact zb (by kernel_rfl) (by rfl) C1) (s:=HS.out) (h:=?_);refine WT.t 1 (v:=.pointer (some ⟨l,0,none⟩)) (y:=by rintro w ⟨C1,C2⟩;exact zb (by kernel_rfl) (by rfl) C1) (s:=HS.out) (h:=?_);refine WT.t 2 (v:=_) (y:=by rintro w ⟨C1,C2⟩;go_simp;with_reducible rfl) (s:=HS.out) (h:=?_);refine WT.t 3 (v:=_) (y:=by rintro w ⟨C1,C2⟩;go_simp;with_reducible rfl) (s:=HS.out) (h:=?_);refine WT.t 4 (v:=lv3) (y:=by rintro w ⟨C1,C2⟩;exact zb (by kernel_rfl) (by rfl) C2) (s:=HS.out) (h:=?_);refine WT.t 5 (v:=_) (y:=by rintro w ⟨C1,C2⟩;go_simp;with_reducible rfl) (s:=HS.out) (h:=?_);refine WT.o 6 (y:=re_push' el27 (R3.out.keeps ((Keeps.refl Nb wq).drew) (fun _ _ _ e=>e)) (by rfl) (by rfl) (HAS4.out.nb ((Keeps.refl Nb wq).drew)) (by rw [HVL.out];omega) ONE4.out (by unfold maxLen;omega) (by omega)) (h:=?_);rintro lv5 w7 ⟨r5,S5,k5,hS5⟩;simp only [Nat.reduceAdd,qn];have kq7:Keeps S5 wq w7:=((Keeps.refl Nb wq).drew.of_nb).trans k5 (fun _ _ e=>e);have hS5':∀ k,S5 k -> FLk k /\ IsT wq 22 k:=hS5;have hnb2:¬ S5 b2:=fun e=>(HFK.out b2 (hS5' b2 e).1).elim HF.out.1 (fun e=>by have:=G2.out;have:=HZW.out;omega);have hnl:¬ S5 l:=fun e=>by have:=(hS5' l e).2;exact (this.ne ⟨_,_,KQ.out.nb Q1.out⟩ (by decide)) rfl
        have B27:=qq (kq7.at (KQ.out.nb B2r.out) hnb2);have Q17:=qq (kq7.at (KQ.out.nb Q1.out) hnl);have KQ7:=qq kq7;have HS5:=qq hS5';have R5:Hid (RowS w7 (Up FLk wq.drew w7) (fun _=>False) 22 1 lv5 (lk + r4n) (vs3 ++ vs4)):=qq r5;obtain ⟨-,-,a5,c5',rfl,-⟩:=id r5;clear kq7 hS5' hnb2 hnl r5 k5 hS5;replace HS:Hid ((fun u:World=>u.cell? ⟨b2,0,none⟩=some (.pointer (some ⟨l,0,none⟩)) /\ u.cell? ⟨l,9,none⟩=some lv3) w7):=qq ⟨(cell_of_block B27.out).trans rfl,(cell_of_block Q17.out).trans rfl⟩;refine ⟨HS.out,?_⟩;refine WT.stop (by kernel_rfl) ?_;refine WP.o 7 (v:=_) (y:=by go_simp;first | with_reducible rfl | exact ⟨rfl,rfl⟩) (h:=?_);refine WP.o 8 (v:=_) (y:=by go_simp;first | with_reducible rfl | exact ⟨rfl,rfl⟩) (h:=?_);refine WP.onlySkipE 9 (by simp only [qi];rfl) (by kernel_rfl) (by rfl) (zd (v:=.slice a5 (lk + r4n) c5') (n:=1) (by kernel_rfl) (by rfl) (by rfl) Q17.out (by rfl) (by simp [Value.cells,lcs]) (by simp [Value.cells,Value.oneCell'])) ?_;intro w8 s8;simp only [Nat.reduceAdd,qn];refine WP.done (by kernel_rfl) ?_;have B28:=qq (s8.k.at B27.out (fun e=>hb2l e));have S8:Hid (SetAt w7 w8 l (.cells (lcs d sv3 (.slice a5 (lk + r4n) c5') Lk) 78 (0,0))):=qq ⟨s8.blk,s8.k⟩;have c28:w8.cell? ⟨b2,0,none⟩=some (.pointer (some ⟨l,0,none⟩)):=(cell_of_block B28.out).trans rfl;clear s8 HS c2q c9;go_wp2;refine WT.region (fun u=>u.cell? ⟨b2,0,none⟩=some (.pointer (some ⟨l,0,none⟩))) 12 13 [0,1,2,3,4,5,6,7,8,9,10,11,12] (by kernel_rfl) rfl ?_;have HS:Hid ((fun u:World=>u.cell? ⟨b2,0,none⟩=some (.pointer (some ⟨l,0,none⟩))) w8.drew):=qq c28;refine WT.t 0 (v:=.pointer (some ⟨l,0,none⟩)) (y:=by rintro w C1;exact zb (by kernel_rfl) (by rfl) C1) (s:=HS.out) (h:=?_);refine WT.t 1 (v:=.pointer (some ⟨l,0,none⟩)) (y:=by rintro w C1;exact zb (by kernel_rfl) (by rfl) C1) (s:=HS.out) (h:=?_);refine WT.t 2 (v:=_) (y:=by rintro w C1;go_simp;with_reducible rfl) (s:=HS.out) (h:=?_);refine WT.t 3 (v:=_) (y:=by rintro w C1;go_simp;with_reducible rfl) (s:=HS.out) (h:=?_);refine WT.t 4 (v:=_) (y:=by rintro w C1;go_simp;with_reducible rfl) (s:=HS.out) (h:=?_);refine WT.t 5 (v:=_) (y:=by rintro w C1;go_simp;with_reducible rfl) (s:=HS.out) (h:=?_);refine WT.t 6 (v:=_) (y:=by rintro w C1;go_simp;with_reducible rfl) (s:=HS.out) (h:=?_);refine WT.t 7 (v:=_) (y:=by rintro w C1;go_simp;with_reducible rfl) (s:=HS.out) (h:=?_);refine WT.onlySkipE 8 (by simp only [qi];rfl) (by kernel_rfl) (by rfl) (zd (w:=w8.drew) (v:=.int .i64 (n:Nat)) (n:=1) (by kernel_rfl) (by rfl) (by rfl) S8.out.blk (by rfl) (by simp [Value.cells,lcs]) (by simp [Value.cells,Value.oneCell'])) ?_;intro w9 s9;have B29:=qq (s9.k.at (w:=w8.drew) B28.out (fun e=>hb2l e));have S9:Hid (SetAt w7 w9 l (.cells (lcs d sv3 (.slice a5 (lk + r4n) c5') { Lk with segment:=n }) 78 (0,0))):=qq ⟨s9.blk,(S8.out.k.drew).trans s9.k (fun _ _ e=>e)⟩;replace HS:Hid ((fun u:World=>u.cell? ⟨b2,0,none⟩=some (.pointer (some ⟨l,0,none⟩))) w9):=qq ((cell_of_block B29.out).trans rfl);refine ⟨HS.out,?_⟩;simp only [Nat.reduceAdd,qn];clear s9;refine WT.t 9 (v:=_) (y:=by rintro w C1;go_simp;with_reducible rfl) (s:=HS.out) (h:=?_);refine WT.t 10 (v:=_) (y:=by rintro w C1;go_simp;with_reducible rfl) (s:=HS.out) (h:=?_);refine WT.onlySkipE 11 (by simp only [qi];rfl) (by kernel_rfl) (by rfl) (zd (v:=.int .i64 (q:Nat)) (n:=1) (by kernel_rfl) (by rfl) (by rfl) S9.out.blk (by rfl) (by simp [Value.cells,lcs]) (by simp [Value.cells,Value.oneCell'])) ?_;intro w10 s10;have S10:Hid (SetAt w7 w10 l (.cells (lcs d sv3 (.slice a5 (lk + r4n) c5') { Lk with recs:=Lk.recs ++ rs,segment:=n,size:=q }) 78 (0,0))):=qq ⟨s10.blk,S9.out.k.trans s10.k (fun _ _ e=>e)⟩;replace HS:Hid ((fun u:World=>u.cell? ⟨b2,0,none⟩=some (.pointer (some ⟨l,0,none⟩))) w10):=qq ((cell_of_block (s10.k.at B29.out (fun e=>hb2l e))).trans rfl);refine ⟨HS.out,?_⟩;simp only [Nat.reduceAdd,qn];clear s10;refine WT.stop (by kernel_rfl) ?_;refine WP.o 12 (v:=_) (y:=by go_simp;first | with_reducible rfl | exact ⟨rfl,rfl⟩) (h:=?_);refine WP.done (by kernel_rfl) ?_;have hI:ReadI X ms W1 l d Fd Rd FL1 RL1 L1 (k + 1) { Lk with recs:=Lk.recs ++ rs,segment:=n,size:=q } wn w10:=by
         have z1:=KK.out.size;have z2:=KQ.out.size;have z3:=KQ7.out.size;have z4:=KB2.out.size;have hRS:∀ k,RLk k -> ¬ S5 k:=fun k hk e=>(HLK.out.apR k hk).2 (HS5.out k e).1;have hSB:∀ k,SinceB wb wq k -> ¬ S5 k:=fun k hk e=>(hk.2.ne (HS5.out k e).2 (by decide)) rfl;refine ⟨⟨_,_,LgAt.put (w0:=wr) (vs:=vs3 ++ vs4) HLK.out (by omega) ((HLK.out.disk.nb KQ.out).keeps KQ7.out (fun k hk e=>(HLK.out.apF k (HS5.out k e).1).1 hk) (fun k hk e=>(HLK.out.apF k (HS5.out k e).1).2 hk)) ⟨_,Q17.out⟩ S10.out ?_ (by have:=h6.out;have:=KWr.out.size;omega) ?_ ?_ ?_ ?_,?_,?_,?_⟩,HOK.out,HKN.out,?_⟩
         ·
          rintro k (e | e | e | e)
          ·exact HLK.out.disk.ltF k e
          ·exact HLK.out.disk.ltR k e
          ·exact HLK.out.ltF k e
          ·exact HLK.out.ltR k e
         ·have hh:=HLK.out.nums;exact ⟨hh.name,hh.n16,hh.most,hh.first,(by have:=hnm;unfold mxn at this;exact Nat.le_trans this (by decide)),hh.segments,(by have:=HRF.out.1;have:=HQ.out;show q <= 33554432;omega),hh.recs.append HRW.out,(by show (Lk.recs ++ rs).length <= _;rw [List.length_append,HLKN.out,HR4.out];omega),hh.snap⟩
         ·exact (Q2.out.keeps KQ.out (fun _ _ e=>e)).keeps KQ7.out hRS |>.mono (fun k e=>.inl e)
         ·
          have e1:(Lk.recs ++ rs).length=lk + r4n:=by rw [List.length_append,HLKN.out,HR4.out]
          show RowS w7 _ _ 22 1 _ (Lk.recs ++ rs).length _;rw [e1];refine R5.out.typed.mono (fun k e=>?_) (fun _ e=>e);rcases e with ⟨e | e,ht⟩
          ·exact .inl e
          ·have e1:wq.heap.size <= k:=e.1;exact .inr ⟨by omega,e.2,ht⟩
         ·exact (((Q4.out.keeps KQ.out (fun _ _ e=>e)).keeps KQ7.out hRS).mono (fun k e=>.inl e)).append ((BL4.out.keeps KQ7.out hSB).mono (fun k e=>.inr ⟨by have:=e.1.1;omega,by have:=e.1.2;omega,e.2.keeps KQ7.out (hSB k e)⟩))
         ·
          rintro k (e | e)
          ·exact HFK.out k e
          ·exact .inr (by omega)
         ·
          rintro k (e | e)
          ·exact HRK.out k e
          ·exact .inr (by omega)
         ·exact ((KK.out.trans_nb KQ.out).trans KQ7.out (fun j hj e=>(HFK.out j (HS5.out j e).1).elim id (fun e=>by omega))).trans S10.out.k (fun j hj e=>by have e:j=l:=e;subst e;exact HW1.out.fl)
         ·show (Lk.recs ++ rs).length <= _;rw [List.length_append,HLKN.out,HR4.out];have:=HKR.out;rw [HLKN.out] at this;omega
        have HI:=qq hI;clear hI HS c28;have hk6:k <= 1000000:=by have:=HN6.out;have:=HLT.out;omega
        go_wp2;go_roundw
        case rel=>exact ⟨k + 1,_,wn,HLT.out,rfl,by go_num,HI.out⟩
        case measure=>have hlt2:=HLT.out;simp [intOf];omega
      ·
       have HOK:Hid (rdl X ms L1 0=rdl X (ms.drop (k + 1)) { Lk with recs:=Lk.recs ++ rs,segment:=n,size:=q } wn):=qq (by
        rw [HST.out,if_pos ⟨rfl,.inl hwq⟩];have:=congrArg (List.drop 1) HDR.out;rw [List.drop_drop] at this;simp at this
        rw [this])
       have c9:wq.cell? ⟨l,9,none⟩=some lv3:=(cell_of_block (KQ.out.nb Q1.out)).trans rfl;have HLQ:=qq (HLK.out.nb KQ.out);have R3:=qq (Q3.out.keeps KQ.out (fun _ _ _ e=>e));obtain ⟨-,p2,a4,c4,ea,p4,p5,p6,p7,p8⟩:=id R4.out;cases ea;have HAS4:=qq p6;have ONE4:=qq p2;have hvl:vs4.length=r4n:=by rw [BL4.out.1];exact HR4.out
       have HVL:=qq hvl;obtain ⟨lk,hlk⟩:∃ q,Lk.recs.length=q:=⟨_,rfl⟩
       have HLKN:=qq hlk;rw [hlk] at R3;have hkr:lk <= 2097153000000:=by have h1:=HKR.out;rw [hlk] at h1;have:=HN6.out;omega
       have hwl:r4n <= 2097153:=by have:=HWL.out;have:=HR4.out;omega
       clear p2 p4 p5 p6 p7 p8 hvl hlk;go_wp2;clear c6q;refine WT.region (fun u=>u.cell? ⟨b2,0,none⟩=some (.pointer (some ⟨l,0,none⟩)) /\ u.cell? ⟨l,9,none⟩=some lv3) 7 10 [0,1,2,3,4,5,6,7,8,9] (by kernel_rfl) rfl ?_;have HS:Hid ((fun u:World=>u.cell? ⟨b2,0,none⟩=some (.pointer (some ⟨l,0,none⟩)) /\ u.cell? ⟨l,9,none⟩=some lv3) wq.drew):=qq ⟨c2q,c9⟩;refine WT.t 0 (v:=.pointer (some ⟨l,0,none⟩)) (y:=by rintro w ⟨C1,C2⟩;exact zb (by kernel_rfl) (by rfl) C1) (s:=HS.out) (h:=?_);refine WT.t 1 (v:=.pointer (some ⟨l,0,none⟩)) (y:=by rintro w ⟨C1,C2⟩;exact zb (by kernel_rfl) (by rfl) C1) (s:=HS.out) (h:=?_);refine WT.t 2 (v:=_) (y:=by rintro w ⟨C1,C2⟩;go_simp;with_reducible rfl) (s:=HS.out) (h:=?_);refine WT.t 3 (v:=_) (y:=by rintro w ⟨C1,C2⟩;go_simp;with_reducible rfl) (s:=HS.out) (h:=?_);refine WT.t 4 (v:=lv3) (y:=by rintro w ⟨C1,C2⟩;exact zb (by kernel_rfl) (by rfl) C2) (s:=HS.out) (h:=?_);refine WT.t 5 (v:=_) (y:=by rintro w ⟨C1,C2⟩;go_simp;with_reducible rfl) (s:=HS.out) (h:=?_);refine WT.o 6 (y:=re_push' el27 (R3.out.keeps ((Keeps.refl Nb wq).drew) (fun _ _ _ e=>e)) (by rfl) (by rfl) (HAS4.out.nb ((Keeps.refl Nb wq).drew)) (by rw [HVL.out];omega) ONE4.out (by unfold maxLen;omega) (by omega)) (h:=?_);rintro lv5 w7 ⟨r5,S5,k5,hS5⟩;simp only [Nat.reduceAdd,qn];have kq7:Keeps S5 wq w7:=((Keeps.refl Nb wq).drew.of_nb).trans k5 (fun _ _ e=>e);have hS5':∀ k,S5 k -> FLk k /\ IsT wq 22 k:=hS5;have hnb2:¬ S5 b2:=fun e=>(HFK.out b2 (hS5' b2 e).1).elim HF.out.1 (fun e=>by have:=G2.out;have:=HZW.out;omega);have hnl:¬ S5 l:=fun e=>by have:=(hS5' l e).2;exact (this.ne ⟨_,_,KQ.out.nb Q1.out⟩ (by decide)) rfl
       have B27:=qq (kq7.at (KQ.out.nb B2r.out) hnb2);have Q17:=qq (kq7.at (KQ.out.nb Q1.out) hnl);have KQ7:=qq kq7;have HS5:=qq hS5';have R5:Hid (RowS w7 (Up FLk wq.drew w7) (fun _=>False) 22 1 lv5 (lk + r4n) (vs3 ++ vs4)):=qq r5;obtain ⟨-,-,a5,c5',rfl,-⟩:=id r5;clear kq7 hS5' hnb2 hnl r5 k5 hS5;replace HS:Hid ((fun u:World=>u.cell? ⟨b2,0,none⟩=some (.pointer (some ⟨l,0,none⟩)) /\ u.cell? ⟨l,9,none⟩=some lv3) w7):=qq ⟨(cell_of_block B27.out).trans rfl,(cell_of_block Q17.out).trans rfl⟩;refine ⟨HS.out,?_⟩;refine WT.stop (by kernel_rfl) ?_;refine WP.o 7 (v:=_) (y:=by go_simp;first | with_reducible rfl | exact ⟨rfl,rfl⟩) (h:=?_);refine WP.o 8 (v:=_) (y:=by go_simp;first | with_reducible rfl | exact ⟨rfl,rfl⟩) (h:=?_);refine WP.onlySkipE 9 (by simp only [qi];rfl) (by kernel_rfl) (by rfl) (zd (v:=.slice a5 (lk + r4n) c5') (n:=1) (by kernel_rfl) (by rfl) (by rfl) Q17.out (by rfl) (by simp [Value.cells,lcs]) (by simp [Value.cells,Value.oneCell'])) ?_;intro w8 s8;simp only [Nat.reduceAdd,qn];refine WP.done (by kernel_rfl) ?_;have B28:=qq (s8.k.at B27.out (fun e=>hb2l e));have S8:Hid (SetAt w7 w8 l (.cells (lcs d sv3 (.slice a5 (lk + r4n) c5') Lk) 78 (0,0))):=qq ⟨s8.blk,s8.k⟩;have c28:w8.cell? ⟨b2,0,none⟩=some (.pointer (some ⟨l,0,none⟩)):=(cell_of_block B28.out).trans rfl;clear s8 HS c2q c9;go_wp2;refine WT.region (fun u=>u.cell? ⟨b2,0,none⟩=some (.pointer (some ⟨l,0,none⟩))) 12 13 [0,1,2,3,4,5,6,7,8,9,10,11,12] (by kernel_rfl) rfl ?_;have HS:Hid ((fun u:World=>u.cell? ⟨b2,0,none⟩=some (.pointer (some ⟨l,0,none⟩))) w8.drew):=qq c28;refine WT.t 0 (v:=.pointer (some ⟨l,0,none⟩)) (y:=by rintro w C1;exact zb (by kernel_rfl) (by rfl) C1) (s:=HS.out) (h:=?_);refine WT.t 1 (v:=.pointer (some ⟨l,0,none⟩)) (y:=by rintro w C1;exact zb (by kernel_rfl) (by rfl) C1) (s:=HS.out) (h:=?_);refine WT.t 2 (v:=_) (y:=by rintro w C1;go_simp;with_reducible rfl) (s:=HS.out) (h:=?_);refine WT.t 3 (v:=_) (y:=by rintro w C1;go_simp;with_reducible rfl) (s:=HS.out) (h:=?_);refine WT.t 4 (v:=_) (y:=by rintro w C1;go_simp;with_reducible rfl) (s:=HS.out) (h:=?_);refine WT.t 5 (v:=_) (y:=by rintro w C1;go_simp;with_reducible rfl) (s:=HS.out) (h:=?_);refine WT.t 6 (v:=_) (y:=by rintro w C1;go_simp;with_reducible rfl) (s:=HS.out) (h:=?_);refine WT.t 7 (v:=_) (y:=by rintro w C1;go_simp;with_reducible rfl) (s:=HS.out) (h:=?_);refine WT.onlySkipE 8 (by simp only [qi];rfl) (by kernel_rfl) (by rfl) (zd (w:=w8.drew) (v:=.int .i64 (n:Nat)) (n:=1) (by kernel_rfl) (by rfl) (by rfl) S8.out.blk (by rfl) (by simp [Value.cells,lcs]) (by simp [Value.cells,Value.oneCell'])) ?_;intro w9 s9;have B29:=qq (s9.k.at (w:=w8.drew) B28.out (fun e=>hb2l e));have S9:Hid (SetAt w7 w9 l (.cells (lcs d sv3 (.slice a5 (lk + r4n) c5') { Lk with segment:=n }) 78 (0,0))):=qq ⟨s9.blk,(S8.out.k.drew).trans s9.k (fun _ _ e=>e)⟩;replace HS:Hid ((fun u:World=>u.cell? ⟨b2,0,none⟩=some (.pointer (some ⟨l,0,none⟩))) w9):=qq ((cell_of_block B29.out).trans rfl);refine ⟨HS.out,?_⟩;simp only [Nat.reduceAdd,qn];clear s9;refine WT.t 9 (v:=_) (y:=by rintro w C1;go_simp;with_reducible rfl) (s:=HS.out) (h:=?_);refine WT.t 10 (v:=_) (y:=by rintro w C1;go_simp;with_reducible rfl) (s:=HS.out) (h:=?_);refine WT.onlySkipE 11 (by simp only [qi];rfl) (by kernel_rfl) (by rfl) (zd (v:=.int .i64 (q:Nat)) (n:=1) (by kernel_rfl) (by rfl) (by rfl) S9.out.blk (by rfl) (by simp [Value.cells,lcs]) (by simp [Value.cells,Value.oneCell'])) ?_;intro w10 s10;have S10:Hid (SetAt w7 w10 l (.cells (lcs d sv3 (.slice a5 (lk + r4n) c5') { Lk with recs:=Lk.recs ++ rs,segment:=n,size:=q }) 78 (0,0))):=qq ⟨s10.blk,S9.out.k.trans s10.k (fun _ _ e=>e)⟩;replace HS:Hid ((fun u:World=>u.cell? ⟨b2,0,none⟩=some (.pointer (some ⟨l,0,none⟩))) w10):=qq ((cell_of_block (s10.k.at B29.out (fun e=>hb2l e))).trans rfl);refine ⟨HS.out,?_⟩;simp only [Nat.reduceAdd,qn];clear s10;refine WT.stop (by kernel_rfl) ?_;refine WP.o 12 (v:=_) (y:=by go_simp;first | with_reducible rfl | exact ⟨rfl,rfl⟩) (h:=?_);refine WP.done (by kernel_rfl) ?_;have hI:ReadI X ms W1 l d Fd Rd FL1 RL1 L1 (k + 1) { Lk with recs:=Lk.recs ++ rs,segment:=n,size:=q } wn w10:=by
        have z1:=KK.out.size;have z2:=KQ.out.size;have z3:=KQ7.out.size;have z4:=KB2.out.size;have hRS:∀ k,RLk k -> ¬ S5 k:=fun k hk e=>(HLK.out.apR k hk).2 (HS5.out k e).1;have hSB:∀ k,SinceB wb wq k -> ¬ S5 k:=fun k hk e=>(hk.2.ne (HS5.out k e).2 (by decide)) rfl;refine ⟨⟨_,_,LgAt.put (w0:=wr) (vs:=vs3 ++ vs4) HLK.out (by omega) ((HLK.out.disk.nb KQ.out).keeps KQ7.out (fun k hk e=>(HLK.out.apF k (HS5.out k e).1).1 hk) (fun k hk e=>(HLK.out.apF k (HS5.out k e).1).2 hk)) ⟨_,Q17.out⟩ S10.out ?_ (by have:=h6.out;have:=KWr.out.size;omega) ?_ ?_ ?_ ?_,?_,?_,?_⟩,HOK.out,HKN.out,?_⟩
        ·
         rintro k (e | e | e | e)
         ·exact HLK.out.disk.ltF k e
         ·exact HLK.out.disk.ltR k e
         ·exact HLK.out.ltF k e
         ·exact HLK.out.ltR k e
        ·have hh:=HLK.out.nums;exact ⟨hh.name,hh.n16,hh.most,hh.first,(by have:=hnm;unfold mxn at this;exact Nat.le_trans this (by decide)),hh.segments,(by have:=HRF.out.1;have:=HQ.out;show q <= 33554432;omega),hh.recs.append HRW.out,(by show (Lk.recs ++ rs).length <= _;rw [List.length_append,HLKN.out,HR4.out];omega),hh.snap⟩
        ·exact (Q2.out.keeps KQ.out (fun _ _ e=>e)).keeps KQ7.out hRS |>.mono (fun k e=>.inl e)
        ·
         have e1:(Lk.recs ++ rs).length=lk + r4n:=by rw [List.length_append,HLKN.out,HR4.out]
         show RowS w7 _ _ 22 1 _ (Lk.recs ++ rs).length _;rw [e1];refine R5.out.typed.mono (fun k e=>?_) (fun _ e=>e);rcases e with ⟨e | e,ht⟩
         ·exact .inl e
         ·have e1:wq.heap.size <= k:=e.1;exact .inr ⟨by omega,e.2,ht⟩
        ·exact (((Q4.out.keeps KQ.out (fun _ _ e=>e)).keeps KQ7.out hRS).mono (fun k e=>.inl e)).append ((BL4.out.keeps KQ7.out hSB).mono (fun k e=>.inr ⟨by have:=e.1.1;omega,by have:=e.1.2;omega,e.2.keeps KQ7.out (hSB k e)⟩))
        ·
         rintro k (e | e)
         ·exact HFK.out k e
         ·exact .inr (by omega)
        ·
         rintro k (e | e)
         ·exact HRK.out k e
         ·exact .inr (by omega)
        ·exact ((KK.out.trans_nb KQ.out).trans KQ7.out (fun j hj e=>(HFK.out j (HS5.out j e).1).elim id (fun e=>by omega))).trans S10.out.k (fun j hj e=>by have e:j=l:=e;subst e;exact HW1.out.fl)
        ·show (Lk.recs ++ rs).length <= _;rw [List.length_append,HLKN.out,HR4.out];have:=HKR.out;rw [HLKN.out] at this;omega
       have HI:=qq hI;clear hI HS c28;have hk6:k <= 1000000:=by have:=HN6.out;have:=HLT.out;omega
       go_wp2;go_roundw
       case rel=>exact ⟨k + 1,_,wn,HLT.out,rfl,by go_num,HI.out⟩
       case measure=>have hlt2:=HLT.out;simp [intOf];omega
    ·
     obtain rfl:k=m:=by omega
     obtain ⟨sv3,lv3,vs3,q1,q2,q3,q4⟩:=HLK.out.ex;have Q1:=qq q1;have Q3:=qq q3;have Q4:=qq q4;have Q2:=qq q2;clear q1 q2 q3 q4;go_wp2_with (first | go_skip | (with_reducible refine qv (by decide) ?_))
     refine za (zc rfl (zd (v:=.int .i64 (k:Nat)) (n:=1) (by kernel_rfl) (by rfl) (by rfl) Q1.out (by rfl) (by simp [Value.cells,lcs]) (by simp [Value.cells,Value.oneCell'])) ?_);intro w7 s7;simp only [Nat.reduceAdd,qn];have hlr:rdl X ms L1 0=some (Lk,en):=by
      rw [HRD.out,List.drop_of_length_le (by rw [HML.out];exact Nat.le_refl _)];rfl
     have c26:w7.cell? ⟨b6,0,none⟩=some (.slice an k cn):=(cell_of_block (s7.k.at B6r.out (fun e=>by have:=G2.out;have:=G6.out;omega))).trans rfl;have HD7:=qq (s7.k.at HDr.out (fun e=>by have:=G2.out;have:=G6.out;omega));have hmg:LgAt w7 l d Fd Rd (fun j=>FLk j \/ (wr.heap.size <= j /\ j < wr.heap.size /\ IsT wr 22 j)) (fun j=>RLk j \/ (wr.heap.size <= j /\ j < wr.heap.size /\ IsT wr 5 j)) { Lk with segments:=k } X:=by
      have hh:=HLK.out.nums;refine LgAt.put (w0:=wr) (vs:=vs3) HLK.out (Nat.le_refl _) HLK.out.disk ⟨_,Q1.out⟩ (sv:=sv3) (lv:=lv3) ⟨s7.blk,s7.k⟩ ?_ (by have:=h6.out;have:=KWr.out.size;omega) ⟨hh.name,hh.n16,hh.most,hh.first,hh.segment,HN6.out,hh.size,hh.recs,hh.nrec,hh.snap⟩ (Q2.out.mono fun j e=>.inl e) (Q3.out.mono (fun j e=>.inl e) (fun _ e=>e)) (Q4.out.mono fun j e=>.inl e);rintro j (e | e | e | e)
      ·exact HLK.out.disk.ltF j e
      ·exact HLK.out.disk.ltR j e
      ·exact HLK.out.ltF j e
      ·exact HLK.out.ltR j e
     have HMG:=qq hmg;have HLR:=qq hlr;have S7:=qq s7.k;have hle6:w.heap.size <= w6.heap.size:=by have:=G2.out;have:=G6.out;omega
     have kp:=zw w7 w6.heap.size (.deferred none);have KWW:Hid (Keeps FL w (w7.putObj w6.heap.size (.deferred none))):=qq ((KWr.out.trans s7.k (fun j hj e=>by have e:j=l:=e;subst e;exact H.out.fl)).trans kp (fun j hj e=>by have:j=w6.heap.size:=e;omega))
     have ncl:Hid (∀ j,(Fd j \/ Rd j \/ (FLk j \/ (wr.heap.size <= j /\ j < wr.heap.size /\ IsT wr 22 j)) \/ (RLk j \/ (wr.heap.size <= j /\ j < wr.heap.size /\ IsT wr 5 j))) -> ¬ j=w6.heap.size):=qq (fun j e h=>by
      have hz1:=HZW.out.2;rcases e with e | e | (e | e) | (e | e)
      ·have:=H.out.disk.ltF j e;omega
      ·have:=H.out.disk.ltR j e;omega
      ·
       rcases HFK.out j e with e | e
       ·have:=ltA.out j (.inr (.inr (.inl e)));have:=G6.out;omega
       ·omega
      ·omega
      ·
       rcases HRK.out j e with e | e
       ·have:=ltA.out j (.inr (.inr (.inr e)));have:=G6.out;omega
       ·omega
      ·omega)
     have HG2:Hid (LgAt (w7.putObj w6.heap.size (.deferred none)) l d Fd Rd (fun j=>FLk j \/ (wr.heap.size <= j /\ j < wr.heap.size /\ IsT wr 22 j)) (fun j=>RLk j \/ (wr.heap.size <= j /\ j < wr.heap.size /\ IsT wr 5 j)) { Lk with segments:=k } X):=qq (hmg.keeps kp (fun j e=>ncl.out j (.inl e)) (fun j e=>ncl.out j (.inr (.inl e))) (fun j e=>ncl.out j (.inr (.inr (.inl e)))) (fun j e=>ncl.out j (.inr (.inr (.inr e)))));clear s7 hlr hmg kp c2 c6;by_cases hk0:k=0
     ·
      have HR:Hid (readR X L s none):=qq (by
       unfold readR;rw [HSN.out]
       exact ⟨ms,HSG.out,by rw [if_pos (List.length_eq_zero_iff.1 (by rw [HML.out];exact hk0))]⟩)
      subst hk0;go_wp2;refine ⟨by simp,.inl ⟨_,_,rfl,run_takeDeferred HD7.out,?_⟩⟩;exact ⟨.tuple #[.int .i64 0,.int .i64 10],by simp [results,Tryz.f59,go_sem],none,HR.out,rfl,HG2.out.disk,KWW.out⟩
     ·
      have HR:Hid (readR X L s (some ({ Lk with segments:=k },en))):=qq (by
       unfold readR;rw [HSN.out];refine ⟨ms,HSG.out,?_⟩
       rw [if_neg (fun e=>hk0 (by rw [<- HML.out,e];rfl)),HLR.out,HML.out];rfl)
      have HU:Hid (LUp w (w7.putObj w6.heap.size (.deferred none)) l d Fd Rd FL RL { Lk with segments:=k } X):=qq (by
       refine ⟨_,_,HG2.out,?_,?_,KWW.out⟩
       ·
        have hz:=KWr.out.size;have hz1:=KW1.out.size;rintro j (e | e)
        ·
         rcases HFK.out j e with e | e
         ·exact (HFL1.out j e).imp id (fun e=>by have:=G2.out;omega)
         ·exact .inr (by omega)
        ·omega
       ·
        have hz:=KWr.out.size;have hz1:=KW1.out.size;rintro j (e | e)
        ·
         rcases HRK.out j e with e | e
         ·exact (HRL1.out j e).imp id (fun e=>by have:=G2.out;omega)
         ·exact .inr (by omega)
        ·omega)
      have t1:((k:Int) == 0)=false:=by simpa using hk0
      clear hk0;go_wp2;refine ⟨by simp,.inl ⟨_,_,rfl,run_takeDeferred HD7.out,?_⟩⟩;exact ⟨.tuple #[.int .i64 (en:Nat),.int .i64 0],by simp [results,Tryz.f59,go_sem],_,HR.out,rfl,HU.out⟩
 ·
  have t0:decide (0 < (s:Int))=true:=by simp;omega
  have c2:w1.cell? ⟨b2,0,none⟩=some (.pointer (some ⟨l,0,none⟩)):=(cell_of_block B2.out).trans rfl;obtain ⟨sv,lv,vs,e1,e2,e3,e4⟩:=H1.out.ex;have E1:=qq e1;have E3:=qq e3;have E4:=qq e4;clear e1 e2 e3 e4;go_wp2;refine WT.region (fun u=>u.cell? ⟨b2,0,none⟩=some (.pointer (some ⟨l,0,none⟩))) 13 16 [0,1,2,3,4,5,6,7,8,9,10,11,12,13,14,15] (by kernel_rfl) rfl ?_;have HS:Hid ((fun u:World=>u.cell? ⟨b2,0,none⟩=some (.pointer (some ⟨l,0,none⟩))) w1.drew):=qq c2;have SA:=qq (z40 l L.name s w1.drew (HV.out.nb (K1.out.drew)) ((cell_of_block (w:=w1.drew) E1.out).trans rfl) (by have:=H.out.nums.n16;omega) (by unfold mxn at hs;omega));refine WT.t 0 (v:=.pointer (some ⟨l,0,none⟩)) (y:=by rintro w C1;exact zb (by kernel_rfl) (by rfl) C1) (s:=HS.out) (h:=?_);refine WT.t 1 (v:=.pointer (some ⟨l,0,none⟩)) (y:=by rintro w C1;exact zb (by kernel_rfl) (by rfl) C1) (s:=HS.out) (h:=?_);refine WT.t 2 (v:=.pointer (some ⟨l,0,none⟩)) (y:=by rintro w C1;exact zb (by kernel_rfl) (by rfl) C1) (s:=HS.out) (h:=?_);refine WT.t 3 (v:=.pointer (some ⟨l,0,none⟩)) (y:=by rintro w C1;exact zb (by kernel_rfl) (by rfl) C1) (s:=HS.out) (h:=?_);refine WT.t 4 (v:=_) (y:=by rintro w C1;go_simp;with_reducible rfl) (s:=HS.out) (h:=?_);refine WT.call 5 (by simp only [qi];rfl) (by kernel_rfl) (by rfl) (by go_simp;first | done | rfl | exact ⟨⟨rfl,rfl⟩,rfl⟩ | exact ⟨⟨rfl,rfl,rfl⟩,rfl⟩) SA.out ?_;rintro _ w2 ⟨rfl,k2⟩;have K2:Hid (Keeps Nb w1 w2):=qq (((Keeps.refl Nb w1).drew).trans_nb k2);clear k2 SA;replace HS:Hid ((fun u:World=>u.cell? ⟨b2,0,none⟩=some (.pointer (some ⟨l,0,none⟩))) w2):=qq ((cell_of_block (K2.out.nb B2.out)).trans rfl);refine ⟨_,rfl,HS.out,?_⟩;simp only [Nat.reduceAdd,qn];have OA:=qq (zdz l d (snf L.name s) X Fd Rd w2 ((H1.out.nb K2.out).disk) ((cell_of_block (K2.out.nb E1.out)).trans rfl) (by have:=z16 (z5k H.out.nums.name H.out.nums.n16 hs);unfold maxLen;omega));refine WT.call 6 (by simp only [qi];rfl) (by kernel_rfl) (by rfl) (by go_simp;first | done | rfl | exact ⟨⟨rfl,rfl⟩,rfl⟩ | exact ⟨⟨rfl,rfl,rfl⟩,rfl⟩) OA.out ?_;rintro e3' w3 ⟨ho,k3⟩;have K3:Hid (Keeps Nb w1 w3):=qq (K2.out.trans_nb k3);obtain ⟨v,b,ok,rfl,hb,hbl⟩:∃ v b ok,e3'=.returned (.tuple #[v,.bool ok]) /\ Bytes w3 (SinceB w2 w3) v b /\ ((ok=false /\ oneR X (snf L.name s)=none) \/ (ok=true /\ oneR X (snf L.name s)=some b /\ b.length <= mxr)):=by
   have hby:=(z1d H.out.disk (snf L.name s)).2;cases hor:oneR X (snf L.name s) with
   | none =>
    rw [hor] at ho;exact ⟨_,[],false,ho,Bytes.nil _ _,.inl ⟨rfl,rfl⟩⟩
   | some b =>
    rw [hor] at ho;obtain ⟨v,ho,hb⟩:=ho;exact ⟨v,b,true,ho,hb,.inr ⟨rfl,rfl,(z9n hby hor).1⟩⟩
  clear ho OA k3;replace HS:Hid ((fun u:World=>u.cell? ⟨b2,0,none⟩=some (.pointer (some ⟨l,0,none⟩))) w3):=qq ((cell_of_block (K3.out.nb B2.out)).trans rfl);refine ⟨_,rfl,HS.out,?_⟩;simp only [Nat.reduceAdd,qn];refine WT.t 7 (v:=_) (y:=by rintro w C1;go_simp;with_reducible rfl) (s:=HS.out) (h:=?_);refine WT.t 8 (v:=_) (y:=by rintro w C1;go_simp;with_reducible rfl) (s:=HS.out) (h:=?_);refine WT.t 9 (v:=_) (y:=by rintro w C1;go_simp;with_reducible rfl) (s:=HS.out) (h:=?_);refine WT.t 10 (v:=_) (y:=by rintro w C1;go_simp;with_reducible rfl) (s:=HS.out) (h:=?_);refine WT.t 11 (v:=_) (y:=by rintro w C1;go_simp;with_reducible rfl) (s:=HS.out) (h:=?_);obtain ⟨av,cv,rfl,-⟩:=id hb;have HB:=qq hb;have HBL:=qq hbl;clear hb hbl;refine WT.onlySkipE 12 (by simp only [qi];rfl) (by kernel_rfl) (by rfl) (zd (v:=.slice av b.length cv) (n:=1) (by kernel_rfl) (by rfl) (by rfl) (K3.out.nb E1.out) (by rfl) (by simp [Value.cells,lcs]) (by simp [Value.cells,Value.oneCell'])) ?_;intro w4 s4;have hne:b2 ≠ l:=fun e=>by have:=H.out.ltF l H.out.fl;have:=G2.out.1;omega
  replace HS:Hid ((fun u:World=>u.cell? ⟨b2,0,none⟩=some (.pointer (some ⟨l,0,none⟩))) w4):=qq ((cell_of_block (s4.k.at (K3.out.nb B2.out) hne)).trans rfl);refine ⟨HS.out,?_⟩;simp only [Nat.reduceAdd,qn];refine WT.stop (by kernel_rfl) ?_;refine WP.o 13 (v:=_) (y:=by go_simp;first | with_reducible rfl | exact ⟨rfl,rfl⟩) (h:=?_);refine WP.o 14 (v:=_) (y:=by go_simp;first | with_reducible rfl | exact ⟨rfl,rfl⟩) (h:=?_);refine WP.onlySkipE 15 (by simp only [qi];rfl) (by kernel_rfl) (by rfl) (zd (v:=.bool ok) (n:=1) (by kernel_rfl) (by rfl) (by rfl) s4.blk (by rfl) (by simp [Value.cells,lcs,splice]) (by simp [Value.cells,Value.oneCell'])) ?_;intro w5 s5;simp only [Nat.reduceAdd,qn];refine WP.done (by kernel_rfl) ?_;have S5:SetAt w3 w5 l (.cells (lcs d (.slice av b.length cv) lv { L with snap:=b,has:=ok }) 78 (0,0)):=⟨s5.blk,s4.k.trans s5.k (fun _ _ e=>e)⟩
  have B5:=qq (S5.k.at (K3.out.nb B2.out) hne);have c5:w5.cell? ⟨b2,0,none⟩=some (.pointer (some ⟨l,0,none⟩)):=(cell_of_block B5.out).trans rfl;have c5':w5.cell? ⟨l,8,none⟩=some (.bool ok):=(cell_of_block S5.blk).trans rfl;have HS5:=qq S5;clear s4 s5 S5 HS;rcases HBL.out with ⟨rfl,hno⟩ | ⟨rfl,hyes,hlen⟩
  ·have HR:Hid (readR X L s none):=qq (by unfold readR snapR;rw [if_neg h0,hno];rfl);have KF:Hid (Keeps FL w w5):=qq (((K1.out.trans_nb K3.out).of_nb).trans HS5.out.k (fun j _ e=>by have e:j=l:=e;subst e;exact H.out.fl));have HD:Hid (DiskAt w5 d Fd Rd X.D X.fc):=qq ((H1.out.nb K3.out).disk.keeps HS5.out.k (fun k hk e=>by have e:k=l:=e;subst e;exact (H.out.apF _ H.out.fl).1 hk) (fun k hk e=>by have e:k=l:=e;subst e;exact (H.out.apF _ H.out.fl).2 hk));clear hno HBL;go_wp2;exact ⟨.tuple #[.int .i64 0,.int .i64 10],by simp [results,Tryz.f59,go_sem],none,HR.out,rfl,HD.out,KF.out⟩
  ·
   obtain ⟨L1,HG,HSN,hnm,hfi,hrc⟩:∃ L1,Hid (LUp w1 w5 l d Fd Rd FL RL L1 X) /\ Hid (snapR X L s=some L1) /\ L1.name=L.name /\ L1.first=L.first /\ L1.recs=[]:=by
    have hz:=K1.out.size;have hz3:=K3.out.size;have hz2:w1.heap.size <= w2.heap.size:=K2.out.size;refine ⟨{ L with snap:=b,has:=true },qq ⟨_,_,LgAt.put (w0:=w1) (vs:=vs) H1.out hz3 (H1.out.nb K3.out).disk ⟨_,K3.out.nb E1.out⟩ HS5.out ?_ (by have:=h6.out;omega) ?_ ?_ ?_ ?_,?_,?_,?_⟩,qq ?_,rfl,rfl,hr0⟩
    ·
     rintro k (e | e | e | e)
     ·exact H1.out.disk.ltF k e
     ·exact H1.out.disk.ltR k e
     ·exact H1.out.ltF k e
     ·exact H1.out.ltR k e
    ·have:=H.out.nums;exact ⟨this.name,this.n16,this.most,this.first,this.segment,this.segments,this.size,this.recs,this.nrec,hlen⟩
    ·exact HB.out.mono (fun k e=>.inr ⟨by have:=e.1.1;omega,e.1.2,e.2⟩)
    ·exact (E3.out.keeps K3.out (fun _ _ _ e=>e)).mono (fun k e=>.inl e) (fun _ e=>e)
    ·exact (E4.out.keeps K3.out (fun _ _ e=>e)).mono (fun k e=>.inl e)
    ·
     rintro k (e | e)
     ·exact .inl e
     ·exact .inr (by omega)
    ·
     rintro k (e | e)
     ·exact .inl e
     ·exact .inr (by omega)
    ·exact (K3.out.of_nb).trans HS5.out.k (fun j _ e=>by have e:j=l:=e;subst e;exact H.out.fl)
    ·unfold snapR;rw [if_neg h0,hyes];rfl
   have hb2l:=hne;clear hyes hlen HBL HS5 HB E1 E3 E4;obtain ⟨FL1,RL1,H1',hFL1,hRL1,kA⟩:=HG.out;have HA:=qq H1';have KA:=qq kA;have HFL1:=qq hFL1;have HRL1:=qq hRL1;have HNM:=qq hnm;have HFI:=qq hfi;have HRC:=qq hrc;clear H1' hFL1 hRL1 kA HG hnm hfi hrc;go_wp2_with (first | go_skip | (with_reducible refine qv (by decide) ?_))
   refine za (valloc (z:=.slice none 0 0) (by kernel_rfl) ?_);intro b6 wB nB;simp only [Nat.reduceAdd,qn];have B6:=qq nB.blk;have KB:=qq nB.k;have G6:Hid (w5.heap.size <= b6 /\ b6 < wB.heap.size):=qq ⟨nB.ge,nB.lt⟩;clear nB;have HB':=qq (HA.out.nb KB.out);obtain ⟨sv',lv',hcs⟩:=HB'.out.cells;have HC:=qq hcs;have B2B:=qq (KB.out.nb B5.out);have cB2:wB.cell? ⟨b2,0,none⟩=some (.pointer (some ⟨l,0,none⟩)):=(cell_of_block B2B.out).trans rfl;have cl:wB.cell? ⟨l,0,none⟩=some (.pointer (some ⟨d,0,none⟩)):=(cell_of_block (HC.out wB (Keeps.refl _ _))).trans rfl;have FA:=qq (z48 d X.D Fd Rd X.fc wB HB'.out.disk);clear hcs c5;go_wp2_with fail;refine FA.out.mono ?_;rintro _ w6 ⟨ns,hperm,a3,a4,rfl,hfa,k6⟩;obtain ⟨ps,hps⟩:∃ ps,(ns.map fun s=>(s,szOf X.D X.fc s))=ps:=⟨_,rfl⟩
   rw [hps] at hfa;have HPS:=qq hps;have HPM:=qq hperm;have HFA:=qq hfa;have K6:=qq k6;have HLEN:Hid (ps.length=ns.length):=qq (by rw [<- hps,List.length_map]);have W6:Hid (w6.heap[b6]?=some (.cells #[.slice none 0 0] 35 (0,0))):=qq (k6.nb B6.out);have L6:b6 < wB.heap.size:=lt_of_block B6.out;have z36:=k6.size;have HV6:Hid (Vars w6):=qq ((((HV.out.nb K1.out).keeps KA.out (fun k hk e=>by have:=H.out.low k (.inr e);omega)).nb KB.out).nb K6.out);clear hps hperm hfa k6 FA cB2 cl;go_wp2_with (with_reducible refine z0z ?_)
   refine za ((wpIn_wide (n:=9)).1 ?_);have hlw:l < w.heap.size:=H.out.ltF l H.out.fl;have hzA:w1.heap.size <= w5.heap.size:=KA.out.size
   refine z1o (gf:=95) (lb:=#[.pointer (some ⟨a3,0,none⟩),.pointer (some ⟨a4,0,none⟩)]) (by rfl) (enters_of Tryz.func95 (by kernel_rfl) rfl)
    (z2q 8 (by omega) wB.heap.size a3 a4 ps (fun b=>w6.heap.size <= b \/ b=b6) w6 HFA.out (fun b h1 h2 e=>by omega))
    (fun b hb=>.inl (by unfold Book at hb;omega)) (fun i args W h=>by obtain ⟨p,-,rfl⟩:=h;rfl)
    (fun i W=>NumsI w6 b6 L1.name L1.first (ns.take i) W) (fun _ _=>False)
    (fun i A B h k=>h.book k (by omega)) (fun c A B h=>h.elim) ⟨_,W6.out,⟨rfl,.inl ⟨rfl,rfl⟩⟩,Keeps.refl _ _⟩ ?_ ?_ (fun _ _ h=>h.elim)
   ·
    rintro lm i args W rfl hW2 hI hi ⟨p,hp,rfl⟩;simp only [List.zip_toArray,List.zip_cons_cons,List.zip_nil_right,List.foldl_toArray,List.foldl_cons,List.foldl_nil,List.setIfInBounds_toArray,List.set_cons_succ,List.set_cons_zero];have hns:ns[i]?=some p.1:=by
     rw [<- HPS.out,List.getElem?_map] at hp;obtain ⟨s,h1,h2⟩:=Option.map_eq_some_iff.1 hp;rw [h1,<- h2]
    have hmn:mnB p.1=true:=by
     have h1:=HPM.out.mem_iff.1 (List.mem_of_getElem? hns);obtain ⟨q,hq,e⟩:=List.mem_map.1 h1;rw [<- e];exact H.out.disk.names.files q hq
    obtain ⟨nm,sz⟩:=p;have HNS:=qq hns;have hsz:=z16 hmn;have HI:=qq hI;clear hI hp hns hmn
    repeat (first | (with_reducible refine zg ?_) | (with_reducible refine stop_range ?_) | gi_step)
    refine za (zi (by kernel_rfl) (by rintro ⟨_,_,h⟩;exact h) ?_);go_wp2;refine ⟨Keeps.refl _ _,fun W3 k3=>?_⟩;have kb3:Keeps (Book w6) W W3:=k3.mono (fun i _ e=>.inr e);obtain ⟨v,e1,e2,e3⟩:=HI.out.book kb3 (by omega);have KW3:=qq e3;have E1:=qq e1;have E2:=qq e2;have c2:W3.cell? ⟨b2,0,none⟩=some (.pointer (some ⟨l,0,none⟩)):=(cell_of_block (KW3.out.at (K6.out.nb B2B.out) (fun e=>by have:=G2.out;have:=G6.out;omega))).trans rfl;have bl3:W3.heap[l]?=some (.cells (lcs d sv' lv' L1) 78 (0,0)):=KW3.out.at (HC.out w6 K6.out) (fun e=>by have:=G2.out;have:=G6.out;omega)
    have BL3:=qq bl3;have HV3:Hid (Vars W3):=qq (HV6.out.keeps KW3.out (fun k hk e=>by have:=h6.out;have:=G2.out;have:=G6.out;omega));have PA:=qq (z3l l L1.name nm ByteArray.empty W3 HV3.out ((cell_of_block bl3).trans rfl) (by rw [HNM.out];have:=H.out.nums.n16;omega) (by omega) (by decide));have zW3:w6.heap.size + 2 <= W3.heap.size:=by have:=k3.size;omega
    clear k3 e1 e2 e3 kb3 bl3
    repeat (first | (with_reducible refine zg ?_) | (with_reducible refine stop_range ?_) | gi_step)
    refine za (zi (by kernel_rfl) (by rintro ⟨_,_,h⟩;exact h) ?_);go_wp2_with fail;refine PA.out.mono ?_;rintro _ W4 ⟨rfl,k4⟩;have c4:W4.cell? ⟨b2,0,none⟩=some (.pointer (some ⟨l,0,none⟩)):=(k4.cell (lt_of_cell c2) (fun e=>e)).trans c2;have c43:W4.cell? ⟨l,3,none⟩=some (.int .i64 (L1.first:Nat)):=(cell_of_block (k4.nb BL3.out)).trans rfl;have E14:=qq (k4.nb E1.out);have c46:W4.cell? ⟨b6,0,none⟩=some v:=(cell_of_block E14.out).trans rfl;have E24:=qq (z0a E2.out k4 (fun _ _ e=>e));have KW4:=qq k4;clear k4 c2 PA HI;have hsg:pn (fl L1.name ByteArray.empty) nm=sgn L1.name nm:=rfl;rw [hsg];have hsplit:segL L1.name L1.first (ns.take (i + 1))=segL L1.name L1.first (ns.take i) ++ (if L1.first <= sgn L1.name nm then [sgn L1.name nm] else []):=by
     have hil:=(List.getElem?_eq_some_iff.1 HNS.out).1;rw [List.take_succ_eq_append_getElem hil,(List.getElem?_eq_some_iff.1 HNS.out).2];unfold segL;rw [List.map_append,List.filter_append];by_cases hle:L1.first <= sgn L1.name nm <;> simp [hle]
    have HSP:=qq hsplit;clear hsplit hsg;obtain ⟨n,hn⟩:∃ n,sgn L1.name nm=n:=⟨_,rfl⟩
    rw [hn] at HSP ⊢;clear hn;have c43':Hid (W4.cell? ⟨b2,0,none⟩=some (.pointer (some ⟨l,0,none⟩))):=qq c4;by_cases hle:L1.first <= n
    ·
     rw [if_pos hle] at HSP;go_wp2
     repeat (first | (with_reducible refine zg ?_) | (with_reducible refine stop_range ?_) | gi_step)
     refine za (zi (by kernel_rfl) (by rintro ⟨_,_,h⟩;exact h) ?_);go_wp2
     repeat (first | (with_reducible refine zg ?_) | (with_reducible refine stop_range ?_) | gi_step)
     refine za (zi (by kernel_rfl) (by rintro ⟨_,_,h⟩;exact h) ?_);go_wp2_with (first | go_skip | (with_reducible refine qv (by decide) ?_))
     refine za (zj rfl (zl el35 [.int .i64 n] rfl (by simp [List.range'_succ];first | done | rfl | exact ⟨rfl,rfl⟩ | exact ⟨rfl,rfl,rfl⟩ | exact ⟨rfl,rfl,rfl,rfl⟩ | exact ⟨rfl,rfl,rfl,rfl,rfl⟩ | exact ⟨rfl,rfl,rfl,rfl,rfl,rfl⟩) (by simp [Value.cells]) (by simp)) ?_);rintro _ W5 ⟨g8,rfl,n8⟩;simp only [Nat.reduceAdd,qn];have HH8:Hid (Has W5 (some ⟨g8,0,none⟩) [.int .i64 n]):=qq (zm n8.blk);have K5:=qq n8.k;have O5:=qq (z0a E24.out K5.out (fun _ _ e=>e));have zk:(segL L1.name L1.first (ns.take i)).length <= 1000000:=by
      have h1:(segL L1.name L1.first (ns.take i)).length <= (ns.take i).length:=by unfold segL;exact Nat.le_trans (List.length_filter_le _ _) (by simp)
      have h2:=HPM.out.length_eq;have h3:=H.out.disk.nums.nf;simp at h1 h2;omega
     clear n8;go_wp2_with (first | go_skip | (with_reducible refine qv (by decide) ?_))
     refine za (zj rfl (ze7 (base:=w6.heap.size + 2) el35 O5.out (by rfl) (by rfl) HH8.out rfl (by intro u hu;rw [List.mem_singleton.1 hu];rfl) (by unfold maxLen;omega) (by omega) (by have:=KW4.out.size;have:=K5.out.size;omega)) ?_);rintro v2 W6 ⟨o6,g6⟩;simp only [Nat.reduceAdd,qn];obtain ⟨a6,c6,rfl,-,-,-,-⟩:=z08 o6;have hob:∀ k,v.ownBlock=some k -> w6.heap.size + 2 <= k:=fun k e=>by
      rcases E2.out.2 with ⟨e2,-⟩ | ⟨g,cap,cur,e2,hg,-⟩
      ·rw [e2] at e;simp [Value.ownBlock] at e
      ·rw [e2] at e;simp only [Value.ownBlock,Option.some.injEq] at e;omega
     have kk6:Keeps (fun k=>w6.heap.size + 2 <= k) W5 W6:=(Keeps.refl _ W5).grown g6 (fun k hk _=>hob k hk);have b66:W6.heap[b6]?=some (.cells #[v] 35 (0,0)):=kk6.at (K5.out.nb E14.out) (fun e=>by have:=G6.out;omega)
     have kf6:Keeps (fun b=>(w6.heap.size <= b \/ b=b6) /\ ¬ Book w6 b) W3 W6:=((KW4.out.trans_nb K5.out).of_nb).trans kk6 (fun j _ e=>⟨.inl (by omega),fun h=>by unfold Book at h;omega⟩);have O6:=qq o6;clear kk6 g6 o6;go_wp2_with (first | go_skip | (with_reducible refine qv (by decide) ?_))
     refine za (zc rfl (zd (v:=.slice a6 ((segL L1.name L1.first (ns.take i)).length + 1) c6) (n:=1) (by kernel_rfl) (by rfl) (by rfl) b66 (by rfl) (by simp [Value.cells]) (by simp [Value.cells,Value.oneCell'])) ?_);intro W7 s7;simp only [Nat.reduceAdd,qn];refine wpList_nil ?_;have hk7:b6 < w6.heap.size:=by have:=G6.out;omega
     have kf:Keeps (fun b=>(w6.heap.size <= b \/ b=b6) /\ ¬ Book w6 b) W3 W7:=kf6.trans s7.k (fun j _ e=>by have h1:j=b6:=e;subst h1;exact ⟨.inr rfl,by unfold Book;omega⟩);refine ⟨kf,_,s7.blk,?_,KW3.out.trans kf (fun j _ e=>e.1)⟩;rw [HSP.out,List.length_append,List.map_append];exact z0a O6.out s7.k (fun j hj e=>by have h1:j=b6:=e;omega)
    ·
     rw [if_neg hle,List.append_nil] at HSP;go_wp2
     repeat (first | (with_reducible refine zg ?_) | (with_reducible refine stop_range ?_) | gi_step)
     refine za (zi (by kernel_rfl) (by rintro ⟨_,_,h⟩;exact h) ?_);go_wp2
     gi_wp2
     have kf:Keeps (fun b=>(w6.heap.size <= b \/ b=b6) /\ ¬ Book w6 b) W3 W4:=KW4.out.of_nb;refine ⟨kf,v,E14.out,?_,KW3.out.trans kf (fun j _ e=>e.1)⟩;rw [HSP.out];exact E24.out
   ·
    rintro W ⟨nv,en1,en2,en3⟩ hD;rw [HLEN.out,List.take_length] at en2;obtain ⟨nums,hnums⟩:∃ q,segL L1.name L1.first ns=q:=⟨_,rfl⟩
    rw [hnums] at en2;have hn6:nums.length <= 1000000:=by
     have h1:(segL L1.name L1.first ns).length <= ns.length:=by unfold segL;exact Nat.le_trans (List.length_filter_le _ _) (by simp)
     have h2:=HPM.out.length_eq;have h3:=H.out.disk.nums.nf;rw [hnums] at h1;simp at h2;omega
    have hnb:∀ n ∈ nums,n <= mxn:=fun n hn=>by
     rw [<- hnums] at hn;obtain ⟨q,-,rfl⟩:=List.mem_map.1 (List.mem_filter.1 hn).1;by_cases h0:sgn L1.name q=0
     ·rw [h0];exact Nat.zero_le _
     ·exact (z3e h0).2.2
    have hsegs:∀ ms:List Nat,ms.Perm nums -> ms.Pairwise (· <= ·) -> SegsOf L1.name L1.first X ms:=fun ms h1 h2=>⟨h2,by
     rw [<- hnums] at h1
     exact h1.trans ((HPM.out.map _).filter _)⟩
    have HSEG:=qq hsegs;have HN6:=qq hn6;have HNB:=qq hnb;clear hnums hn6 hnb hsegs;obtain ⟨an,cn,rfl,hcn1,hcn2,-,han⟩:=z08 en2;obtain ⟨m,hm⟩:∃ m,nums.length=m:=⟨_,rfl⟩
    have ltA:Hid (∀ k,(Fd k \/ Rd k \/ FL1 k \/ RL1 k) -> k < w5.heap.size):=qq (fun k e=>e.elim (HA.out.disk.ltF k) fun e=>e.elim (HA.out.disk.ltR k) fun e=>e.elim (HA.out.ltF k) (HA.out.ltR k));have HW:Hid (LgAt W l d Fd Rd FL1 RL1 L1 X):=qq ((HA.out.nb (KB.out.trans_nb K6.out)).keeps en3 (fun k hk e=>by have:=ltA.out k (.inl hk);have:=G6.out;omega) (fun k hk e=>by have:=ltA.out k (.inr (.inl hk));have:=G6.out;omega) (fun k hk e=>by have:=ltA.out k (.inr (.inr (.inl hk)));have:=G6.out;omega) (fun k hk e=>by have:=ltA.out k (.inr (.inr (.inr hk)));have:=G6.out;omega));have SO:=qq (zbn _ nums (w6.heap.size + 2) W en2 HN6.out);have c6:W.cell? ⟨b6,0,none⟩=some (.slice an nums.length cn):=(cell_of_block en1).trans rfl;have EN1:=qq en1;have EN3:=qq en3;have HD:=qq hD;clear en1 en2 en3 hD han;have HM:=qq hm;rw [hm] at SO c6 HN6 EN1;clear hm;go_wp2_with fail;refine SO.out.mono ?_;rintro _ W1 ⟨rfl,⟨ms,hperm,hsort,ho⟩,k1⟩
    have KS:Hid (Keeps (fun k=>w6.heap.size + 2 <= k) W W1):=qq (k1.mono (fun k _ e=>by
     have e:(Value.slice an m cn).ownBlock=some k:=e;rcases ho.2 with ⟨e2,-⟩ | ⟨g,cap,cur,e2,hg,-⟩
     ·rw [e2] at e;simp [Value.ownBlock] at e
     ·rw [e2] at e;simp only [Value.ownBlock,Option.some.injEq] at e;omega))
    have hml:ms.length=m:=by rw [hperm.length_eq];exact HM.out
    have HSG:=qq (HSEG.out ms hperm hsort);have HMB:Hid (∀ n ∈ ms,n <= mxn):=qq (fun n hn=>HNB.out n (hperm.mem_iff.1 hn));have HML:=qq hml;obtain ⟨a',c',ea,-,-,hhas,hbl⟩:=z08 ho;cases ea;have HHAS:=qq hhas;have HBL:Hid (∀ b off,an=some ⟨b,off,none⟩ -> w6.heap.size + 2 <= b):=qq (fun b off e=>(hbl b off e).2.2.1);have hzs:w6.heap.size < W.heap.size:=lt_of_block HD.out;have B61:=qq (KS.out.at EN1.out (fun e=>by have:=G6.out;omega));have HD1:=qq (KS.out.at HD.out (fun e=>by omega));have B21:=qq (KS.out.at (EN3.out.at (K6.out.nb B2B.out) (fun e=>by have:=G2.out;have:=G6.out;omega)) (fun e=>by have:=G2.out;have:=G6.out;omega));have HW1:Hid (LgAt W1 l d Fd Rd FL1 RL1 L1 X):=qq (HW.out.keeps KS.out (fun k hk e=>by have:=ltA.out k (.inl hk);have:=G6.out;omega) (fun k hk e=>by have:=ltA.out k (.inr (.inl hk));have:=G6.out;omega) (fun k hk e=>by have:=ltA.out k (.inr (.inr (.inl hk)));have:=G6.out;omega) (fun k hk e=>by have:=ltA.out k (.inr (.inr (.inr hk)));have:=G6.out;omega));have HV1:Hid (Vars W1):=qq ((HV6.out.keeps EN3.out (fun k hk e=>by have:=h6.out;have:=G2.out;have:=G6.out;omega)).keeps KS.out (fun k hk e=>by have:=h6.out;have:=G2.out;have:=G6.out;omega));have KW1:Hid (Keeps FL w W1):=qq (((((K1.out.of_nb).trans KA.out (fun _ _ e=>e)).trans_nb (KB.out.trans_nb K6.out)).trans EN3.out (fun j hj e=>by have:=G2.out;have:=G6.out;omega)).trans KS.out (fun j hj e=>by have:=G2.out;have:=G6.out;omega));have hF2:¬ FL1 b2:=fun e=>(HFL1.out b2 e).elim (fun e=>by have:=H.out.ltF b2 e;have:=G2.out;omega) (fun e=>by have:=G2.out;omega);have hF6:¬ FL1 b6:=fun e=>by have:=ltA.out b6 (.inr (.inr (.inl e)));have:=G6.out;omega
    have hzw:w1.heap.size <= W1.heap.size /\ w6.heap.size < W1.heap.size:=by have:=KS.out.size;have:=G6.out;omega
    have HF:=qq (And.intro hF2 hF6);have HZW:=qq hzw;clear SO k1 hperm hsort ho hml hhas hbl c6 hF2 hF6 hzw;have c61:W1.cell? ⟨b6,0,none⟩=some (.slice an m cn):=(cell_of_block B61.out).trans rfl;go_wp2
    go_loopw [9,62] (fun ev iv wr=>∃ k Lk en,k <= m /\ ev=.int .i64 (en:Nat) /\ iv=.int .i64 (k:Nat) /\ ReadI X ms W1 l d Fd Rd FL1 RL1 L1 k Lk en wr) (fun _ iv _=>m - (intOf iv).toNat)
    case atStart=>exact ⟨0,L1,0,Nat.zero_le _,rfl,rfl,LUp.of HW1.out (Keeps.refl _ _),rfl,rfl,by rw [HRC.out];simp⟩
    case round =>
     obtain ⟨k,Lk,en,hk,rfl,rfl,hup,hrd,hkn,hkr⟩:=hrel;obtain ⟨FLk,RLk,hlk,hFk,hRk,kk⟩:=hup;have HLK:=qq hlk;have HFK:=qq hFk;have HRK:=qq hRk;have KK:=qq kk;have HRD:=qq hrd;have HKN:=qq hkn;have HKR:=qq hkr;clear hlk hFk hRk kk hrd hkn hkr;have B2r:=qq (KK.out.at B21.out HF.out.1);have B6r:=qq (KK.out.at B61.out HF.out.2);have HDr:=qq (KK.out.at HD1.out (fun e=>by have:=ltA.out _ (.inr (.inr (.inl e)));have:=G6.out;omega));have HVr:Hid (Vars wr):=qq (HV1.out.keeps KK.out (fun k hk e=>by have:=HW1.out.low k (.inr e);omega));have KWr:Hid (Keeps FL w wr):=qq (KW1.out.trans KK.out (fun j hj e=>(HFL1.out j e).elim id (fun e=>by have:=G2.out;omega)));have c2:wr.cell? ⟨b2,0,none⟩=some (.pointer (some ⟨l,0,none⟩)):=(cell_of_block B2r.out).trans rfl;have c6:wr.cell? ⟨b6,0,none⟩=some (.slice an m cn):=(cell_of_block B6r.out).trans rfl;by_cases hlt:k < m
     ·
      have HLT:=qq hlt;have i1:(k:Int) < (m:Int):=by omega
      obtain ⟨n,rest,hdr⟩:∃ n rest,ms.drop k=n :: rest:=⟨ms[k]'(by rw [HML.out];exact hlt),_,List.drop_eq_getElem_cons (by rw [HML.out];exact hlt)⟩
      have hnk:ms[k]?=some n:=by have h:=congrArg (·[0]?) hdr;simpa using h
      obtain ⟨g,off,rfl,hck⟩:∃ b off,an=some ⟨b,off,none⟩ /\ wr.cell? ⟨b,off + k,none⟩=some (.int .i64 (n:Nat)):=by
       rcases HHAS.out.keeps KK.out (fun b off e _ h=>by have:=HBL.out b off e;have:=ltA.out b (.inr (.inr (.inl h)));have:=G6.out;omega) with h | ⟨b,off,h,hc⟩
       ·have:ms=[]:=List.map_eq_nil_iff.1 h;rw [this] at hnk;cases hnk
       ·exact ⟨b,off,h,hc k _ (by rw [List.getElem?_map,hnk];rfl)⟩
      have hnm:n <= mxn:=HMB.out n (List.mem_of_getElem? hnk);have HDR:=qq hdr;have HNK:=qq hnk;have hrest:(rest=[] ↔ k + 1=m):=by
       have:=congrArg List.length hdr;rw [List.length_drop,HML.out,List.length_cons] at this;rw [<- List.length_eq_zero_iff];omega
      have HRS:=qq hrest;obtain ⟨sv3,lv3,vs3,q1,q2,q3,q4⟩:=HLK.out.ex;have Q1:=qq q1;have Q3:=qq q3;have Q4:=qq q4;have Q2:=qq q2;clear hdr hnk hrest q1 q2 q3 q4;go_wp2;refine WT.region (fun u=>u.cell? ⟨b2,0,none⟩=some (.pointer (some ⟨l,0,none⟩)) /\ u.cell? ⟨l,0,none⟩=some (.pointer (some ⟨d,0,none⟩))) 12 13 [0,1,2,3,4,5,6,7,8,9,10,11,12] (by kernel_rfl) rfl ?_;have HS:Hid ((fun u:World=>u.cell? ⟨b2,0,none⟩=some (.pointer (some ⟨l,0,none⟩)) /\ u.cell? ⟨l,0,none⟩=some (.pointer (some ⟨d,0,none⟩))) wr.drew):=qq ⟨c2,(cell_of_block (w:=wr.drew) Q1.out).trans rfl⟩;have SA:=qq (z0t l Lk.name n wr.drew (HVr.out.nb ((Keeps.refl Nb wr).drew)) ((cell_of_block (w:=wr.drew) Q1.out).trans rfl) (by have:=HLK.out.nums.n16;omega) (by unfold mxn at hnm;omega));refine WT.t 0 (v:=.pointer (some ⟨l,0,none⟩)) (y:=by rintro w ⟨C1,C2⟩;exact zb (by kernel_rfl) (by rfl) C1) (s:=HS.out) (h:=?_);refine WT.t 1 (v:=_) (y:=by rintro w ⟨C1,C2⟩;go_simp;with_reducible rfl) (s:=HS.out) (h:=?_);refine WT.t 2 (v:=_) (y:=by rintro w ⟨C1,C2⟩;go_simp;with_reducible rfl) (s:=HS.out) (h:=?_);refine WT.t 3 (v:=.pointer (some ⟨d,0,none⟩)) (y:=by rintro w ⟨C1,C2⟩;exact zb (by kernel_rfl) (by rfl) C2) (s:=HS.out) (h:=?_);refine WT.t 4 (v:=.pointer (some ⟨l,0,none⟩)) (y:=by rintro w ⟨C1,C2⟩;exact zb (by kernel_rfl) (by rfl) C1) (s:=HS.out) (h:=?_);refine WT.t 5 (v:=_) (y:=by rintro w ⟨C1,C2⟩;go_simp;with_reducible rfl) (s:=HS.out) (h:=?_);refine WT.call 6 (by simp only [qi];rfl) (by kernel_rfl) (by rfl) (by go_simp;first | done | rfl | exact ⟨⟨rfl,rfl⟩,rfl⟩ | exact ⟨⟨rfl,rfl,rfl⟩,rfl⟩) SA.out ?_;rintro _ wa ⟨rfl,ka⟩;have KA2:Hid (Keeps Nb wr wa):=qq (((Keeps.refl Nb wr).drew).trans_nb ka);clear ka SA;replace HS:Hid ((fun u:World=>u.cell? ⟨b2,0,none⟩=some (.pointer (some ⟨l,0,none⟩)) /\ u.cell? ⟨l,0,none⟩=some (.pointer (some ⟨d,0,none⟩))) wa):=qq ⟨(cell_of_block (KA2.out.nb B2r.out)).trans rfl,(cell_of_block (KA2.out.nb Q1.out)).trans rfl⟩;refine ⟨_,rfl,HS.out,?_⟩;simp only [Nat.reduceAdd,qn];have RA:=qq (z5p d (sgf Lk.name n) X.D Fd Rd X.fc wa (HLK.out.disk.nb KA2.out) (by have:=z16 (z0u HLK.out.nums.name HLK.out.nums.n16 hnm);unfold maxLen;omega));have hrf:=z1d HLK.out.disk (sgf Lk.name n);have HRF:=qq hrf;clear hrf;generalize hro:readOf X.D X.fc (sgf Lk.name n)=ro at RA HRF;obtain ⟨bs,er⟩:=ro;have HRO:=qq hro;clear hro;refine WT.call 7 (by simp only [qi];rfl) (by kernel_rfl) (by rfl) (by go_simp;first | done | rfl | exact ⟨⟨rfl,rfl⟩,rfl⟩ | exact ⟨⟨rfl,rfl,rfl⟩,rfl⟩) RA.out ?_;rintro _ wb ⟨bv,rfl,hbv,kb⟩;have HBV:Hid (Bytes wb (SinceB wa wb) bv bs):=qq (z0k hbv HRF.out.2);have KB2:Hid (Keeps Nb wr wb):=qq (KA2.out.trans_nb kb);clear hbv kb RA;replace HS:Hid ((fun u:World=>u.cell? ⟨b2,0,none⟩=some (.pointer (some ⟨l,0,none⟩)) /\ u.cell? ⟨l,0,none⟩=some (.pointer (some ⟨d,0,none⟩))) wb):=qq ⟨(cell_of_block (KB2.out.nb B2r.out)).trans rfl,(cell_of_block (KB2.out.nb Q1.out)).trans rfl⟩;refine ⟨_,rfl,HS.out,?_⟩;simp only [Nat.reduceAdd,qn];refine WT.t 8 (v:=_) (y:=by rintro w ⟨C1,C2⟩;go_simp;with_reducible rfl) (s:=HS.out) (h:=?_);refine WT.t 9 (v:=_) (y:=by rintro w ⟨C1,C2⟩;go_simp;with_reducible rfl) (s:=HS.out) (h:=?_);refine WT.t 10 (v:=_) (y:=by rintro w ⟨C1,C2⟩;go_simp;with_reducible rfl) (s:=HS.out) (h:=?_);refine WT.t 11 (v:=_) (y:=by rintro w ⟨C1,C2⟩;go_simp;with_reducible rfl) (s:=HS.out) (h:=?_);refine WT.stop (by kernel_rfl) ?_;refine WP.o 12 (v:=_) (y:=by go_simp;first | with_reducible rfl | exact ⟨rfl,rfl⟩) (h:=?_);refine WP.done (by kernel_rfl) ?_;obtain ⟨bva,bvc,rfl,-⟩:=id HBV.out;have WA:=qq (z6d _ bs _ wb HBV.out (fun _ e=>e.1.2) HRF.out.1);clear HS hck c6;go_wp2_with fail;refine WA.out.mono ?_;rintro _ wq ⟨lv4,vs4,rfl,r4,bl4,k4⟩;have hrw:=z4i HRF.out.2;have hil:=z3h (bs.length + 1) 0 bs;have hwl:(whole bs).1.length <= 2097153:=by
       have h1:(whole bs).1.length <= (items (bs.length + 1) 0 bs).length:=by unfold whole wholeI good;simp only [List.length_map];exact (List.takeWhile_sublist _).length_le
       have:=HRF.out.1;omega
      generalize hwo:whole bs=wo at r4 bl4 hrw hwl ⊢;obtain ⟨rs,wn,rt⟩:=wo;simp only at r4 bl4 hrw hwl ⊢;obtain ⟨p1,p2,a4',c4',rfl,p4,p5,p6,p7,p8⟩:=id r4;have R4:=qq r4;have BL4:=qq bl4;have HRW:=qq hrw;have HWL:=qq hwl;have HWO:=qq hwo;have K4:Hid (Keeps Nb wb wq):=qq k4;have KQ:Hid (Keeps Nb wr wq):=qq (KB2.out.trans_nb k4);obtain ⟨q,hq⟩:∃ q,bs.length=q:=⟨_,rfl⟩
      obtain ⟨r4n,hr4n⟩:∃ q,rs.length=q:=⟨_,rfl⟩
      have HQ:=qq hq;have HR4:=qq hr4n;rw [hq,hr4n];have hstep:rdl X ms L1 0=if rt=true /\ (q <= wn \/ rest=[]) then rdl X rest { Lk with recs:=Lk.recs ++ rs,segment:=n,size:=q } wn else none:=by
       rw [HRD.out,HDR.out,z66,HRO.out];simp only;rw [hwo];simp only;rw [hq]
      have HST:=qq hstep;have HDq:=qq (KQ.out.nb HDr.out);have c2q:wq.cell? ⟨b2,0,none⟩=some (.pointer (some ⟨l,0,none⟩)):=(cell_of_block (KQ.out.nb B2r.out)).trans rfl;have c6q:wq.cell? ⟨b6,0,none⟩=some (.slice (some ⟨g,off,none⟩) m cn):=(cell_of_block (KQ.out.nb B6r.out)).trans rfl;have iw:IntKind.i64.wrap ((m:Int) - 1)=(m:Int) - 1:=IntWalk.i64_in _ (by have:=HN6.out;omega);have hbad:¬ (rt=true /\ (q <= wn \/ rest=[])) -> readR X L s none:=fun hb=>by
       unfold readR;rw [HSN.out];exact ⟨ms,HSG.out,by rw [hstep,if_neg hb];split <;> rfl⟩
      have HBAD:=qq hbad;have HRS2:=qq (HRS.out);clear hwo p1 p2 p4 p5 p6 p7 p8 r4 bl4 hrw hwl hil k4 hq hr4n hstep hbad WA c2;cases rt
      ·
       have HB:=qq (HBAD.out (fun e=>by simp at e));go_wp2;have kp:=zw wq w6.heap.size (.deferred none);have hle6:w.heap.size <= w6.heap.size:=by have:=G2.out;have:=G6.out;omega
       have KF:Hid (Keeps FL w (wq.putObj w6.heap.size (.deferred none))):=qq ((KWr.out.trans_nb KQ.out).trans kp (fun j hj e=>by have:j=w6.heap.size:=e;omega));have DF:Hid (DiskAt (wq.putObj w6.heap.size (.deferred none)) d Fd Rd X.D X.fc):=qq ((HLK.out.disk.nb KQ.out).keeps kp (fun j hj e=>by have:j=w6.heap.size:=e;have:=H.out.disk.ltF j hj;omega) (fun j hj e=>by have:j=w6.heap.size:=e;have:=H.out.disk.ltR j hj;omega));refine ⟨by simp,.inl ⟨_,_,rfl,run_takeDeferred HDq.out,?_⟩⟩;exact ⟨.tuple #[.int .i64 0,.int .i64 10],by simp [results,Tryz.f59,go_sem],none,HB.out,rfl,DF.out,KF.out⟩
      ·
       rcases Nat.lt_or_ge wn q with hwq | hwq
       ·
        rcases Nat.lt_or_ge (k + 1) m with hkm | hkm
        ·
         have HB:=qq (HBAD.out (fun e=>e.2.elim (fun e=>by omega) (fun e=>by have:=HRS2.out.1 e;omega)));have t1:decide ((k:Int) < (m:Int) - 1)=true:=by simp;omega
         have t2:(k:Int) < (m:Int) - 1:=by omega
         clear hkm;go_wp2;have kp:=zw wq w6.heap.size (.deferred none);have hle6:w.heap.size <= w6.heap.size:=by have:=G2.out;have:=G6.out;omega
         have KF:Hid (Keeps FL w (wq.putObj w6.heap.size (.deferred none))):=qq ((KWr.out.trans_nb KQ.out).trans kp (fun j hj e=>by have:j=w6.heap.size:=e;omega));have DF:Hid (DiskAt (wq.putObj w6.heap.size (.deferred none)) d Fd Rd X.D X.fc):=qq ((HLK.out.disk.nb KQ.out).keeps kp (fun j hj e=>by have:j=w6.heap.size:=e;have:=H.out.disk.ltF j hj;omega) (fun j hj e=>by have:j=w6.heap.size:=e;have:=H.out.disk.ltR j hj;omega));refine ⟨by simp,.inl ⟨_,_,rfl,run_takeDeferred HDq.out,?_⟩⟩;exact ⟨.tuple #[.int .i64 0,.int .i64 10],by simp [results,Tryz.f59,go_sem],none,HB.out,rfl,DF.out,KF.out⟩
        ·
         have t1:¬ ((k:Int) < (m:Int) - 1):=by omega
         have HOK:Hid (rdl X ms L1 0=rdl X (ms.drop (k + 1)) { Lk with recs:=Lk.recs ++ rs,segment:=n,size:=q } wn):=qq (by
          have hr:rest=[]:=HRS2.out.2 (by omega);rw [HST.out,if_pos ⟨rfl,.inr hr⟩];have:=congrArg (List.drop 1) HDR.out;rw [List.drop_drop] at this;simp at this
          rw [this])
         clear hkm;have c9:wq.cell? ⟨l,9,none⟩=some lv3:=(cell_of_block (KQ.out.nb Q1.out)).trans rfl;have HLQ:=qq (HLK.out.nb KQ.out);have R3:=qq (Q3.out.keeps KQ.out (fun _ _ _ e=>e));obtain ⟨-,p2,a4,c4,ea,p4,p5,p6,p7,p8⟩:=id R4.out;cases ea;have HAS4:=qq p6;have ONE4:=qq p2;have hvl:vs4.length=r4n:=by rw [BL4.out.1];exact HR4.out
         have HVL:=qq hvl;obtain ⟨lk,hlk⟩:∃ q,Lk.recs.length=q:=⟨_,rfl⟩
         have HLKN:=qq hlk;rw [hlk] at R3;have hkr:lk <= 2097153000000:=by have h1:=HKR.out;rw [hlk] at h1;have:=HN6.out;omega
         have hwl:r4n <= 2097153:=by have:=HWL.out;have:=HR4.out;omega
         clear p2 p4 p5 p6 p7 p8 hvl hlk;go_wp2;clear c6q;refine WT.region (fun u=>u.cell? ⟨b2,0,none⟩=some (.pointer (some ⟨l,0,none⟩)) /\ u.cell? ⟨l,9,none⟩=some lv3) 7 10 [0,1,2,3,4,5,6,7,8,9] (by kernel_rfl) rfl ?_;have HS:Hid ((fun u:World=>u.cell? ⟨b2,0,none⟩=some (.pointer (some ⟨l,0,none⟩)) /\ u.cell? ⟨l,9,none⟩=some lv3) wq.drew):=qq ⟨c2q,c9⟩;refine WT.t 0 (v:=.pointer (some ⟨l,0,none⟩)) (y:=by rintro w ⟨C1,C2⟩;exact zb (by kernel_rfl) (by rfl) C1) (s:=HS.out) (h:=?_);refine WT.t 1 (v:=.pointer (some ⟨l,0,none⟩)) (y:=by rintro w ⟨C1,C2⟩;exact zb (by kernel_rfl) (by rfl) C1) (s:=HS.out) (h:=?_);refine WT.t 2 (v:=_) (y:=by rintro w ⟨C1,C2⟩;go_simp;with_reducible rfl) (s:=HS.out) (h:=?_);refine WT.t 3 (v:=_) (y:=by rintro w ⟨C1,C2⟩;go_simp;with_reducible rfl) (s:=HS.out) (h:=?_);refine WT.t 4 (v:=lv3) (y:=by rintro w ⟨C1,C2⟩;exact zb (by kernel_rfl) (by rfl) C2) (s:=HS.out) (h:=?_);refine WT.t 5 (v:=_) (y:=by rintro w ⟨C1,C2⟩;go_simp;with_reducible rfl) (s:=HS.out) (h:=?_);refine WT.o 6 (y:=re_push' el27 (R3.out.keeps ((Keeps.refl Nb wq).drew) (fun _ _ _ e=>e)) (by rfl) (by rfl) (HAS4.out.nb ((Keeps.refl Nb wq).drew)) (by rw [HVL.out];omega) ONE4.out (by unfold maxLen;omega) (by omega)) (h:=?_);rintro lv5 w7 ⟨r5,S5,k5,hS5⟩;simp only [Nat.reduceAdd,qn];have kq7:Keeps S5 wq w7:=((Keeps.refl Nb wq).drew.of_nb).trans k5 (fun _ _ e=>e);have hS5':∀ k,S5 k -> FLk k /\ IsT wq 22 k:=hS5;have hnb2:¬ S5 b2:=fun e=>(HFK.out b2 (hS5' b2 e).1).elim HF.out.1 (fun e=>by have:=G2.out;have:=HZW.out;omega);have hnl:¬ S5 l:=fun e=>by have:=(hS5' l e).2;exact (this.ne ⟨_,_,KQ.out.nb Q1.out⟩ (by decide)) rfl
         have B27:=qq (kq7.at (KQ.out.nb B2r.out) hnb2);have Q17:=qq (kq7.at (KQ.out.nb Q1.out) hnl);have KQ7:=qq kq7;have HS5:=qq hS5';have R5:Hid (RowS w7 (Up FLk wq.drew w7) (fun _=>False) 22 1 lv5 (lk + r4n) (vs3 ++ vs4)):=qq r5;obtain ⟨-,-,a5,c5',rfl,-⟩:=id r5;clear kq7 hS5' hnb2 hnl r5 k5 hS5;replace HS:Hid ((fun u:World=>u.cell? ⟨b2,0,none⟩=some (.pointer (some ⟨l,0,none⟩)) /\ u.cell? ⟨l,9,none⟩=some lv3) w7):=qq ⟨(cell_of_block B27.out).trans rfl,(cell_of_block Q17.out).trans rfl⟩;refine ⟨HS.out,?_⟩;refine WT.stop (by kernel_rfl) ?_;refine WP.o 7 (v:=_) (y:=by go_simp;first | with_reducible rfl | exact ⟨rfl,rfl⟩) (h:=?_);refine WP.o 8 (v:=_) (y:=by go_simp;first | with_reducible rfl | exact ⟨rfl,rfl⟩) (h:=?_);refine WP.onlySkipE 9 (by simp only [qi];rfl) (by kernel_rfl) (by rfl) (zd (v:=.slice a5 (lk + r4n) c5') (n:=1) (by kernel_rfl) (by rfl) (by rfl) Q17.out (by rfl) (by simp [Value.cells,lcs]) (by simp [Value.cells,Value.oneCell'])) ?_;intro w8 s8;simp only [Nat.reduceAdd,qn];refine WP.done (by kernel_rfl) ?_;have B28:=qq (s8.k.at B27.out (fun e=>hb2l e));have S8:Hid (SetAt w7 w8 l (.cells (lcs d sv3 (.slice a5 (lk + r4n) c5') Lk) 78 (0,0))):=qq ⟨s8.blk,s8.k⟩;have c28:w8.cell? ⟨b2,0,none⟩=some (.pointer (some ⟨l,0,none⟩)):=(cell_of_block B28.out).trans rfl;clear s8 HS c2q c9;go_wp2;refine WT.region (fun u=>u.cell? ⟨b2,0,none⟩=some (.pointer (some ⟨l,0,none⟩))) 12 13 [0,1,2,3,4,5,6,7,8,9,10,11,12] (by kernel_rfl) rfl ?_;have HS:Hid ((fun u:World=>u.cell? ⟨b2,0,none⟩=some (.pointer (some ⟨l,0,none⟩))) w8.drew):=qq c28;refine WT.t 0 (v:=.pointer (some ⟨l,0,none⟩)) (y:=by rintro w C1;exact zb (by kernel_rfl) (by rfl) C1) (s:=HS.out) (h:=?_);refine WT.t 1 (v:=.pointer (some ⟨l,0,none⟩)) (y:=by rintro w C1;exact zb (by kernel_rfl) (by rfl) C1) (s:=HS.out) (h:=?_);refine WT.t 2 (v:=_) (y:=by rintro w C1;go_simp;with_reducible rfl) (s:=HS.out) (h:=?_);refine WT.t 3 (v:=_) (y:=by rintro w C1;go_simp;with_reducible rfl) (s:=HS.out) (h:=?_);refine WT.t 4 (v:=_) (y:=by rintro w C1;go_simp;with_reducible rfl) (s:=HS.out) (h:=?_);refine WT.t 5 (v:=_) (y:=by rintro w C1;go_simp;with_reducible rfl) (s:=HS.out) (h:=?_);refine WT.t 6 (v:=_) (y:=by rintro w C1;go_simp;with_reducible rfl) (s:=HS.out) (h:=?_);refine WT.t 7 (v:=_) (y:=by rintro w C1;go_simp;with_reducible rfl) (s:=HS.out) (h:=?_);refine WT.onlySkipE 8 (by simp only [qi];rfl) (by kernel_rfl) (by rfl) (zd (w:=w8.drew) (v:=.int .i64 (n:Nat)) (n:=1) (by kernel_rfl) (by rfl) (by rfl) S8.out.blk (by rfl) (by simp [Value.cells,lcs]) (by simp [Value.cells,Value.oneCell'])) ?_;intro w9 s9;have B29:=qq (s9.k.at (w:=w8.drew) B28.out (fun e=>hb2l e));have S9:Hid (SetAt w7 w9 l (.cells (lcs d sv3 (.slice a5 (lk + r4n) c5') { Lk with segment:=n }) 78 (0,0))):=qq ⟨s9.blk,(S8.out.k.drew).trans s9.k (fun _ _ e=>e)⟩;replace HS:Hid ((fun u:World=>u.cell? ⟨b2,0,none⟩=some (.pointer (some ⟨l,0,none⟩))) w9):=qq ((cell_of_block B29.out).trans rfl);refine ⟨HS.out,?_⟩;simp only [Nat.reduceAdd,qn];clear s9;refine WT.t 9 (v:=_) (y:=by rintro w C1;go_simp;with_reducible rfl) (s:=HS.out) (h:=?_);refine WT.t 10 (v:=_) (y:=by rintro w C1;go_simp;with_reducible rfl) (s:=HS.out) (h:=?_);refine WT.onlySkipE 11 (by simp only [qi];rfl) (by kernel_rfl) (by rfl) (zd (v:=.int .i64 (q:Nat)) (n:=1) (by kernel_rfl) (by rfl) (by rfl) S9.out.blk (by rfl) (by simp [Value.cells,lcs]) (by simp [Value.cells,Value.oneCell'])) ?_;intro w10 s10;have S10:Hid (SetAt w7 w10 l (.cells (lcs d sv3 (.slice a5 (lk + r4n) c5') { Lk with recs:=Lk.recs ++ rs,segment:=n,size:=q }) 78 (0,0))):=qq ⟨s10.blk,S9.out.k.trans s10.k (fun _ _ e=>e)⟩;replace HS:Hid ((fun u:World=>u.cell? ⟨b2,0,none⟩=some (.pointer (some ⟨l,0,none⟩))) w10):=qq ((cell_of_block (s10.k.at B29.out (fun e=>hb2l e))).trans rfl);refine ⟨HS.out,?_⟩;simp only [Nat.reduceAdd,qn];clear s10;refine WT.stop (by kernel_rfl) ?_;refine WP.o 12 (v:=_) (y:=by go_simp;first | with_reducible rfl | exact ⟨rfl,rfl⟩) (h:=?_);refine WP.done (by kernel_rfl) ?_;have hI:ReadI X ms W1 l d Fd Rd FL1 RL1 L1 (k + 1) { Lk with recs:=Lk.recs ++ rs,segment:=n,size:=q } wn w10:=by
          have z1:=KK.out.size;have z2:=KQ.out.size;have z3:=KQ7.out.size;have z4:=KB2.out.size;have hRS:∀ k,RLk k -> ¬ S5 k:=fun k hk e=>(HLK.out.apR k hk).2 (HS5.out k e).1;have hSB:∀ k,SinceB wb wq k -> ¬ S5 k:=fun k hk e=>(hk.2.ne (HS5.out k e).2 (by decide)) rfl;refine ⟨⟨_,_,LgAt.put (w0:=wr) (vs:=vs3 ++ vs4) HLK.out (by omega) ((HLK.out.disk.nb KQ.out).keeps KQ7.out (fun k hk e=>(HLK.out.apF k (HS5.out k e).1).1 hk) (fun k hk e=>(HLK.out.apF k (HS5.out k e).1).2 hk)) ⟨_,Q17.out⟩ S10.out ?_ (by have:=h6.out;have:=KWr.out.size;omega) ?_ ?_ ?_ ?_,?_,?_,?_⟩,HOK.out,HKN.out,?_⟩
          ·
           rintro k (e | e | e | e)
           ·exact HLK.out.disk.ltF k e
           ·exact HLK.out.disk.ltR k e
           ·exact HLK.out.ltF k e
           ·exact HLK.out.ltR k e
          ·have hh:=HLK.out.nums;exact ⟨hh.name,hh.n16,hh.most,hh.first,(by have:=hnm;unfold mxn at this;exact Nat.le_trans this (by decide)),hh.segments,(by have:=HRF.out.1;have:=HQ.out;show q <= 33554432;omega),hh.recs.append HRW.out,(by show (Lk.recs ++ rs).length <= _;rw [List.length_append,HLKN.out,HR4.out];omega),hh.snap⟩
          ·exact (Q2.out.keeps KQ.out (fun _ _ e=>e)).keeps KQ7.out hRS |>.mono (fun k e=>.inl e)
          ·
           have e1:(Lk.recs ++ rs).length=lk + r4n:=by rw [List.length_append,HLKN.out,HR4.out]
           show RowS w7 _ _ 22 1 _ (Lk.recs ++ rs).length _;rw [e1];refine R5.out.typed.mono (fun k e=>?_) (fun _ e=>e);rcases e with ⟨e | e,ht⟩
           ·exact .inl e
           ·have e1:wq.heap.size <= k:=e.1;exact .inr ⟨by omega,e.2,ht⟩
          ·exact (((Q4.out.keeps KQ.out (fun _ _ e=>e)).keeps KQ7.out hRS).mono (fun k e=>.inl e)).append ((BL4.out.keeps KQ7.out hSB).mono (fun k e=>.inr ⟨by have:=e.1.1;omega,by have:=e.1.2;omega,e.2.keeps KQ7.out (hSB k e)⟩))
          ·
           rintro k (e | e)
           ·exact HFK.out k e
           ·exact .inr (by omega)
          ·
           rintro k (e | e)
           ·exact HRK.out k e
           ·exact .inr (by omega)
          ·exact ((KK.out.trans_nb KQ.out).trans KQ7.out (fun j hj e=>(HFK.out j (HS5.out j e).1).elim id (fun e=>by omega))).trans S10.out.k (fun j hj e=>by have e:j=l:=e;subst e;exact HW1.out.fl)
          ·show (Lk.recs ++ rs).length <= _;rw [List.length_append,HLKN.out,HR4.out];have:=HKR.out;rw [HLKN.out] at this;omega
         have HI:=qq hI;clear hI HS c28;have hk6:k <= 1000000:=by have:=HN6.out;have:=HLT.out;omega
         go_wp2;go_roundw
         case rel=>exact ⟨k + 1,_,wn,HLT.out,rfl,by go_num,HI.out⟩
         case measure=>have hlt2:=HLT.out;simp [intOf];omega
       ·
        have HOK:Hid (rdl X ms L1 0=rdl X (ms.drop (k + 1)) { Lk with recs:=Lk.recs ++ rs,segment:=n,size:=q } wn):=qq (by
         rw [HST.out,if_pos ⟨rfl,.inl hwq⟩];have:=congrArg (List.drop 1) HDR.out;rw [List.drop_drop] at this;simp at this
         rw [this])
        have c9:wq.cell? ⟨l,9,none⟩=some lv3:=(cell_of_block (KQ.out.nb Q1.out)).trans rfl;have HLQ:=qq (HLK.out.nb KQ.out);have R3:=qq (Q3.out.keeps KQ.out (fun _ _ _ e=>e));obtain ⟨-,p2,a4,c4,ea,p4,p5,p6,p7,p8⟩:=id R4.out;cases ea;have HAS4:=qq p6;have ONE4:=qq p2;have hvl:vs4.length=r4n:=by rw [BL4.out.1];exact HR4.out
        have HVL:=qq hvl;obtain ⟨lk,hlk⟩:∃ q,Lk.recs.length=q:=⟨_,rfl⟩
        have HLKN:=qq hlk;rw [hlk] at R3;have hkr:lk <= 2097153000000:=by have h1:=HKR.out;rw [hlk] at h1;have:=HN6.out;omega
        have hwl:r4n <= 2097153:=by have:=HWL.out;have:=HR4.out;omega
        clear p2 p4 p5 p6 p7 p8 hvl hlk;go_wp2;clear c6q;refine WT.region (fun u=>u.cell? ⟨b2,0,none⟩=some (.pointer (some ⟨l,0,none⟩)) /\ u.cell? ⟨l,9,none⟩=some lv3) 7 10 [0,1,2,3,4,5,6,7,8,9] (by kernel_rfl) rfl ?_;have HS:Hid ((fun u:World=>u.cell? ⟨b2,0,none⟩=some (.pointer (some ⟨l,0,none⟩)) /\ u.cell? ⟨l,9,none⟩=some lv3) wq.drew):=qq ⟨c2q,c9⟩;refine WT.t 0 (v:=.pointer (some ⟨l,0,none⟩)) (y:=by rintro w ⟨C1,C2⟩;exact zb (by kernel_rfl) (by rfl) C1) (s:=HS.out) (h:=?_);refine WT.t 1 (v:=.pointer (some ⟨l,0,none⟩)) (y:=by rintro w ⟨C1,C2⟩;exact zb (by kernel_rfl) (by rfl) C1) (s:=HS.out) (h:=?_);refine WT.t 2 (v:=_) (y:=by rintro w ⟨C1,C2⟩;go_simp;with_reducible rfl) (s:=HS.out) (h:=?_);refine WT.t 3 (v:=_) (y:=by rintro w ⟨C1,C2⟩;go_simp;with_reducible rfl) (s:=HS.out) (h:=?_);refine WT.t 4 (v:=lv3) (y:=by rintro w ⟨C1,C2⟩;exact zb (by kernel_rfl) (by rfl) C2) (s:=HS.out) (h:=?_);refine WT.t 5 (v:=_) (y:=by rintro w ⟨C1,C2⟩;go_simp;with_reducible rfl) (s:=HS.out) (h:=?_);refine WT.o 6 (y:=re_push' el27 (R3.out.keeps ((Keeps.refl Nb wq).drew) (fun _ _ _ e=>e)) (by rfl) (by rfl) (HAS4.out.nb ((Keeps.refl Nb wq).drew)) (by rw [HVL.out];omega) ONE4.out (by unfold maxLen;omega) (by omega)) (h:=?_);rintro lv5 w7 ⟨r5,S5,k5,hS5⟩;simp only [Nat.reduceAdd,qn];have kq7:Keeps S5 wq w7:=((Keeps.refl Nb wq).drew.of_nb).trans k5 (fun _ _ e=>e);have hS5':∀ k,S5 k -> FLk k /\ IsT wq 22 k:=hS5;have hnb2:¬ S5 b2:=fun e=>(HFK.out b2 (hS5' b2 e).1).elim HF.out.1 (fun e=>by have:=G2.out;have:=HZW.out;omega);have hnl:¬ S5 l:=fun e=>by have:=(hS5' l e).2;exact (this.ne ⟨_,_,KQ.out.nb Q1.out⟩ (by decide)) rfl
        have B27:=qq (kq7.at (KQ.out.nb B2r.out) hnb2);have Q17:=qq (kq7.at (KQ.out.nb Q1.out) hnl);have KQ7:=qq kq7;have HS5:=qq hS5';have R5:Hid (RowS w7 (Up FLk wq.drew w7) (fun _=>False) 22 1 lv5 (lk + r4n) (vs3 ++ vs4)):=qq r5;obtain ⟨-,-,a5,c5',rfl,-⟩:=id r5;clear kq7 hS5' hnb2 hnl r5 k5 hS5;replace HS:Hid ((fun u:World=>u.cell? ⟨b2,0,none⟩=some (.pointer (some ⟨l,0,none⟩)) /\ u.cell? ⟨l,9,none⟩=some lv3) w7):=qq ⟨(cell_of_block B27.out).trans rfl,(cell_of_block Q17.out).trans rfl⟩;refine ⟨HS.out,?_⟩;refine WT.stop (by kernel_rfl) ?_;refine WP.o 7 (v:=_) (y:=by go_simp;first | with_reducible rfl | exact ⟨rfl,rfl⟩) (h:=?_);refine WP.o 8 (v:=_) (y:=by go_simp;first | with_reducible rfl | exact ⟨rfl,rfl⟩) (h:=?_);refine WP.onlySkipE 9 (by simp only [qi];rfl) (by kernel_rfl) (by rfl) (zd (v:=.slice a5 (lk + r4n) c5') (n:=1) (by kernel_rfl) (by rfl) (by rfl) Q17.out (by rfl) (by simp [Value.cells,lcs]) (by simp [Value.cells,Value.oneCell'])) ?_;intro w8 s8;simp only [Nat.reduceAdd,qn];refine WP.done (by kernel_rfl) ?_;have B28:=qq (s8.k.at B27.out (fun e=>hb2l e));have S8:Hid (SetAt w7 w8 l (.cells (lcs d sv3 (.slice a5 (lk + r4n) c5') Lk) 78 (0,0))):=qq ⟨s8.blk,s8.k⟩;have c28:w8.cell? ⟨b2,0,none⟩=some (.pointer (some ⟨l,0,none⟩)):=(cell_of_block B28.out).trans rfl;clear s8 HS c2q c9;go_wp2;refine WT.region (fun u=>u.cell? ⟨b2,0,none⟩=some (.pointer (some ⟨l,0,none⟩))) 12 13 [0,1,2,3,4,5,6,7,8,9,10,11,12] (by kernel_rfl) rfl ?_;have HS:Hid ((fun u:World=>u.cell? ⟨b2,0,none⟩=some (.pointer (some ⟨l,0,none⟩))) w8.drew):=qq c28;refine WT.t 0 (v:=.pointer (some ⟨l,0,none⟩)) (y:=by rintro w C1;exact zb (by kernel_rfl) (by rfl) C1) (s:=HS.out) (h:=?_);refine WT.t 1 (v:=.pointer (some ⟨l,0,none⟩)) (y:=by rintro w C1;exact zb (by kernel_rfl) (by rfl) C1) (s:=HS.out) (h:=?_);refine WT.t 2 (v:=_) (y:=by rintro w C1;go_simp;with_reducible rfl) (s:=HS.out) (h:=?_);refine WT.t 3 (v:=_) (y:=by rintro w C1;go_simp;with_reducible rfl) (s:=HS.out) (h:=?_);refine WT.t 4 (v:=_) (y:=by rintro w C1;go_simp;with_reducible rfl) (s:=HS.out) (h:=?_);refine WT.t 5 (v:=_) (y:=by rintro w C1;go_simp;with_reducible rfl) (s:=HS.out) (h:=?_);refine WT.t 6 (v:=_) (y:=by rintro w C1;go_simp;with_reducible rfl) (s:=HS.out) (h:=?_);refine WT.t 7 (v:=_) (y:=by rintro w C1;go_simp;with_reducible rfl) (s:=HS.out) (h:=?_);refine WT.onlySkipE 8 (by simp only [qi];rfl) (by kernel_rfl) (by rfl) (zd (w:=w8.drew) (v:=.int .i64 (n:Nat)) (n:=1) (by kernel_rfl) (by rfl) (by rfl) S8.out.blk (by rfl) (by simp [Value.cells,lcs]) (by simp [Value.cells,Value.oneCell'])) ?_;intro w9 s9;have B29:=qq (s9.k.at (w:=w8.drew) B28.out (fun e=>hb2l e));have S9:Hid (SetAt w7 w9 l (.cells (lcs d sv3 (.slice a5 (lk + r4n) c5') { Lk with segment:=n }) 78 (0,0))):=qq ⟨s9.blk,(S8.out.k.drew).trans s9.k (fun _ _ e=>e)⟩;replace HS:Hid ((fun u:World=>u.cell? ⟨b2,0,none⟩=some (.pointer (some ⟨l,0,none⟩))) w9):=qq ((cell_of_block B29.out).trans rfl);refine ⟨HS.out,?_⟩;simp only [Nat.reduceAdd,qn];clear s9;refine WT.t 9 (v:=_) (y:=by rintro w C1;go_simp;with_reducible rfl) (s:=HS.out) (h:=?_);refine WT.t 10 (v:=_) (y:=by rintro w C1;go_simp;with_reducible rfl) (s:=HS.out) (h:=?_);refine WT.onlySkipE 11 (by simp only [qi];rfl) (by kernel_rfl) (by rfl) (zd (v:=.int .i64 (q:Nat)) (n:=1) (by kernel_rfl) (by rfl) (by rfl) S9.out.blk (by rfl) (by simp [Value.cells,lcs]) (by simp [Value.cells,Value.oneCell'])) ?_;intro w10 s10;have S10:Hid (SetAt w7 w10 l (.cells (lcs d sv3 (.slice a5 (lk + r4n) c5') { Lk with recs:=Lk.recs ++ rs,segment:=n,size:=q }) 78 (0,0))):=qq ⟨s10.blk,S9.out.k.trans s10.k (fun _ _ e=>e)⟩;replace HS:Hid ((fun u:World=>u.cell? ⟨b2,0,none⟩=some (.pointer (some ⟨l,0,none⟩))) w10):=qq ((cell_of_block (s10.k.at B29.out (fun e=>hb2l e))).trans rfl);refine ⟨HS.out,?_⟩;simp only [Nat.reduceAdd,qn];clear s10;refine WT.stop (by kernel_rfl) ?_;refine WP.o 12 (v:=_) (y:=by go_simp;first | with_reducible rfl | exact ⟨rfl,rfl⟩) (h:=?_);refine WP.done (by kernel_rfl) ?_;have hI:ReadI X ms W1 l d Fd Rd FL1 RL1 L1 (k + 1) { Lk with recs:=Lk.recs ++ rs,segment:=n,size:=q } wn w10:=by
         have z1:=KK.out.size;have z2:=KQ.out.size;have z3:=KQ7.out.size;have z4:=KB2.out.size;have hRS:∀ k,RLk k -> ¬ S5 k:=fun k hk e=>(HLK.out.apR k hk).2 (HS5.out k e).1;have hSB:∀ k,SinceB wb wq k -> ¬ S5 k:=fun k hk e=>(hk.2.ne (HS5.out k e).2 (by decide)) rfl;refine ⟨⟨_,_,LgAt.put (w0:=wr) (vs:=vs3 ++ vs4) HLK.out (by omega) ((HLK.out.disk.nb KQ.out).keeps KQ7.out (fun k hk e=>(HLK.out.apF k (HS5.out k e).1).1 hk) (fun k hk e=>(HLK.out.apF k (HS5.out k e).1).2 hk)) ⟨_,Q17.out⟩ S10.out ?_ (by have:=h6.out;have:=KWr.out.size;omega) ?_ ?_ ?_ ?_,?_,?_,?_⟩,HOK.out,HKN.out,?_⟩
         ·
          rintro k (e | e | e | e)
          ·exact HLK.out.disk.ltF k e
          ·exact HLK.out.disk.ltR k e
          ·exact HLK.out.ltF k e
          ·exact HLK.out.ltR k e
         ·have hh:=HLK.out.nums;exact ⟨hh.name,hh.n16,hh.most,hh.first,(by have:=hnm;unfold mxn at this;exact Nat.le_trans this (by decide)),hh.segments,(by have:=HRF.out.1;have:=HQ.out;show q <= 33554432;omega),hh.recs.append HRW.out,(by show (Lk.recs ++ rs).length <= _;rw [List.length_append,HLKN.out,HR4.out];omega),hh.snap⟩
         ·exact (Q2.out.keeps KQ.out (fun _ _ e=>e)).keeps KQ7.out hRS |>.mono (fun k e=>.inl e)
         ·
          have e1:(Lk.recs ++ rs).length=lk + r4n:=by rw [List.length_append,HLKN.out,HR4.out]
          show RowS w7 _ _ 22 1 _ (Lk.recs ++ rs).length _;rw [e1];refine R5.out.typed.mono (fun k e=>?_) (fun _ e=>e);rcases e with ⟨e | e,ht⟩
          ·exact .inl e
          ·have e1:wq.heap.size <= k:=e.1;exact .inr ⟨by omega,e.2,ht⟩
         ·exact (((Q4.out.keeps KQ.out (fun _ _ e=>e)).keeps KQ7.out hRS).mono (fun k e=>.inl e)).append ((BL4.out.keeps KQ7.out hSB).mono (fun k e=>.inr ⟨by have:=e.1.1;omega,by have:=e.1.2;omega,e.2.keeps KQ7.out (hSB k e)⟩))
         ·
          rintro k (e | e)
          ·exact HFK.out k e
          ·exact .inr (by omega)
         ·
          rintro k (e | e)
          ·exact HRK.out k e
          ·exact .inr (by omega)
         ·exact ((KK.out.trans_nb KQ.out).trans KQ7.out (fun j hj e=>(HFK.out j (HS5.out j e).1).elim id (fun e=>by omega))).trans S10.out.k (fun j hj e=>by have e:j=l:=e;subst e;exact HW1.out.fl)
         ·show (Lk.recs ++ rs).length <= _;rw [List.length_append,HLKN.out,HR4.out];have:=HKR.out;rw [HLKN.out] at this;omega
        have HI:=qq hI;clear hI HS c28;have hk6:k <= 1000000:=by have:=HN6.out;have:=HLT.out;omega
        go_wp2;go_roundw
        case rel=>exact ⟨k + 1,_,wn,HLT.out,rfl,by go_num,HI.out⟩
        case measure=>have hlt2:=HLT.out;simp [intOf];omega
     ·
      obtain rfl:k=m:=by omega
      obtain ⟨sv3,lv3,vs3,q1,q2,q3,q4⟩:=HLK.out.ex;have Q1:=qq q1;have Q3:=qq q3;have Q4:=qq q4;have Q2:=qq q2;clear q1 q2 q3 q4;go_wp2_with (first | go_skip | (with_reducible refine qv (by decide) ?_))
      refine za (zc rfl (zd (v:=.int .i64 (k:Nat)) (n:=1) (by kernel_rfl) (by rfl) (by rfl) Q1.out (by rfl) (by simp [Value.cells,lcs]) (by simp [Value.cells,Value.oneCell'])) ?_);intro w7 s7;simp only [Nat.reduceAdd,qn];have hlr:rdl X ms L1 0=some (Lk,en):=by
       rw [HRD.out,List.drop_of_length_le (by rw [HML.out];exact Nat.le_refl _)];rfl
      have c26:w7.cell? ⟨b6,0,none⟩=some (.slice an k cn):=(cell_of_block (s7.k.at B6r.out (fun e=>by have:=G2.out;have:=G6.out;omega))).trans rfl;have HD7:=qq (s7.k.at HDr.out (fun e=>by have:=G2.out;have:=G6.out;omega));have hmg:LgAt w7 l d Fd Rd (fun j=>FLk j \/ (wr.heap.size <= j /\ j < wr.heap.size /\ IsT wr 22 j)) (fun j=>RLk j \/ (wr.heap.size <= j /\ j < wr.heap.size /\ IsT wr 5 j)) { Lk with segments:=k } X:=by
       have hh:=HLK.out.nums;refine LgAt.put (w0:=wr) (vs:=vs3) HLK.out (Nat.le_refl _) HLK.out.disk ⟨_,Q1.out⟩ (sv:=sv3) (lv:=lv3) ⟨s7.blk,s7.k⟩ ?_ (by have:=h6.out;have:=KWr.out.size;omega) ⟨hh.name,hh.n16,hh.most,hh.first,hh.segment,HN6.out,hh.size,hh.recs,hh.nrec,hh.snap⟩ (Q2.out.mono fun j e=>.inl e) (Q3.out.mono (fun j e=>.inl e) (fun _ e=>e)) (Q4.out.mono fun j e=>.inl e);rintro j (e | e | e | e)
       ·exact HLK.out.disk.ltF j e
       ·exact HLK.out.disk.ltR j e
       ·exact HLK.out.ltF j e
       ·exact HLK.out.ltR j e
      have HMG:=qq hmg;have HLR:=qq hlr;have S7:=qq s7.k;have hle6:w.heap.size <= w6.heap.size:=by have:=G2.out;have:=G6.out;omega
      have kp:=zw w7 w6.heap.size (.deferred none);have KWW:Hid (Keeps FL w (w7.putObj w6.heap.size (.deferred none))):=qq ((KWr.out.trans s7.k (fun j hj e=>by have e:j=l:=e;subst e;exact H.out.fl)).trans kp (fun j hj e=>by have:j=w6.heap.size:=e;omega))
      have ncl:Hid (∀ j,(Fd j \/ Rd j \/ (FLk j \/ (wr.heap.size <= j /\ j < wr.heap.size /\ IsT wr 22 j)) \/ (RLk j \/ (wr.heap.size <= j /\ j < wr.heap.size /\ IsT wr 5 j))) -> ¬ j=w6.heap.size):=qq (fun j e h=>by
       have hz1:=HZW.out.2;rcases e with e | e | (e | e) | (e | e)
       ·have:=H.out.disk.ltF j e;omega
       ·have:=H.out.disk.ltR j e;omega
       ·
        rcases HFK.out j e with e | e
        ·have:=ltA.out j (.inr (.inr (.inl e)));have:=G6.out;omega
        ·omega
       ·omega
       ·
        rcases HRK.out j e with e | e
        ·have:=ltA.out j (.inr (.inr (.inr e)));have:=G6.out;omega
        ·omega
       ·omega)
      have HG2:Hid (LgAt (w7.putObj w6.heap.size (.deferred none)) l d Fd Rd (fun j=>FLk j \/ (wr.heap.size <= j /\ j < wr.heap.size /\ IsT wr 22 j)) (fun j=>RLk j \/ (wr.heap.size <= j /\ j < wr.heap.size /\ IsT wr 5 j)) { Lk with segments:=k } X):=qq (hmg.keeps kp (fun j e=>ncl.out j (.inl e)) (fun j e=>ncl.out j (.inr (.inl e))) (fun j e=>ncl.out j (.inr (.inr (.inl e)))) (fun j e=>ncl.out j (.inr (.inr (.inr e)))));clear s7 hlr hmg kp c2 c6;by_cases hk0:k=0
      ·
       have HR:Hid (readR X L s none):=qq (by
        unfold readR;rw [HSN.out]
        exact ⟨ms,HSG.out,by rw [if_pos (List.length_eq_zero_iff.1 (by rw [HML.out];exact hk0))]⟩)
       subst hk0;go_wp2;refine ⟨by simp,.inl ⟨_,_,rfl,run_takeDeferred HD7.out,?_⟩⟩;exact ⟨.tuple #[.int .i64 0,.int .i64 10],by simp [results,Tryz.f59,go_sem],none,HR.out,rfl,HG2.out.disk,KWW.out⟩
      ·
       have HR:Hid (readR X L s (some ({ Lk with segments:=k },en))):=qq (by
        unfold readR;rw [HSN.out];refine ⟨ms,HSG.out,?_⟩
        rw [if_neg (fun e=>hk0 (by rw [<- HML.out,e];rfl)),HLR.out,HML.out];rfl)
       have HU:Hid (LUp w (w7.putObj w6.heap.size (.deferred none)) l d Fd Rd FL RL { Lk with segments:=k } X):=qq (by
        refine ⟨_,_,HG2.out,?_,?_,KWW.out⟩
        ·
         have hz:=KWr.out.size;have hz1:=KW1.out.size;rintro j (e | e)
         ·
          rcases HFK.out j e with e | e
          ·exact (HFL1.out j e).imp id (fun e=>by have:=G2.out;omega)
          ·exact .inr (by omega)
         ·omega
        ·
         have hz:=KWr.out.size;have hz1:=KW1.out.size;rintro j (e | e)
         ·
          rcases HRK.out j e with e | e
          ·exact (HRL1.out j e).imp id (fun e=>by have:=G2.out;omega)
          ·exact .inr (by omega)
         ·omega)
       have t1:((k:Int) == 0)=false:=by simpa using hk0
       clear hk0;go_wp2;refine ⟨by simp,.inl ⟨_,_,rfl,run_takeDeferred HD7.out,?_⟩⟩;exact ⟨.tuple #[.int .i64 (en:Nat),.int .i64 0],by simp [results,Tryz.f59,go_sem],_,HR.out,rfl,HU.out⟩
end Go.Proofs.YtpjomdmjohjheaaGreatDoor
end
section
namespace Go.Proofs.YtpjomdmjohjheaaGreatDoor
open Go.RowKit Go.Lk Go.Vfs Go.Log
theorem OpE.disk {w u w1:World} {l d:Nat} {Fd Rd FL RL:Nat -> Prop} {L:Lg} {X:Ds} {k er:Int} {o:Log.Op} {D':Dk} {fc':Nat -> Fl} (h:LgAt w l d Fd Rd FL RL L X) (hk:Keeps Nb w u) (hn:Now u w1 d Fd Rd D' fc') (ho:o X er ⟨D',fc'⟩) (hp:pot ⟨D',fc'⟩ <= pot X + k) :
  OpE w l d Fd Rd FL RL L X k o (.returned (.int .i64 er)) w1:=(opE_disk' (h.nb hk) hn ho hp).from hk
theorem OpE.same {w w1:World} {l d:Nat} {Fd Rd FL RL:Nat -> Prop} {L:Lg} {X:Ds} {k er:Int} {o:Log.Op} (h:LgAt w l d Fd Rd FL RL L X) (hk:Keeps Nb w w1) (ho:o X er X) (h0:0 <= k) :
  OpE w l d Fd Rd FL RL L X k o (.returned (.int .i64 er)) w1:=⟨er,X,L,rfl,LNow.of (h.nb hk) hk,ho,fun _=>rfl,.inl rfl,by omega⟩
theorem z17 {nm:ByteArray} {n:Nat} (h:nm.size <= 16) (hn:n <= 9223372036854775807):(sgf nm n).size <= maxLen:=z5r h (by have:=z47 hn;omega)
def EB (b:Nat) (f:Int):World -> (Nat -> Prop) -> (Nat -> Prop) -> Prop:=Box b (.cells #[.int .i64 f] 24 (0,0))
def NB (b n:Nat):World -> (Nat -> Prop) -> (Nat -> Prop) -> Prop:=Box b (.cells #[.int .i64 (n:Nat)] 3 (0,0))
def DB (b d:Nat):World -> (Nat -> Prop) -> (Nat -> Prop) -> Prop:=Box b (.cells #[.pointer (some ⟨d,0,none⟩)] 37 (0,0))
theorem zgz (l d b:Nat) (f:Int) (L:Lg):OpC l d L 0 ⟨54,#[],#[.pointer (some ⟨b,0,none⟩)]⟩ (erO f) (EB b f):=by
 rintro w Fd Rd FL RL X h hv ⟨hb,-,-⟩ hp;have c:w.cell? ⟨b,0,none⟩=some (.int .i64 f):=(cell_of_block hb).trans rfl;have F:=qq (OpE.same (k:=0) (o:=erO f) (er:=f) h (Keeps.refl _ _) ⟨rfl,rfl⟩ (by omega));clear h hv hp hb;show Calls Tryz.prog 54 #[.pointer (some ⟨b,0,none⟩)] w _;go_enter Tryz.func54,Tryz.ntmps54;go_wp2;go_ret;exact F.out
theorem mk55_c (l d b3 b10 b15 n:Nat) (L:Lg) (hn:n <= 9223372036854775807):OpC l d L 3 ⟨55,#[],#[.pointer (some ⟨b3,0,none⟩),.pointer (some ⟨b10,0,none⟩),.pointer (some ⟨b15,0,none⟩)]⟩ (mkO (sgf L.name n)) (fun w a b=>DB b3 d w a b /\ LB b10 l w a b /\ NB b15 n w a b):=by
 rintro w Fd Rd FL RL X h hv ⟨⟨hb3,o3⟩,⟨hb10,o10⟩,⟨hb15,o15⟩⟩ hp;have OO:=qq (And.intro o3 (And.intro o10 o15));obtain ⟨sv,lv,hcs⟩:=h.cells;have c3:w.cell? ⟨b3,0,none⟩=some (.pointer (some ⟨d,0,none⟩)):=(cell_of_block hb3).trans rfl;have c10:w.cell? ⟨b10,0,none⟩=some (.pointer (some ⟨l,0,none⟩)):=(cell_of_block hb10).trans rfl;have c15:w.cell? ⟨b15,0,none⟩=some (.int .i64 (n:Nat)):=(cell_of_block hb15).trans rfl;have H:=qq h;have h16:=h.nums.n16;have SA:=qq (z0t l L.name n w.drew (hv.nb (Keeps.refl Nb w).drew) ((cell_of_block (hcs w.drew (Keeps.refl Nb w).drew)).trans rfl) (by omega) hn);have HP:=qq (z0f hp (by omega));clear h hv hb3 hb10 hb15 hcs hp o3 o10 o15;show Calls Tryz.prog 55 #[.pointer (some ⟨b3,0,none⟩),.pointer (some ⟨b10,0,none⟩),.pointer (some ⟨b15,0,none⟩)] w _;go_enter Tryz.func55,Tryz.ntmps55;go_wp2;refine WT.region (fun u=>u.cell? ⟨b3,0,none⟩=some (.pointer (some ⟨d,0,none⟩)) /\ u.cell? ⟨b10,0,none⟩=some (.pointer (some ⟨l,0,none⟩)) /\ u.cell? ⟨b15,0,none⟩=some (.int .i64 (n:Nat))) 5 6 [0,1,2,3,4,5] (by kernel_rfl) rfl ?_
 have fac:∀ u,Keeps (fun k=>Fd k) w u -> (fun u:World=>u.cell? ⟨b3,0,none⟩=some (.pointer (some ⟨d,0,none⟩)) /\ u.cell? ⟨b10,0,none⟩=some (.pointer (some ⟨l,0,none⟩)) /\ u.cell? ⟨b15,0,none⟩=some (.int .i64 (n:Nat))) u:=fun u hu =>
  ⟨(hu.cell (lt_of_cell c3) OO.out.1.1).trans c3,(hu.cell (lt_of_cell c10) OO.out.2.1.1).trans c10,(hu.cell (lt_of_cell c15) OO.out.2.2.1).trans c15⟩
 have FAC:=qq fac;have HS:=qq (fac w.drew (Keeps.refl _ w).drew);clear fac;refine WT.t 0 (v:=.pointer (some ⟨d,0,none⟩)) (y:=by rintro w ⟨C1,C2,C3⟩;exact zb (by kernel_rfl) (by rfl) C1) (s:=HS.out) (h:=?_);refine WT.t 1 (v:=.pointer (some ⟨l,0,none⟩)) (y:=by rintro w ⟨C1,C2,C3⟩;exact zb (by kernel_rfl) (by rfl) C2) (s:=HS.out) (h:=?_);refine WT.t 2 (v:=.int .i64 (n:Nat)) (y:=by rintro w ⟨C1,C2,C3⟩;exact zb (by kernel_rfl) (by rfl) C3) (s:=HS.out) (h:=?_);refine WT.call 3 (by simp only [qi];rfl) (by kernel_rfl) (by rfl) (by go_simp;first | done | rfl | exact ⟨⟨rfl,rfl⟩,rfl⟩ | exact ⟨⟨rfl,rfl,rfl⟩,rfl⟩ | exact ⟨⟨rfl,rfl,rfl,rfl⟩,rfl⟩ | exact ⟨⟨rfl,rfl,rfl,rfl,rfl⟩,rfl⟩) SA.out ?_;rintro _ w1 ⟨rfl,k1⟩;have K1:Hid (Keeps Nb w w1):=qq (((Keeps.refl Nb w).drew).trans_nb k1);refine ⟨_,rfl,FAC.out w1 K1.out.of_nb,?_⟩;simp only [Nat.reduceAdd,qn];have MA:=qq (z5h d (sgf L.name n) X.D Fd Rd X.fc w1 (H.out.disk.nb K1.out) (z17 h16 hn) HP.out);refine WT.call 4 (by simp only [qi];rfl) (by kernel_rfl) (by rfl) (by go_simp;first | done | rfl | exact ⟨⟨rfl,rfl⟩,rfl⟩ | exact ⟨⟨rfl,rfl,rfl⟩,rfl⟩ | exact ⟨⟨rfl,rfl,rfl,rfl⟩,rfl⟩ | exact ⟨⟨rfl,rfl,rfl,rfl,rfl⟩,rfl⟩) MA.out ?_;rintro _ w2 ⟨er,D',fc',rfl,hn2,hr⟩;have ho:mkO (sgf L.name n) X er ⟨D',fc'⟩:=⟨w1.heap.size,fun b hb=>(H.out.disk.nb K1.out).ltF b ((H.out.disk.nb K1.out).file b hb).2,hr⟩
 have hk2:Keeps Fd w w2:=(K1.out.of_nb).trans (by obtain ⟨_,_,_,_,_,hk⟩:=hn2;exact hk) (fun _ _ e=>e);have F:=qq (OpE.disk (k:=3) H.out K1.out hn2 ho (z6u ho));have S2:=FAC.out w2 hk2;clear hn2 hr ho MA SA k1 HS;refine ⟨_,rfl,S2,?_⟩;simp only [Nat.reduceAdd,qn];refine WT.stop (by kernel_rfl) ?_;refine WP.o 5 (v:=_) (y:=by go_simp;first | with_reducible rfl | exact ⟨rfl,rfl⟩) (h:=?_);refine WP.done (by kernel_rfl) ?_;go_wp2;go_ret;exact F.out
theorem zhi (l d b10 b15 n:Nat) (L:Lg) (hn:n <= 4294967296):OpC l d L 9 ⟨57,#[],#[.pointer (some ⟨b10,0,none⟩),.pointer (some ⟨b15,0,none⟩)]⟩ (manO L.name 0 n) (fun w a b=>LB b10 l w a b /\ NB b15 n w a b):=by
 rintro w Fd Rd FL RL X h hv ⟨⟨hb10,o10⟩,⟨hb15,o15⟩⟩ hp;have c10:w.cell? ⟨b10,0,none⟩=some (.pointer (some ⟨l,0,none⟩)):=(cell_of_block hb10).trans rfl;have c15:w.cell? ⟨b15,0,none⟩=some (.int .i64 (n:Nat)):=(cell_of_block hb15).trans rfl;have MW:=qq (zgc l d Fd Rd FL RL L X 0 n w h hv (by omega) hn hp);clear h hv hp hb10 hb15;show Calls Tryz.prog 57 #[.pointer (some ⟨b10,0,none⟩),.pointer (some ⟨b15,0,none⟩)] w _;go_enter Tryz.func57,Tryz.ntmps57;go_wp2_with fail;refine MW.out.mono ?_;rintro e w1 hE;obtain ⟨er,X',L',rfl,-⟩:=id hE;have F:=qq hE;clear hE MW;go_wp2;go_ret;exact F.out
theorem sy62_c (l d b3 b10:Nat) (L:Lg):OpC l d L 1 ⟨62,#[],#[.pointer (some ⟨b3,0,none⟩),.pointer (some ⟨b10,0,none⟩)]⟩ (syO L.seg) (fun w a b=>DB b3 d w a b /\ LB b10 l w a b):=by
 rintro w Fd Rd FL RL X h hv ⟨⟨hb3,o3⟩,⟨hb10,o10⟩⟩ hp;have OO:=qq (And.intro o3 o10);obtain ⟨sv,lv,hcs⟩:=h.cells;have c3:w.cell? ⟨b3,0,none⟩=some (.pointer (some ⟨d,0,none⟩)):=(cell_of_block hb3).trans rfl;have c10:w.cell? ⟨b10,0,none⟩=some (.pointer (some ⟨l,0,none⟩)):=(cell_of_block hb10).trans rfl;have cl:w.cell? ⟨l,4,none⟩=some (.int .i64 (L.segment:Nat)):=(cell_of_block (hcs w (Keeps.refl _ _))).trans rfl;have H:=qq h;have h16:=h.nums.n16;have hsg:=h.nums.segment;have SA:=qq (z0t l L.name L.segment w.drew (hv.nb (Keeps.refl Nb w).drew) ((cell_of_block (hcs w.drew (Keeps.refl Nb w).drew)).trans rfl) (by omega) (by omega));have HP:=qq (z0f hp (by omega));clear h hv hb3 hb10 hcs hp o3 o10;show Calls Tryz.prog 62 #[.pointer (some ⟨b3,0,none⟩),.pointer (some ⟨b10,0,none⟩)] w _;go_enter Tryz.func62,Tryz.ntmps62;go_wp2;refine WT.region (fun u=>u.cell? ⟨b3,0,none⟩=some (.pointer (some ⟨d,0,none⟩)) /\ u.cell? ⟨b10,0,none⟩=some (.pointer (some ⟨l,0,none⟩)) /\ u.cell? ⟨l,4,none⟩=some (.int .i64 (L.segment:Nat))) 8 9 [0,1,2,3,4,5,6,7,8] (by kernel_rfl) rfl ?_
 have fac:∀ u,Keeps (fun k=>Fd k) w u -> (fun u:World=>u.cell? ⟨b3,0,none⟩=some (.pointer (some ⟨d,0,none⟩)) /\ u.cell? ⟨b10,0,none⟩=some (.pointer (some ⟨l,0,none⟩)) /\ u.cell? ⟨l,4,none⟩=some (.int .i64 (L.segment:Nat))) u:=fun u hu =>
  ⟨(hu.cell (lt_of_cell c3) OO.out.1.1).trans c3,(hu.cell (lt_of_cell c10) OO.out.2.1).trans c10,(hu.cell (lt_of_cell cl) (H.out.apF l H.out.fl).1).trans cl⟩
 have FAC:=qq fac;have HS:=qq (fac w.drew (Keeps.refl _ w).drew);clear fac;refine WT.t 0 (v:=.pointer (some ⟨d,0,none⟩)) (y:=by rintro w ⟨C1,C2,C3⟩;exact zb (by kernel_rfl) (by rfl) C1) (s:=HS.out) (h:=?_);refine WT.t 1 (v:=.pointer (some ⟨l,0,none⟩)) (y:=by rintro w ⟨C1,C2,C3⟩;exact zb (by kernel_rfl) (by rfl) C2) (s:=HS.out) (h:=?_);refine WT.t 2 (v:=.pointer (some ⟨l,0,none⟩)) (y:=by rintro w ⟨C1,C2,C3⟩;exact zb (by kernel_rfl) (by rfl) C2) (s:=HS.out) (h:=?_);refine WT.t 3 (v:=_) (y:=by rintro w ⟨C1,C2,C3⟩;go_simp;with_reducible rfl) (s:=HS.out) (h:=?_);refine WT.t 4 (v:=_) (y:=by rintro w ⟨C1,C2,C3⟩;go_simp;with_reducible rfl) (s:=HS.out) (h:=?_);refine WT.t 5 (v:=.int .i64 (L.segment:Nat)) (y:=by rintro w ⟨C1,C2,C3⟩;exact zb (by kernel_rfl) (by rfl) C3) (s:=HS.out) (h:=?_);refine WT.call 6 (by simp only [qi];rfl) (by kernel_rfl) (by rfl) (by go_simp;first | done | rfl | exact ⟨⟨rfl,rfl⟩,rfl⟩ | exact ⟨⟨rfl,rfl,rfl⟩,rfl⟩ | exact ⟨⟨rfl,rfl,rfl,rfl⟩,rfl⟩ | exact ⟨⟨rfl,rfl,rfl,rfl,rfl⟩,rfl⟩) SA.out ?_;rintro _ w1 ⟨rfl,k1⟩;have K1:Hid (Keeps Nb w w1):=qq (((Keeps.refl Nb w).drew).trans_nb k1);refine ⟨_,rfl,FAC.out w1 K1.out.of_nb,?_⟩;simp only [Nat.reduceAdd,qn];have MA:=qq (z42 d (sgf L.name L.segment) X.D Fd Rd X.fc w1 (H.out.disk.nb K1.out) (z17 h16 (by omega)) HP.out);refine WT.call 7 (by simp only [qi];rfl) (by kernel_rfl) (by rfl) (by go_simp;first | done | rfl | exact ⟨⟨rfl,rfl⟩,rfl⟩ | exact ⟨⟨rfl,rfl,rfl⟩,rfl⟩ | exact ⟨⟨rfl,rfl,rfl,rfl⟩,rfl⟩ | exact ⟨⟨rfl,rfl,rfl,rfl,rfl⟩,rfl⟩) MA.out ?_;rintro _ w2 ⟨er,D',fc',rfl,hn2,hr⟩;have ho:syO L.seg X er ⟨D',fc'⟩:=hr;have hk2:Keeps Fd w w2:=(K1.out.of_nb).trans (by obtain ⟨_,_,_,_,_,hk⟩:=hn2;exact hk) (fun _ _ e=>e);have F:=qq (OpE.disk (k:=1) H.out K1.out hn2 ho (z52 ho));have S2:=FAC.out w2 hk2;clear hn2 hr ho MA SA k1 HS;refine ⟨_,rfl,S2,?_⟩;simp only [Nat.reduceAdd,qn];refine WT.stop (by kernel_rfl) ?_;refine WP.o 8 (v:=_) (y:=by go_simp;first | with_reducible rfl | exact ⟨rfl,rfl⟩) (h:=?_);refine WP.done (by kernel_rfl) ?_;go_wp2;go_ret;exact F.out
theorem zgt (l d b3 b10 b17 en:Nat) (L:Lg) (hen:en <= 33554432):OpC l d L 1 ⟨60,#[],#[.pointer (some ⟨b10,0,none⟩),.pointer (some ⟨b17,0,none⟩),.pointer (some ⟨b3,0,none⟩)]⟩ (if L.size=en then nop else cuO L.seg en) (fun w a b=>LB b10 l w a b /\ NB b17 en w a b /\ DB b3 d w a b):=by
 rintro w Fd Rd FL RL X h hv ⟨⟨hb10,o10⟩,⟨hb17,o17⟩,⟨hb3,o3⟩⟩ hp;have OO:=qq (And.intro o3 (And.intro o10 o17));obtain ⟨sv,lv,hcs⟩:=h.cells;have c3:w.cell? ⟨b3,0,none⟩=some (.pointer (some ⟨d,0,none⟩)):=(cell_of_block hb3).trans rfl;have c10:w.cell? ⟨b10,0,none⟩=some (.pointer (some ⟨l,0,none⟩)):=(cell_of_block hb10).trans rfl;have c17:w.cell? ⟨b17,0,none⟩=some (.int .i64 (en:Nat)):=(cell_of_block hb17).trans rfl;have cl:w.cell? ⟨l,4,none⟩=some (.int .i64 (L.segment:Nat)):=(cell_of_block (hcs w (Keeps.refl _ _))).trans rfl;have cz:w.cell? ⟨l,6,none⟩=some (.int .i64 (L.size:Nat)):=(cell_of_block (hcs w (Keeps.refl _ _))).trans rfl;have H:=qq h;have h16:=h.nums.n16;have hsg:=h.nums.segment;have HCS:=qq hcs;have HV:=qq hv;have HP:=qq (z0f hp (by omega));clear h hv hb3 hb10 hb17 hcs hp o3 o10 o17;show Calls Tryz.prog 60 #[.pointer (some ⟨b10,0,none⟩),.pointer (some ⟨b17,0,none⟩),.pointer (some ⟨b3,0,none⟩)] w _
 have fac:∀ u,Keeps (fun k=>Fd k) w u -> (fun u:World=>u.cell? ⟨b3,0,none⟩=some (.pointer (some ⟨d,0,none⟩)) /\ u.cell? ⟨b10,0,none⟩=some (.pointer (some ⟨l,0,none⟩)) /\ u.cell? ⟨l,4,none⟩=some (.int .i64 (L.segment:Nat)) /\ u.cell? ⟨b17,0,none⟩=some (.int .i64 (en:Nat)) /\ u.cell? ⟨l,6,none⟩=some (.int .i64 (L.size:Nat))) u:=fun u hu =>
  ⟨(hu.cell (lt_of_cell c3) OO.out.1.1).trans c3,(hu.cell (lt_of_cell c10) OO.out.2.1.1).trans c10,(hu.cell (lt_of_cell cl) (H.out.apF l H.out.fl).1).trans cl,(hu.cell (lt_of_cell c17) OO.out.2.2.1).trans c17,(hu.cell (lt_of_cell cz) (H.out.apF l H.out.fl).1).trans cz⟩
 have FAC:=qq fac;clear fac;generalize ho60:(if L.size=en then nop else cuO L.seg en)=o60;have HO:=qq ho60;clear ho60;go_enter Tryz.func60,Tryz.ntmps60;go_wp2;refine WT.region (fun u:World=>u.cell? ⟨b3,0,none⟩=some (.pointer (some ⟨d,0,none⟩)) /\ u.cell? ⟨b10,0,none⟩=some (.pointer (some ⟨l,0,none⟩)) /\ u.cell? ⟨l,4,none⟩=some (.int .i64 (L.segment:Nat)) /\ u.cell? ⟨b17,0,none⟩=some (.int .i64 (en:Nat)) /\ u.cell? ⟨l,6,none⟩=some (.int .i64 (L.size:Nat))) 6 6 [0,1,2,3,4,5] (by kernel_rfl) rfl ?_;have HS:=qq (FAC.out w.drew (Keeps.refl _ w).drew);refine WT.t 0 (v:=.pointer (some ⟨l,0,none⟩)) (y:=by rintro w ⟨C1,C2,C3,C4,C5⟩;exact zb (by kernel_rfl) (by rfl) C2) (s:=HS.out) (h:=?_);refine WT.t 1 (v:=_) (y:=by rintro w ⟨C1,C2,C3,C4,C5⟩;go_simp;with_reducible rfl) (s:=HS.out) (h:=?_);refine WT.t 2 (v:=_) (y:=by rintro w ⟨C1,C2,C3,C4,C5⟩;go_simp;with_reducible rfl) (s:=HS.out) (h:=?_);refine WT.t 3 (v:=.int .i64 (L.size:Nat)) (y:=by rintro w ⟨C1,C2,C3,C4,C5⟩;exact zb (by kernel_rfl) (by rfl) C5) (s:=HS.out) (h:=?_);refine WT.t 4 (v:=.int .i64 (en:Nat)) (y:=by rintro w ⟨C1,C2,C3,C4,C5⟩;exact zb (by kernel_rfl) (by rfl) C4) (s:=HS.out) (h:=?_);refine WT.t 5 (v:=_) (y:=by rintro w ⟨C1,C2,C3,C4,C5⟩;go_simp;with_reducible rfl) (s:=HS.out) (h:=?_);refine WT.stop (by kernel_rfl) ?_;refine WP.done (by kernel_rfl) ?_;have K0:Hid (Keeps Nb w w.drew):=qq (Keeps.refl _ w).drew;by_cases hse:L.size=en
 ·have F:=qq (OpE.same (k:=1) (o:=o60) (er:=0) H.out K0.out (by rw [<- HO.out,if_pos hse];exact ⟨rfl,rfl⟩) (by omega));clear HS;go_wp2;go_ret;exact F.out
 ·have HSE:=qq hse;clear HS;go_wp2;refine WT.region (fun u:World=>u.cell? ⟨b3,0,none⟩=some (.pointer (some ⟨d,0,none⟩)) /\ u.cell? ⟨b10,0,none⟩=some (.pointer (some ⟨l,0,none⟩)) /\ u.cell? ⟨l,4,none⟩=some (.int .i64 (L.segment:Nat)) /\ u.cell? ⟨b17,0,none⟩=some (.int .i64 (en:Nat)) /\ u.cell? ⟨l,6,none⟩=some (.int .i64 (L.size:Nat))) 9 10 [0,1,2,3,4,5,7,6,8,9] (by kernel_rfl) rfl ?_;have K00:Hid (Keeps Nb w w.drew.drew):=qq (Keeps.refl _ w).drew.drew;have HS:=qq (FAC.out w.drew.drew K00.out.of_nb);have SA:=qq (z0t l L.name L.segment w.drew.drew (HV.out.nb K00.out) ((cell_of_block (HCS.out w.drew.drew K00.out)).trans rfl) (by omega) (by omega));refine WT.t 0 (v:=.pointer (some ⟨d,0,none⟩)) (y:=by rintro w ⟨C1,C2,C3,C4,C5⟩;exact zb (by kernel_rfl) (by rfl) C1) (s:=HS.out) (h:=?_);refine WT.t 1 (v:=.pointer (some ⟨l,0,none⟩)) (y:=by rintro w ⟨C1,C2,C3,C4,C5⟩;exact zb (by kernel_rfl) (by rfl) C2) (s:=HS.out) (h:=?_);refine WT.t 2 (v:=.pointer (some ⟨l,0,none⟩)) (y:=by rintro w ⟨C1,C2,C3,C4,C5⟩;exact zb (by kernel_rfl) (by rfl) C2) (s:=HS.out) (h:=?_);refine WT.t 3 (v:=_) (y:=by rintro w ⟨C1,C2,C3,C4,C5⟩;go_simp;with_reducible rfl) (s:=HS.out) (h:=?_);refine WT.t 4 (v:=_) (y:=by rintro w ⟨C1,C2,C3,C4,C5⟩;go_simp;with_reducible rfl) (s:=HS.out) (h:=?_);refine WT.t 5 (v:=.int .i64 (L.segment:Nat)) (y:=by rintro w ⟨C1,C2,C3,C4,C5⟩;exact zb (by kernel_rfl) (by rfl) C3) (s:=HS.out) (h:=?_);refine WT.t 7 (v:=.int .i64 (en:Nat)) (y:=by rintro w ⟨C1,C2,C3,C4,C5⟩;exact zb (by kernel_rfl) (by rfl) C4) (s:=HS.out) (h:=?_);refine WT.call 6 (by simp only [qi];rfl) (by kernel_rfl) (by rfl) (by go_simp;first | done | rfl | exact ⟨⟨rfl,rfl⟩,rfl⟩ | exact ⟨⟨rfl,rfl,rfl⟩,rfl⟩ | exact ⟨⟨rfl,rfl,rfl,rfl⟩,rfl⟩ | exact ⟨⟨rfl,rfl,rfl,rfl,rfl⟩,rfl⟩) SA.out ?_;rintro _ w1 ⟨rfl,k1⟩;have K1:Hid (Keeps Nb w w1):=qq (K00.out.trans_nb k1);refine ⟨_,rfl,FAC.out w1 K1.out.of_nb,?_⟩;simp only [Nat.reduceAdd,qn];have MA:=qq (z93 d (sgf L.name L.segment) en X.D Fd Rd X.fc w1 (H.out.disk.nb K1.out) (z17 h16 (by omega)) HP.out (by omega));refine WT.call 8 (by simp only [qi];rfl) (by kernel_rfl) (by rfl) (by go_simp;first | done | rfl | exact ⟨⟨rfl,rfl⟩,rfl⟩ | exact ⟨⟨rfl,rfl,rfl⟩,rfl⟩ | exact ⟨⟨rfl,rfl,rfl,rfl⟩,rfl⟩ | exact ⟨⟨rfl,rfl,rfl,rfl,rfl⟩,rfl⟩) MA.out ?_;rintro _ w2 ⟨er,D',fc',rfl,hn2,hr⟩;have ho:cuO L.seg en X er ⟨D',fc'⟩:=hr;have hk2:Keeps Fd w w2:=(K1.out.of_nb).trans (by obtain ⟨_,_,_,_,_,hk⟩:=hn2;exact hk) (fun _ _ e=>e);have F:=qq (OpE.disk (k:=1) (o:=o60) H.out K1.out hn2 (by rw [<- HO.out,if_neg HSE.out];exact ho) (pot_cu ho));have S2:=FAC.out w2 hk2;clear hn2 hr ho MA SA k1 HS;refine ⟨_,rfl,S2,?_⟩;simp only [Nat.reduceAdd,qn];refine WT.stop (by kernel_rfl) ?_;refine WP.o 9 (v:=_) (y:=by go_simp;first | with_reducible rfl | exact ⟨rfl,rfl⟩) (h:=?_);refine WP.done (by kernel_rfl) ?_;go_wp2;go_ret;exact F.out
end Go.Proofs.YtpjomdmjohjheaaGreatDoor
end
section
namespace Go.Proofs.YtpjomdmjohjheaaGreatDoor
open Go.RowKit Go.Lk Go.Vfs Go.Log
theorem zce (D:Dk) (fc:Nat -> Fl) (s:ByteArray):(readOf D fc s).2 ≠ 1:=by
 rcases z05 D s with ⟨q1,q2⟩ | ⟨q1,q2,q3⟩ | ⟨b,q1,q2,q3⟩
 ·unfold readOf;rw [q2];simp
 ·unfold readOf;rw [q3];simp
 ·unfold readOf;rw [q3];simp
def OpenD (w:World) (d:Nat) (Fd Rd:Nat -> Prop) (er:Int) (L:Lg) (Y:Ds) (e:Ending) (w':World):Prop :=
 (er=0 /\ ∃ l Fd' Rd' FL RL,e=.returned (.tuple #[.pointer (some ⟨l,0,none⟩),.int .i64 0]) /\ LgAt w' l d Fd' Rd' FL RL L Y /\ (∀ k,Fd' k -> Fd k \/ w.heap.size <= k) /\ (∀ k,Rd' k -> Rd k \/ w.heap.size <= k) /\ (∀ k,FL k -> w.heap.size <= k) /\ (∀ k,RL k -> w.heap.size <= k) /\ Keeps Fd w w') \/
 (er ≠ 0 /\ e=.returned (.tuple #[.pointer none,.int .i64 er]) /\ Now w w' d Fd Rd Y.D Y.fc)
theorem z9o {w u w':World} {l d:Nat} {Fd Rd FL RL:Nat -> Prop} {L:Lg} {Y:Ds} (h:LNow u w' l d Fd Rd FL RL L Y) (hk:Keeps Fd w u) (hF:∀ k,FL k -> w.heap.size <= k) (hR:∀ k,RL k -> w.heap.size <= k) :
  ∃ Fd' Rd' FL' RL',LgAt w' l d Fd' Rd' FL' RL' L Y /\ (∀ k,Fd' k -> Fd k \/ w.heap.size <= k) /\ (∀ k,Rd' k -> Rd k \/ w.heap.size <= k) /\ (∀ k,FL' k -> w.heap.size <= k) /\ (∀ k,RL' k -> w.heap.size <= k) /\ Keeps Fd w w':=by
 obtain ⟨Fd',Rd',FL',RL',h1,h2,h3,h4,h5,h6⟩:=h;have hz:=hk.size;exact ⟨Fd',Rd',FL',RL',h1,fun k e=>(h2 k e).imp id (fun e=>by omega),fun k e=>(h3 k e).imp id (fun e=>by omega),fun k e=>(h4 k e).elim (hF k) (fun e=>by omega),fun k e=>(h5 k e).elim (hR k) (fun e=>by omega),hk.trans h6 (fun j hj e=>e.elim id (fun e=>by have:=hF j e;omega))⟩
theorem zam {f:Int} (hf:f ≠ 0) {l l':List Log.Op} {X Y:Ds} {e:Int} (h:askO (erO f :: l) X e Y):askO (erO f :: l') X e Y /\ e=f:=by
 obtain ⟨e1,Z,⟨h1,h2⟩,h3⟩:=h;subst h1 h2;rcases h3 with ⟨h3,h4,h5⟩ | ⟨h3,-⟩
 ·exact ⟨⟨e1,Z,⟨rfl,rfl⟩,.inl ⟨h3,h4,h5⟩⟩,h4⟩
 ·exact absurd h3 hf
def OpP1 (d l n b3 b10 b15 b16:Nat) (f:Int):World -> (Nat -> Prop) -> (Nat -> Prop) -> Prop:=fun w a b=>EB b16 f w a b /\ (DB b3 d w a b /\ LB b10 l w a b /\ NB b15 n w a b)
theorem zab (d l n b3 b10 b15 b16:Nat) (f:Int):Stable (OpP1 d l n b3 b10 b15 b16 f):=(zu _ _).and ((zu _ _).and ((zu _ _).and (zu _ _)))
def opF1 (b3 b10 b15 b16:Nat):List Fv:=[⟨54,#[],#[.pointer (some ⟨b16,0,none⟩)]⟩,⟨55,#[],#[.pointer (some ⟨b3,0,none⟩),.pointer (some ⟨b10,0,none⟩),.pointer (some ⟨b15,0,none⟩)]⟩,⟨57,#[],#[.pointer (some ⟨b10,0,none⟩),.pointer (some ⟨b15,0,none⟩)]⟩]
theorem op1_l (d l n b3 b10 b15 b16:Nat) (f:Int) (L:Lg) (hn:n <= 4294967296):OpL l d L (OpP1 d l n b3 b10 b15 b16 f) (opF1 b3 b10 b15 b16) [erO f,mkO (sgf L.name n),manO L.name 0 n] [0,3,9] :=
 ⟨(zgz l d b16 f L).mono (fun _ _ _ h=>h.1),enters_of Tryz.func54 (by kernel_rfl) rfl,by omega,(mk55_c l d b3 b10 b15 n L (by omega)).mono (fun _ _ _ h=>h.2),enters_of Tryz.func55 (by kernel_rfl) rfl,by omega,(zhi l d b10 b15 n L hn).mono (fun _ _ _ h=>h.2.2),enters_of Tryz.func57 (by kernel_rfl) rfl,by omega,trivial⟩
theorem z8c:∀ (f at':Nat) (b:List Nat),∀ q ∈ items f at' b,q.1 <= (at' + b.length:Nat)
 | 0,_,_,q,hq=>by simp [items] at hq
 | f + 1,at',b,q,hq=>by
  unfold items at hq;split at hq
  ·simp at hq
  ·
   split at hq
   ·simp at hq
   ·
    split at hq
    ·rw [List.mem_singleton] at hq;subst hq;simp only;omega
    ·
     rename_i h1 h2 h3;rcases List.mem_cons.1 hq with rfl | hq
     ·simp only;omega
     ·have:=z8c f _ _ q hq;rw [List.length_drop] at this;omega
theorem zg3 (b:List Nat):(whole b).2.1 <= b.length:=by
 unfold whole wholeI;simp only;cases h:(good (items (b.length + 1) 0 b)).getLast? with
 | none=>simp
 | some q =>
  have h1:=(tw_p _ _ q (List.mem_of_getLast? h)).2;have:=z8c _ _ _ q h1;simp only [Option.map_some,Option.getD_some];omega
theorem zbd {X:Ds} (hX:∀ s,(readOf X.D X.fc s).1.length <= 16777216):∀ (ns:List Nat) (L L':Lg) (e e':Nat),rdl X ns L e=some (L',e') -> e <= 16777216 -> e' <= 16777216
 | [],L,L',e,e',h,he=>by simp only [rdl,Option.some.injEq,Prod.mk.injEq] at h;omega
 | n :: ns,L,L',e,e',h,he=>by
  rw [z66] at h;split at h
  ·exact zbd hX ns _ _ _ _ h (Nat.le_trans (zg3 _) (hX _))
  ·cases h
theorem zfm {X:Ds} (hX:∀ s,(readOf X.D X.fc s).1.length <= 16777216) {L L':Lg} {s e:Nat} (h:readR X L s (some (L',e))):e <= 16777216:=by
 unfold readR at h;split at h
 ·cases h
 ·
  obtain ⟨ns,-,h⟩:=h;split at h
  ·cases h
  ·
   rename_i L1 _ _;cases hr:rdl X ns L1 0 with
   | none=>rw [hr] at h;cases h
   | some p =>
    rw [hr] at h;obtain ⟨La,ea⟩:=p;simp only [Option.map_some,Option.some.injEq,Prod.mk.injEq] at h;have:=zbd hX ns L1 La 0 ea hr (by omega);omega
def OpP2 (d l en b3 b10 b17:Nat):World -> (Nat -> Prop) -> (Nat -> Prop) -> Prop:=fun w a b=>LB b10 l w a b /\ NB b17 en w a b /\ DB b3 d w a b
theorem zac (d l en b3 b10 b17:Nat):Stable (OpP2 d l en b3 b10 b17):=(zu _ _).and ((zu _ _).and (zu _ _))
def opF2 (d b3 b10 b17:Nat):List Fv:=[⟨60,#[],#[.pointer (some ⟨b10,0,none⟩),.pointer (some ⟨b17,0,none⟩),.pointer (some ⟨b3,0,none⟩)]⟩,⟨62,#[],#[.pointer (some ⟨b3,0,none⟩),.pointer (some ⟨b10,0,none⟩)]⟩,⟨64,#[.pointer (some ⟨d,0,none⟩)],#[]⟩]
theorem op2_l (d l en b3 b10 b17:Nat) (L:Lg) (hen:en <= 33554432):OpL l d L (OpP2 d l en b3 b10 b17) (opF2 d b3 b10 b17) [if L.size=en then nop else cuO L.seg en,syO L.seg,sdO] [1,1,1] :=
 ⟨zgt l d b3 b10 b17 en L hen,enters_of Tryz.func60 (by kernel_rfl) rfl,by omega,(sy62_c l d b3 b10 L).mono (fun _ _ _ h=>⟨h.2.2,h.1⟩),enters_of Tryz.func62 (by kernel_rfl) rfl,by omega,z74 l d L _,enters_of Tryz.func64 (by kernel_rfl) rfl,by omega,trivial⟩
theorem zhn (d:Nat) (Fd Rd:Nat -> Prop) (X:Ds) (nm:ByteArray) (m:Nat) (w:World) (h:DiskAt w d Fd Rd X.D X.fc) (hv:Vars w) (hlow:∀ k,Fd k -> 6 <= k) (hm1:mnB nm=true) (h16:nm.size <= 16) (hs1:1 <= m) (hs2:m <= 1048576) (hp:pot X + 12 <= 999999) :
  Calls Tryz.prog 19 #[.pointer (some ⟨d,0,none⟩),.string nm,.int .i64 m] w fun e w'=>∃ er L Y,openR nm m X er L Y /\ pot Y <= pot X + 12 /\ OpenD w d Fd Rd er L Y e w':=by
 have hb78:∀ (W:World),(Instr.build 78 #[(0,.pointer (some ⟨d,0,none⟩)),(1,.string nm),(2,.int .i64 m)]).run Tryz.prog W=.ok (.agg (lcs d (.slice none 0 0) (.slice none 0 0) (lg0 nm m))) W:=fun _=>by kernel_rfl
 have HB78:=qq hb78;have H:=qq h;have HV:=qq hv;have HLOW:=qq hlow;have HM1:=qq hm1;have hz6:Hid (6 <= w.heap.size):=qq (by have:=hlow d h.fd;have:=h.ltF d h.fd;omega);have hne:=zce X.D X.fc nm;clear h hv hlow hm1 hb78;go_enter Tryz.func19,Tryz.ntmps19;go_wp2_with (first | go_skip | (with_reducible refine zo (t:=37) ?_))
 refine za (vbox1 (v:=.pointer (some ⟨d,0,none⟩)) (by rfl) rfl ?_);intro b3 w1 n1;simp only [Nat.reduceAdd,qn];have B3:=qq n1.blk;have G3:Hid (w.heap.size <= b3 /\ b3 < w1.heap.size):=qq ⟨n1.ge,n1.lt⟩;have K1:=qq n1.k;clear n1;have c3:w1.cell? ⟨b3,0,none⟩=some (.pointer (some ⟨d,0,none⟩)):=(cell_of_block B3.out).trans rfl;have RA:=qq (z5p d nm X.D Fd Rd X.fc w1 (H.out.nb K1.out) (by unfold maxLen;omega));generalize hro:readOf X.D X.fc nm=ro at RA hne;obtain ⟨bs,er⟩:=ro;clear hro;go_wp2_with fail;refine RA.out.mono ?_;rintro _ w2 ⟨v,rfl,ho,k2⟩;obtain ⟨va,vc,hva,-⟩:=z08 ho;have t1:¬ er=1:=hne;have t2:(er == 1)=false:=by simpa using hne
 have K2:=qq (K1.out.trans_nb k2);have B32:=qq (k2.nb B3.out);have NA:=qq (z7o nm (by unfold maxLen;omega) w2);rw [HM1.out] at NA;subst hva;clear ho k2 RA hne c3;go_wp2_with fail;refine NA.out.mono ?_;rintro _ w3 ⟨rfl,k3⟩;have K3:=qq (K2.out.trans_nb k3);have B33:=qq (k3.nb B32.out);have c33:w3.cell? ⟨b3,0,none⟩=some (.pointer (some ⟨d,0,none⟩)):=(cell_of_block B33.out).trans rfl;clear k3 NA;go_wp2_with (first | go_skip | (with_reducible refine zci (t:=78) ?_) | (with_reducible refine zo (t:=78) ?_))
 refine za (zn rfl (zgf (by rfl) (by rfl) (by rfl) (HB78.out _)) ?_);simp only [Nat.reduceAdd,qn];go_wp2_with (first | go_skip | (with_reducible refine qv (by decide) ?_))
 refine za (vbox rfl ?_);intro l w4 n4;simp only [Nat.reduceAdd,qn];go_wp2_with (first | go_skip | (with_reducible refine qv (by decide) ?_))
 refine za (valloc (z:=.pointer none) (by kernel_rfl) ?_);intro b10 w5 n5;simp only [Nat.reduceAdd,qn];go_wp2_with (first | go_skip | (with_reducible refine qv (by decide) ?_))
 refine za (zc rfl (zd (v:=.pointer (some ⟨l,0,none⟩)) (n:=1) (by kernel_rfl) (by rfl) (by rfl) n5.blk (by rfl) (by simp [Value.cells]) (by simp [Value.cells,Value.oneCell'])) ?_);intro w6 s6;simp only [Nat.reduceAdd,qn];have B10:=qq s6.blk;have hl10:l < b10:=by have:=n4.lt;have:=n5.ge;omega
 have BL:=qq (s6.k.at (n5.k.nb n4.blk) (fun e=>by omega));have G10:Hid (w3.heap.size <= l /\ l < b10 /\ b10 < w6.heap.size):=qq ⟨n4.ge,hl10,lt_of_block s6.blk⟩;have K36:Hid (Keeps Nb w3 w6):=qq ((n4.k.trans_nb n5.k).own (k:=b10) (by have:=n4.ge;omega) s6.k);have K6:=qq (K3.out.trans_nb K36.out);have B36:=qq (K36.out.nb B33.out);clear n4 n5 s6 hl10 c33;have FND:=qq (zf1 l d nm X Fd Rd w6 (H.out.nb K6.out) ((cell_of_block BL.out).trans rfl) ((cell_of_block BL.out).trans rfl) h16 HM1.out);have c10:w6.cell? ⟨b10,0,none⟩=some (.pointer (some ⟨l,0,none⟩)):=(cell_of_block B10.out).trans rfl;generalize hfr:fndR nm X=fr at FND;obtain ⟨⟨fs,ff⟩,fi,fe⟩:=fr;have HFR:=qq hfr;clear hfr;go_wp2_with fail;refine FND.out.mono ?_;rintro _ w7 ⟨rfl,k7⟩;have K67:=qq k7;have K7:=qq (K6.out.trans_nb k7);clear k7 FND c10;have hfe:(fe=0 \/ fe=10):=by
  have h1:=HFR.out;unfold fndR at h1;split at h1
  ·have:=congrArg (fun p=>p.2.2) h1;simp at this;exact .inl this.symm
  ·
   split at h1
   ·have:=congrArg (fun p=>p.2.2) h1;simp at this;exact .inr this.symm
   ·have:=congrArg (fun p=>p.2.2) h1;simp at this;exact .inl this.symm
 rcases hfe with rfl | rfl
 ·
  have hsz:w.heap.size <= w3.heap.size:=K3.out.size
  have HL0:Hid (LgAt w7 l d Fd Rd (fun k=>k=l) (fun _=>False) (lg0 nm m) X):=qq (by
   have hz3:=G10.out;refine ⟨H.out.nb K7.out,⟨.slice none 0 0,.slice none 0 0,[],K67.out.nb BL.out,Bytes.nil _ _,RowS.nil _ _ _ _ _,BytesL.nil _ _⟩,rfl,?_,fun _ e=>e.elim,?_,fun _ e=>e.elim,?_,?_⟩
   ·rintro k rfl;exact ⟨fun e=>by have:=H.out.ltF k e;omega,fun e=>by have:=H.out.ltR k e;omega⟩
   ·rintro k rfl;have:=K67.out.size;omega
   ·exact ⟨HM1.out,h16,hs2,Nat.zero_le _,Nat.zero_le _,Nat.zero_le _,Nat.zero_le _,fun b hb=>by simp [lg0] at hb,Nat.zero_le _,Nat.zero_le _⟩
   ·
    rintro k (e | e)
    ·exact HLOW.out k e
    ·have:=hz6.out;omega)
  cases fi
  ·
   have HV7:Hid (Vars w7):=qq (HV.out.nb K7.out);have hfn:flook X.D.files (manf nm)=none:=by
    have h1:=HFR.out;unfold fndR at h1;split at h1
    ·assumption
    ·
     split at h1
     ·have:=congrArg (fun p=>p.2.1) h1;simp at this
     ·have:=congrArg (fun p=>p.2.1) h1;simp at this
   have HFN:=qq hfn;have NX:=qq (z7p l d Fd Rd (fun k=>k=l) (fun _=>False) (lg0 nm m) X w7 HL0.out HV7.out);have c10:w7.cell? ⟨b10,0,none⟩=some (.pointer (some ⟨l,0,none⟩)):=(cell_of_block (K67.out.nb B10.out)).trans rfl;have hnxb:nxN nm X <= 2147483647 /\ (nxE nm X=0 -> nxN nm X=nx nm X + 1) /\ (nxE nm X=0 \/ nxE nm X=5):=by
    unfold nxN nxE mxn;split
    ·exact ⟨by omega,by simp,.inr rfl⟩
    ·exact ⟨by omega,by simp,.inl rfl⟩
   have hnm0:(lg0 nm m).name=nm:=rfl;rw [hnm0] at NX;generalize hn:nxN nm X=n at NX hnxb;generalize hf:nxE nm X=f at NX hnxb;have HF:=qq hf;have HNX:=qq hnxb;have hn31:=hnxb.1;clear hfn hn hf hnxb hnm0;go_wp2_with fail;refine NX.out.mono ?_;rintro _ w8 ⟨rfl,k8⟩;go_wp2_with (first | go_skip | (with_reducible refine qv (by decide) ?_))
   refine za (valloc (z:=.int .i64 0) (by kernel_rfl) ?_);intro b15 w9 n9;simp only [Nat.reduceAdd,qn];go_wp2_with (first | go_skip | (with_reducible refine qv (by decide) ?_))
   refine za (valloc (z:=.int .i64 0) (by kernel_rfl) ?_);intro b16 w10 n10;simp only [Nat.reduceAdd,qn];go_wp2_with (first | go_skip | (with_reducible refine qv (by decide) ?_))
   refine za (zc rfl (zd (v:=.int .i64 (n:Nat)) (n:=1) (by kernel_rfl) (by rfl) (by rfl) (n10.k.nb n9.blk) (by rfl) (by simp [Value.cells]) (by simp [Value.cells,Value.oneCell'])) ?_);intro w11 s11;simp only [Nat.reduceAdd,qn];go_wp2_with (first | go_skip | (with_reducible refine qv (by decide) ?_))
   refine za (zc rfl (zd (v:=.int .i64 f) (n:=1) (by kernel_rfl) (by rfl) (by rfl) (s11.k.at n10.blk (fun e=>by have:=n9.lt;have:=n10.ge;omega)) (by rfl) (by simp [Value.cells]) (by simp [Value.cells,Value.oneCell'])) ?_);intro w12 s12;simp only [Nat.reduceAdd,qn];have h1516:b15 < b16:=by have:=n9.lt;have:=n10.ge;omega
   have B16:=qq s12.blk;have B15:=qq (s12.k.at s11.blk (fun e=>by omega));have hz8:=k8.size;have G15:Hid (w7.heap.size <= b15 /\ b15 < b16 /\ b16 < w12.heap.size):=qq ⟨by have:=n9.ge;omega,h1516,lt_of_block s12.blk⟩;have K712:Hid (Keeps Nb w7 w12):=qq ((((k8.trans_nb n9.k).trans_nb n10.k).own (k:=b15) (by have:=n9.ge;omega) s11.k).own (k:=b16) (by have:=n9.ge;omega) s12.k);have K12:=qq (K7.out.trans_nb K712.out);have B310:=qq (K712.out.nb (K67.out.nb B36.out));have B1012:=qq (K712.out.nb (K67.out.nb B10.out));have BL12:=qq (K712.out.nb (K67.out.nb BL.out));have HL12:=qq (HL0.out.nb K712.out);clear k8 n9 n10 s11 s12 NX c10 hz8 h1516;go_wp2;have hlb:b10 ≠ l /\ b15 ≠ l /\ b16 ≠ l /\ b3 ≠ l:=by have:=G10.out;have:=G15.out;have:=K67.out.size;have:=G3.out;have h1:=lt_of_block B33.out;refine ⟨?_,?_,?_,?_⟩ <;> omega
   have c1012:w12.cell? ⟨b10,0,none⟩=some (.pointer (some ⟨l,0,none⟩)):=(cell_of_block B1012.out).trans rfl;have c1512:w12.cell? ⟨b15,0,none⟩=some (.int .i64 (n:Nat)):=(cell_of_block B15.out).trans rfl;refine WT.region (fun u=>u.cell? ⟨b10,0,none⟩=some (.pointer (some ⟨l,0,none⟩)) /\ u.cell? ⟨b15,0,none⟩=some (.int .i64 (n:Nat))) 11 14 [0,1,2,3,4,5,6,7,8,9,10,11,12,13] (by kernel_rfl) rfl ?_;have HS:Hid ((fun u:World=>u.cell? ⟨b10,0,none⟩=some (.pointer (some ⟨l,0,none⟩)) /\ u.cell? ⟨b15,0,none⟩=some (.int .i64 (n:Nat))) w12.drew):=qq ⟨c1012,c1512⟩;refine WT.t 0 (v:=.pointer (some ⟨l,0,none⟩)) (y:=by rintro w ⟨C1,C2⟩;exact zb (by kernel_rfl) (by rfl) C1) (s:=HS.out) (h:=?_);refine WT.t 1 (v:=.pointer (some ⟨l,0,none⟩)) (y:=by rintro w ⟨C1,C2⟩;exact zb (by kernel_rfl) (by rfl) C1) (s:=HS.out) (h:=?_);refine WT.t 2 (v:=.pointer (some ⟨l,0,none⟩)) (y:=by rintro w ⟨C1,C2⟩;exact zb (by kernel_rfl) (by rfl) C1) (s:=HS.out) (h:=?_);refine WT.t 3 (v:=.int .i64 (n:Nat)) (y:=by rintro w ⟨C1,C2⟩;exact zb (by kernel_rfl) (by rfl) C2) (s:=HS.out) (h:=?_);refine WT.t 4 (v:=.int .i64 (n:Nat)) (y:=by rintro w ⟨C1,C2⟩;exact zb (by kernel_rfl) (by rfl) C2) (s:=HS.out) (h:=?_);refine WT.t 5 (v:=_) (y:=by rintro w ⟨C1,C2⟩;go_simp;with_reducible rfl) (s:=HS.out) (h:=?_);refine WT.t 6 (v:=_) (y:=by rintro w ⟨C1,C2⟩;go_simp;with_reducible rfl) (s:=HS.out) (h:=?_);refine WT.onlySkipE 7 (by simp only [qi];rfl) (by kernel_rfl) (by rfl) (zd (w:=w12.drew) (v:=.int .i64 (n:Nat)) (n:=1) (by kernel_rfl) (by rfl) (by rfl) BL12.out (by rfl) (by simp [Value.cells,lcs]) (by simp [Value.cells,Value.oneCell'])) ?_;intro w13 s13;replace HS:Hid ((fun u:World=>u.cell? ⟨b10,0,none⟩=some (.pointer (some ⟨l,0,none⟩)) /\ u.cell? ⟨b15,0,none⟩=some (.int .i64 (n:Nat))) w13):=qq ⟨(s13.k.cell (p:=⟨b10,0,none⟩) (lt_of_cell (w:=w12.drew) c1012) hlb.1).trans c1012,(s13.k.cell (p:=⟨b15,0,none⟩) (lt_of_cell (w:=w12.drew) c1512) hlb.2.1).trans c1512⟩;refine ⟨HS.out,?_⟩;simp only [Nat.reduceAdd,qn];refine WT.t 8 (v:=_) (y:=by rintro w ⟨C1,C2⟩;go_simp;with_reducible rfl) (s:=HS.out) (h:=?_);refine WT.t 9 (v:=_) (y:=by rintro w ⟨C1,C2⟩;go_simp;with_reducible rfl) (s:=HS.out) (h:=?_);refine WT.onlySkipE 10 (by simp only [qi];rfl) (by kernel_rfl) (by rfl) (zd (v:=.int .i64 (n:Nat)) (n:=1) (by kernel_rfl) (by rfl) (by rfl) s13.blk (by rfl) (by simp [Value.cells,lcs,splice]) (by simp [Value.cells,Value.oneCell'])) ?_;intro w14 s14;have HS2:=HS.out;replace HS:Hid ((fun u:World=>u.cell? ⟨b10,0,none⟩=some (.pointer (some ⟨l,0,none⟩)) /\ u.cell? ⟨b15,0,none⟩=some (.int .i64 (n:Nat))) w14):=qq ⟨(s14.k.cell (p:=⟨b10,0,none⟩) (lt_of_cell HS2.1) hlb.1).trans HS2.1,(s14.k.cell (p:=⟨b15,0,none⟩) (lt_of_cell HS2.2) hlb.2.1).trans HS2.2⟩;clear HS2;refine ⟨HS.out,?_⟩;simp only [Nat.reduceAdd,qn];refine WT.stop (by kernel_rfl) ?_;refine WP.o 11 (v:=_) (y:=by go_simp;first | with_reducible rfl | exact ⟨rfl,rfl⟩) (h:=?_);refine WP.o 12 (v:=_) (y:=by go_simp;first | with_reducible rfl | exact ⟨rfl,rfl⟩) (h:=?_);refine WP.onlySkipE 13 (by simp only [qi];rfl) (by kernel_rfl) (by rfl) (zd (v:=.int .i64 1) (n:=1) (by kernel_rfl) (by rfl) (by rfl) s14.blk (by rfl) (by simp [Value.cells,lcs,splice]) (by simp [Value.cells,Value.oneCell'])) ?_;intro w15 s15;simp only [Nat.reduceAdd,qn];refine WP.done (by kernel_rfl) ?_;have S15:SetAt w12 w15 l (.cells (lcs d (.slice none 0 0) (.slice none 0 0) { lg0 nm m with first:=n,segment:=n,segments:=1 }) 78 (0,0)):=⟨s15.blk,(((Keeps.refl (·=l) w12).drew.trans s13.k (fun _ _ e=>e)).trans s14.k (fun _ _ e=>e)).trans s15.k (fun _ _ e=>e)⟩
   have hL15:LgAt w15 l d Fd Rd (fun k=>k=l) (fun _=>False) { lg0 nm m with first:=n,segment:=n,segments:=1 } X :=
    HL12.out.setL (sv:=.slice none 0 0) (lv:=.slice none 0 0) BL12.out S15 rfl rfl rfl ⟨HM1.out,h16,hs2,(by show n <= _;omega),(by show n <= _;omega),(by show 1 <= _;omega),Nat.zero_le _,fun b hb=>by simp [lg0] at hb,Nat.zero_le _,Nat.zero_le _⟩
   have HL15:=qq hL15;have HV15:Hid (Vars w15):=qq ((HV.out.nb K12.out).keeps S15.k (fun k hk e=>by have:=hL15.low k (.inr e);omega));have B315:=qq (S15.k.at B310.out hlb.2.2.2);have B1015:=qq (S15.k.at B1012.out hlb.1);have B1515:=qq (S15.k.at B15.out hlb.2.1);have B1615:=qq (S15.k.at B16.out hlb.2.2.1);have hlw:w.heap.size <= l:=by have:=G10.out;omega
   have K15:Hid (Keeps Fd w w15):=qq ((K12.out.of_nb).trans S15.k (fun j hj e=>by have e:j=l:=e;omega));have HLB:=qq hlb;have HLW:=qq hlw;have HZ:=qq S15.k.size;clear s13 s14 s15 S15 hL15 HS c1012 c1512 hlb hlw;have c1015:w15.cell? ⟨b10,0,none⟩=some (.pointer (some ⟨l,0,none⟩)):=(cell_of_block B1015.out).trans rfl;go_wp2_with (first | go_skip | (with_reducible refine qv (by decide) ?_))
   refine za (zj rfl (zl el138 ((opF1 b3 b10 b15 b16).map Fv.v) rfl (by simp [List.range'_succ];first | done | rfl | exact ⟨rfl,rfl⟩ | exact ⟨rfl,rfl,rfl⟩ | exact ⟨rfl,rfl,rfl,rfl⟩ | exact ⟨rfl,rfl,rfl,rfl,rfl⟩ | exact ⟨rfl,rfl,rfl,rfl,rfl,rfl⟩) (by simp [Value.cells,opF1,Fv.v]) (by simp [opF1])) ?_);rintro _ w16 ⟨b20,rfl,n16⟩;simp only [Nat.reduceAdd,qn];have K1516:=qq n16.k;have nof:∀ k,w.heap.size <= k -> k ≠ l -> ¬ Fd k /\ ¬ k=l:=fun k h1 h2=>⟨fun e=>by have:=H.out.ltF k e;omega,h2⟩
   have hP:OpP1 d l n b3 b10 b15 b16 f w16 Fd (fun k=>k=l):=by
    have:=G3.out;have:=G10.out;have:=G15.out;have:=HLB.out;have hk7:=K7.out.size;exact ⟨⟨n16.k.nb B1615.out,nof b16 (by omega) this.2.2.1⟩,⟨n16.k.nb B315.out,nof b3 (by omega) this.2.2.2⟩,⟨n16.k.nb B1015.out,nof b10 (by omega) this.1⟩,⟨n16.k.nb B1515.out,nof b15 (by omega) this.2.1⟩⟩
   have hrow:Has w16 (some ⟨b20,0,none⟩) ((opF1 b3 b10 b15 b16).map Fv.v):=zm n16.blk;have AR:=qq (z1a (n:=3) (zab d l n b3 b10 b15 b16 f) (op1_l d l n b3 b10 b15 b16 f { lg0 nm m with first:=n,segment:=n,segments:=1 } (by omega)) (HL15.out.nb n16.k) (HV15.out.nb n16.k) hP rfl (by omega) (by simpa using hp) hrow (by have h1:=n16.ge;have h2:=HZ.out;have h3:=K12.out.size;have h4:=BL12.out;have h5:=lt_of_block h4;exact nof b20 (by omega) (by omega)));have NOF:=qq nof;clear hP hrow n16 nof c1015;go_wp2_with fail;refine AR.out.mono ?_;rintro e w17 ⟨er2,Y,L',rfl,hnow,hask,hL',hpot⟩;have hb17:w17.cell? ⟨b10,0,none⟩=some (.pointer (some ⟨l,0,none⟩)):=by
    obtain ⟨_,_,_,_,_,_,_,_,_,hk⟩:=hnow;have h1:=NOF.out b10 (by have:=G10.out;have:=K3.out.size;omega) HLB.out.1;exact (cell_of_block (hk.at (K1516.out.nb B1015.out) (fun e=>e.elim h1.1 h1.2))).trans rfl
   have hfin:=z9o hnow (K15.out.trans_nb K1516.out) (fun k e=>by have:=HLW.out;omega) (fun k e=>e.elim)
   have HOR:Hid (∃ L2,openR nm m X er2 L2 Y /\ (er2=0 -> L2=L')):=qq (by
    rcases HNX.out.2.2 with h0 | h0
    ·
     have hn:=HNX.out.2.1 h0;subst h0;refine ⟨{ lg0 nm m with first:=nx nm X + 1,segment:=nx nm X + 1,segments:=1 },.inl ⟨HFN.out,?_,rfl⟩,fun h=>?_⟩
     ·rw [HF.out,<- hn];exact hask
     ·rw [hL',if_pos h,<- hn]
    ·
     subst h0;have h1:=zam (l':=[mkO (sgf nm (nx nm X + 1)),manO nm 0 (nx nm X + 1)]) (by decide) hask
     refine ⟨_,.inl ⟨HFN.out,by rw [HF.out];exact h1.1,rfl⟩,fun h=>by rw [h1.2] at h;cases h⟩)
   have HFI:=qq hfin;have HPO:=qq hpot;clear hnow hask hL' hpot hfin AR;have hpo:pot Y <= pot X + 12:=by have:=HPO.out;simpa using this
   have HPO2:=qq hpo;clear hpo HPO;by_cases he:er2=0
   ·subst he;go_wp2;go_ret2;obtain ⟨L2,h1,h2⟩:=HOR.out;obtain ⟨Fd',Rd',FL',RL',g1,g2,g3,g4,g5,g6⟩:=HFI.out;rw [<- h2 (by simp)] at g1;exact ⟨0,L2,Y,h1,HPO2.out,.inl ⟨rfl,l,Fd',Rd',FL',RL',rfl,g1,g2,g3,g4,g5,g6⟩⟩
   ·
    have HE:=qq he;have t9:(er2 != 0)=true:=by simpa using he
    clear he;go_wp2;go_ret2;obtain ⟨L2,h1,h2⟩:=HOR.out;obtain ⟨Fd',Rd',FL',RL',g1,g2,g3,g4,g5,g6⟩:=HFI.out;exact ⟨er2,L2,Y,h1,HPO2.out,.inr ⟨HE.out,rfl,Fd',Rd',g1.disk,g2,g3,g6⟩⟩
  ·
   obtain ⟨fb,hfb,hbi⟩:∃ fb,flook X.D.files (manf nm)=some fb /\ (oneR X (manf nm)).bind manN=some (fs,ff):=by
    have h1:=HFR.out;unfold fndR at h1;split at h1
    ·have:=congrArg (fun p=>p.2.1) h1;simp at this
    ·
     rename_i b hb;split at h1
     ·have:=congrArg (fun p=>p.2.2) h1;simp at this
     ·rename_i p hp';have h2:=congrArg (fun p=>p.1) h1;simp only at h2;subst h2;exact ⟨b,hb,hp'⟩
   have hfs:fs <= mxn /\ 1 <= ff /\ ff <= mxn:=by
    cases ho:oneR X (manf nm) with
    | none=>rw [ho] at hbi;cases hbi
    | some b =>
     rw [ho] at hbi;have hbi:manN b=some (fs,ff):=hbi;unfold manN at hbi;split at hbi
     ·rename_i hc;simp only [Option.some.injEq,Prod.mk.injEq] at hbi;obtain ⟨rfl,rfl⟩:=hbi;exact hc.2
     ·cases hbi
   have HFB:=qq hfb;have HBI:=qq hbi;have HFS:=qq hfs;have hff:ff <= 4294967296:=by have:=hfs.2.2;unfold mxn at this;omega
   clear hfb hbi hfs;have BL7:=qq (K67.out.nb BL.out);have B107:=qq (K67.out.nb B10.out);have B37:=qq (K67.out.nb B36.out);have hlb:b10 ≠ l /\ b3 ≠ l:=by have:=G10.out;have:=G3.out;have h1:=lt_of_block B33.out;refine ⟨?_,?_⟩ <;> omega
   have c107:w7.cell? ⟨b10,0,none⟩=some (.pointer (some ⟨l,0,none⟩)):=(cell_of_block B107.out).trans rfl;go_wp2_with (first | go_skip | (with_reducible refine qv (by decide) ?_))
   refine za (zc rfl (zd (v:=.int .i64 (ff:Nat)) (n:=1) (by kernel_rfl) (by rfl) (by rfl) BL7.out (by rfl) (by simp [Value.cells,lcs]) (by simp [Value.cells,Value.oneCell'])) ?_);intro w8 s8;simp only [Nat.reduceAdd,qn]
   have hL8:LgAt w8 l d Fd Rd (fun k=>k=l) (fun _=>False) { lg0 nm m with first:=ff } X :=
    HL0.out.setL (sv:=.slice none 0 0) (lv:=.slice none 0 0) BL7.out s8 rfl rfl rfl ⟨HM1.out,h16,hs2,hff,Nat.zero_le _,Nat.zero_le _,Nat.zero_le _,fun b hb=>by simp [lg0] at hb,Nat.zero_le _,Nat.zero_le _⟩
   have HV8:Hid (Vars w8):=qq ((HV.out.nb K7.out).keeps s8.k (fun k hk e=>by have:=hL8.low k (.inr e);omega));have RD:=qq (zfb l d fs Fd Rd (fun k=>k=l) (fun _=>False) _ X w8 hL8 HV8.out HFS.out.1 rfl);have hlw:w.heap.size <= l:=by have:=G10.out;omega
   have K8:Hid (Keeps Fd w w8):=qq ((K7.out.of_nb).trans s8.k (fun j hj e=>by have e:j=l:=e;omega));have B108:=qq (s8.k.at B107.out hlb.1);have B38:=qq (s8.k.at B37.out hlb.2);have HL8:=qq hL8;have HLB:=qq hlb;have HLW:=qq hlw;have G8:Hid (w7.heap.size <= w8.heap.size):=qq s8.k.size;have c108:w8.cell? ⟨b10,0,none⟩=some (.pointer (some ⟨l,0,none⟩)):=(cell_of_block B108.out).trans rfl;clear s8 hL8 hlb hlw c107;go_wp2_with fail;refine RD.out.mono ?_;rintro e9 w9 ⟨r,hrr,hrd⟩;have HRR:=qq hrr;cases r with
   | none =>
    obtain ⟨rfl,hda,hkk⟩:=hrd;have NW:Hid (Now w w9 d Fd Rd X.D X.fc):=qq (Now.of hda (K8.out.trans hkk (fun j hj e=>by have e:j=l:=e;have:=HLW.out;omega)));clear hda hkk RD hrr;go_wp2_with (first | go_skip | (with_reducible refine qv (by decide) ?_))
    refine za (valloc (z:=.int .i64 0) (by kernel_rfl) ?_);intro b17 w10 n10;simp only [Nat.reduceAdd,qn];go_wp2_with (first | go_skip | (with_reducible refine qv (by decide) ?_))
    refine za (zc rfl (zd (v:=.int .i64 0) (n:=1) (by kernel_rfl) (by rfl) (by rfl) n10.blk (by rfl) (by simp [Value.cells]) (by simp [Value.cells,Value.oneCell'])) ?_);intro w11 s11;simp only [Nat.reduceAdd,qn];have NW2:=qq (NW.out.nb (n10.k.own (k:=b17) n10.ge s11.k));clear n10 s11;go_wp2;go_ret2;exact ⟨10,lg0 nm m,X,.inr (.inr ⟨fb,fs,ff,none,HFB.out,HBI.out,HRR.out,.inl ⟨rfl,rfl,rfl⟩⟩),by omega,.inr ⟨by decide,rfl,NW2.out⟩⟩
   | some p =>
    obtain ⟨L1,en⟩:=p;obtain ⟨rfl,hup⟩:=hrd;have hen:en <= 16777216:=zfm (fun s=>(z1d H.out s).1) hrr;have HUP:=qq hup;clear RD hrr hup c108;go_wp2_with (first | go_skip | (with_reducible refine qv (by decide) ?_))
    refine za (valloc (z:=.int .i64 0) (by kernel_rfl) ?_);intro b17 w10 n10;simp only [Nat.reduceAdd,qn];go_wp2_with (first | go_skip | (with_reducible refine qv (by decide) ?_))
    refine za (zc rfl (zd (v:=.int .i64 (en:Nat)) (n:=1) (by kernel_rfl) (by rfl) (by rfl) n10.blk (by rfl) (by simp [Value.cells]) (by simp [Value.cells,Value.oneCell'])) ?_);intro w11 s11;simp only [Nat.reduceAdd,qn];have K911:Hid (Keeps Nb w9 w11):=qq (n10.k.own (k:=b17) n10.ge s11.k);have B17:=qq s11.blk;obtain ⟨FL1,RL1,hg9,hf1,hr1,hk1⟩:=HUP.out;have hg9s:=hg9.ltF;have hz89:=hk1.size;have HG11:=qq (hg9.nb K911.out);have B1011:=qq (K911.out.nb (hk1.at B108.out HLB.out.1));have B311:=qq (K911.out.nb (hk1.at B38.out HLB.out.2));have HV11:Hid (Vars w11):=qq ((HV8.out.keeps hk1 (fun k hk e=>by have:=HL8.out.low k (.inr e);omega)).nb K911.out);have K11:Hid (Keeps Fd w w11):=qq ((K8.out.trans hk1 (fun j hj e=>by have e:j=l:=e;have:=HLW.out;omega)).trans_nb K911.out);have hb17:=n10.ge
    have NOF:Hid ((¬ Fd b17 /\ ¬ FL1 b17) /\ (¬ Fd b10 /\ ¬ FL1 b10) /\ (¬ Fd b3 /\ ¬ FL1 b3) /\ b17 ≠ l /\ w9.heap.size <= b17 /\ w8.heap.size <= w9.heap.size):=qq (by
     have h1:=lt_of_block B108.out;have h2:=lt_of_block B38.out;have h3:=G3.out;have h4:=G10.out;have h5:=K3.out.size;have h6:=K8.out.size;have hd:∀ k,w.heap.size <= k -> ¬ Fd k:=fun k hk e=>by have:=H.out.ltF k e;omega
     refine ⟨⟨hd _ (by omega),fun e=>by have:=hg9s b17 e;omega⟩,⟨hd _ (by omega),fun e=>(hf1 b10 e).elim HLB.out.1 (fun e=>by omega)⟩,⟨hd _ (by omega),fun e=>(hf1 b3 e).elim HLB.out.2 (fun e=>by omega)⟩,fun e=>by have:=lt_of_block B108.out;have:=hg9s l hg9.fl;omega,hb17,hz89⟩)
    have HF1:=qq hf1;have HR1:=qq hr1;have hen2:en <= 33554432:=by omega
    clear n10 s11 hg9 hf1 hr1 hk1 hg9s hz89 hb17 HUP;have c1011:w11.cell? ⟨b10,0,none⟩=some (.pointer (some ⟨l,0,none⟩)):=(cell_of_block B1011.out).trans rfl;have c311:w11.cell? ⟨b3,0,none⟩=some (.pointer (some ⟨d,0,none⟩)):=(cell_of_block B311.out).trans rfl;go_wp2_with (first | go_skip | (with_reducible refine qv (by decide) ?_))
    refine za (zj rfl (zl el138 ((opF2 d b3 b10 b17).map Fv.v) rfl (by simp [List.range'_succ];first | done | rfl | exact ⟨rfl,rfl⟩ | exact ⟨rfl,rfl,rfl⟩ | exact ⟨rfl,rfl,rfl,rfl⟩ | exact ⟨rfl,rfl,rfl,rfl,rfl⟩ | exact ⟨rfl,rfl,rfl,rfl,rfl,rfl⟩) (by simp [Value.cells,opF2,Fv.v]) (by simp [opF2])) ?_);rintro _ w12 ⟨b20,rfl,n12⟩;simp only [Nat.reduceAdd,qn];have K1112:=qq n12.k;have hP:OpP2 d l en b3 b10 b17 w12 Fd FL1:=⟨⟨n12.k.nb B1011.out,NOF.out.2.1⟩,⟨n12.k.nb B17.out,NOF.out.1⟩,⟨n12.k.nb B311.out,NOF.out.2.2.1⟩⟩
    have hrow:Has w12 (some ⟨b20,0,none⟩) ((opF2 d b3 b10 b17).map Fv.v):=zm n12.blk;have AR:=qq (z1a (n:=3) (zac d l en b3 b10 b17) (op2_l d l en b3 b10 b17 L1 hen2) (HG11.out.nb n12.k) (HV11.out.nb n12.k) hP rfl (by omega) (by simp;omega) hrow (zt HG11.out n12.ge));clear hP hrow n12 c1011 c311;go_wp2_with fail;refine AR.out.mono ?_;rintro e w13 ⟨er2,Y,L',rfl,hnow,hask,hL',hpot⟩;obtain ⟨Fd',Rd',FL',RL',g1,g2,g3,g4,g5,g6⟩:=hnow;have B1013:=qq (g6.at (K1112.out.nb B1011.out) (fun e=>e.elim NOF.out.2.1.1 NOF.out.2.1.2));have B1713:=qq (g6.at (K1112.out.nb B17.out) (fun e=>e.elim NOF.out.1.1 NOF.out.1.2));obtain ⟨sv,lv,vs,e1,e2,e3,e4⟩:=g1.ex;have hlr:L'.recs=L1.recs /\ L'.name=L1.name:=by rw [hL'];split <;> exact ⟨rfl,rfl⟩
    have E1:=qq e1;obtain ⟨-,-,la,lc,rfl,-⟩:=id e3;rw [hlr.1] at E1 e3;have HLR:=qq hlr;have G1:=qq g1;have G2:=qq g2;have G3':=qq g3;have G4:=qq g4;have G5:=qq g5;have G6:=qq g6;have HASK:=qq hask;have HL':=qq hL';have HPO:=qq hpot;clear g1 g2 g3 g4 g5 g6 e1 e2 e3 e4 hlr hask hL' hpot AR;have c1013:w13.cell? ⟨b10,0,none⟩=some (.pointer (some ⟨l,0,none⟩)):=(cell_of_block B1013.out).trans rfl;go_wp2;refine WT.region (fun u=>u.cell? ⟨b10,0,none⟩=some (.pointer (some ⟨l,0,none⟩)) /\ u.cell? ⟨b17,0,none⟩=some (.int .i64 (en:Nat)) /\ u.cell? ⟨l,9,none⟩=some (.slice la L1.recs.length lc)) 11 14 [0,1,2,3,4,5,6,7,8,9,10,11,12,13] (by kernel_rfl) rfl ?_;have c17:w13.cell? ⟨b17,0,none⟩=some (.int .i64 (en:Nat)):=(cell_of_block B1713.out).trans rfl;have c9:w13.cell? ⟨l,9,none⟩=some (.slice la L1.recs.length lc):=(cell_of_block E1.out).trans rfl;have HS:Hid ((fun u:World=>u.cell? ⟨b10,0,none⟩=some (.pointer (some ⟨l,0,none⟩)) /\ u.cell? ⟨b17,0,none⟩=some (.int .i64 (en:Nat)) /\ u.cell? ⟨l,9,none⟩=some (.slice la L1.recs.length lc)) w13.drew):=qq ⟨c1013,c17,c9⟩;refine WT.t 0 (v:=.pointer (some ⟨l,0,none⟩)) (y:=by rintro w ⟨C1,C2,C3⟩;exact zb (by kernel_rfl) (by rfl) C1) (s:=HS.out) (h:=?_);refine WT.t 1 (v:=.pointer (some ⟨l,0,none⟩)) (y:=by rintro w ⟨C1,C2,C3⟩;exact zb (by kernel_rfl) (by rfl) C1) (s:=HS.out) (h:=?_);refine WT.t 2 (v:=.int .i64 (en:Nat)) (y:=by rintro w ⟨C1,C2,C3⟩;exact zb (by kernel_rfl) (by rfl) C2) (s:=HS.out) (h:=?_);refine WT.t 3 (v:=.pointer (some ⟨l,0,none⟩)) (y:=by rintro w ⟨C1,C2,C3⟩;exact zb (by kernel_rfl) (by rfl) C1) (s:=HS.out) (h:=?_);refine WT.t 4 (v:=_) (y:=by rintro w ⟨C1,C2,C3⟩;go_simp;with_reducible rfl) (s:=HS.out) (h:=?_);refine WT.t 5 (v:=_) (y:=by rintro w ⟨C1,C2,C3⟩;go_simp;with_reducible rfl) (s:=HS.out) (h:=?_);refine WT.t 6 (v:=.slice la L1.recs.length lc) (y:=by rintro w ⟨C1,C2,C3⟩;exact zb (by kernel_rfl) (by rfl) C3) (s:=HS.out) (h:=?_);refine WT.t 7 (v:=_) (y:=by rintro w ⟨C1,C2,C3⟩;go_simp;with_reducible rfl) (s:=HS.out) (h:=?_);refine WT.t 8 (v:=_) (y:=by rintro w ⟨C1,C2,C3⟩;go_simp;with_reducible rfl) (s:=HS.out) (h:=?_);refine WT.t 9 (v:=_) (y:=by rintro w ⟨C1,C2,C3⟩;go_simp;with_reducible rfl) (s:=HS.out) (h:=?_);refine WT.onlySkipE 10 (by simp only [qi];rfl) (by kernel_rfl) (by rfl) (zd (w:=w13.drew) (v:=.int .i64 (en:Nat)) (n:=1) (by kernel_rfl) (by rfl) (by rfl) E1.out (by rfl) (by simp [Value.cells,lcs]) (by simp [Value.cells,Value.oneCell'])) ?_;intro w14 s14
    have hS14:w14.cell? ⟨b10,0,none⟩=some (.pointer (some ⟨l,0,none⟩)) /\ w14.cell? ⟨b17,0,none⟩=some (.int .i64 (en:Nat)) /\ w14.cell? ⟨l,9,none⟩=some (.slice la L1.recs.length lc) :=
     ⟨(s14.k.cell (p:=⟨b10,0,none⟩) (lt_of_cell (w:=w13.drew) c1013) HLB.out.1).trans c1013,(s14.k.cell (p:=⟨b17,0,none⟩) (lt_of_cell (w:=w13.drew) c17) NOF.out.2.2.2.1).trans c17,(cell_of_block s14.blk).trans rfl⟩
    refine ⟨hS14,?_⟩;simp only [Nat.reduceAdd,qn];refine WT.stop (by kernel_rfl) ?_;refine WP.o 11 (v:=_) (y:=by go_simp;first | with_reducible rfl | exact ⟨rfl,rfl⟩) (h:=?_);refine WP.o 12 (v:=_) (y:=by go_simp;first | with_reducible rfl | exact ⟨rfl,rfl⟩) (h:=?_);refine WP.onlySkipE 13 (by simp only [qi];rfl) (by kernel_rfl) (by rfl) (zd (v:=.int .i64 (L1.recs.length:Nat)) (n:=1) (by kernel_rfl) (by rfl) (by rfl) s14.blk (by rfl) (by simp [Value.cells,lcs,splice]) (by simp [Value.cells,Value.oneCell'])) ?_;intro w15 s15;simp only [Nat.reduceAdd,qn];refine WP.done (by kernel_rfl) ?_;have S15:SetAt w13 w15 l (.cells (lcs d sv (.slice la L1.recs.length lc) { L' with size:=en,synced:=L1.recs.length }) 78 (0,0)):=⟨s15.blk,((Keeps.refl (·=l) w13).drew.trans s14.k (fun _ _ e=>e)).trans s15.k (fun _ _ e=>e)⟩
    have hg15:LgAt w15 l d Fd' Rd' FL' RL' { L' with size:=en,synced:=L1.recs.length } Y:=by
     have hh:=G1.out.nums;exact G1.out.setL E1.out S15 rfl rfl rfl ⟨hh.name,hh.n16,hh.most,hh.first,hh.segment,hh.segments,hen2,hh.recs,hh.nrec,hh.snap⟩
    have hnow:LNow w12 w15 l d Fd Rd FL1 RL1 { L' with size:=en,synced:=L1.recs.length } Y :=
     ⟨Fd',Rd',FL',RL',hg15,G2.out,G3'.out,G4.out,G5.out,G6.out.trans S15.k (fun j hj e=>by
      have e:j=l:=e;subst e
      exact (G4.out j G1.out.fl).elim .inr (fun e=>by omega))⟩
    have hz8:w.heap.size <= w8.heap.size:=K8.out.size;have hfin:=z9o hnow (K11.out.trans_nb K1112.out) (fun k e=>(HF1.out k e).elim (fun e=>by have:=HLW.out;omega) (fun e=>by omega)) (fun k e=>(HR1.out k e).elim (fun e=>e.elim) (fun e=>by omega));have hb17:w15.cell? ⟨b10,0,none⟩=some (.pointer (some ⟨l,0,none⟩)):=(cell_of_block (S15.k.at B1013.out HLB.out.1)).trans rfl
    have HOR:Hid (∃ L2,openR nm m X er2 L2 Y /\ (er2=0 -> L2={ L' with size:=en,synced:=L1.recs.length })):=qq
     ⟨{ L1 with size:=en,synced:=L1.recs.length },.inr (.inr ⟨fb,fs,ff,_,HFB.out,HBI.out,HRR.out,.inr ⟨L1,en,rfl,HASK.out,rfl⟩⟩),fun h=>by have:=HL'.out;rw [if_pos h] at this;rw [this]⟩
    have HFI:=qq hfin;have hpo3:pot Y <= pot X + 12:=by have:=HPO.out;simp at this;omega
    have HPO2:=qq hpo3;clear hfin hnow hg15 S15 s14 s15 hS14 c17 c9 c1013 HS hpo3;by_cases he:er2=0
    ·subst he;go_wp2;go_ret2;obtain ⟨L2,h1,h2⟩:=HOR.out;obtain ⟨Fd',Rd',FL',RL',g1,g2,g3,g4,g5,g6⟩:=HFI.out;rw [<- h2 (by simp)] at g1;exact ⟨0,L2,Y,h1,HPO2.out,.inl ⟨rfl,l,Fd',Rd',FL',RL',rfl,g1,g2,g3,g4,g5,g6⟩⟩
    ·
     have HE:=qq he;have t9:(er2 != 0)=true:=by simpa using he
     clear he;go_wp2;go_ret2;obtain ⟨L2,h1,h2⟩:=HOR.out;obtain ⟨Fd',Rd',FL',RL',g1,g2,g3,g4,g5,g6⟩:=HFI.out;exact ⟨er2,L2,Y,h1,HPO2.out,.inr ⟨HE.out,rfl,Fd',Rd',g1.disk,g2,g3,g6⟩⟩
 ·
  have DF:Hid (Now w w7 d Fd Rd X.D X.fc):=qq (Now.of (H.out.nb K7.out) K7.out.of_nb)
  have HOR:Hid (openR nm m X 10 (lg0 nm m) X):=qq (by
   have h1:=HFR.out;unfold fndR at h1;split at h1
   ·have:=congrArg (fun p=>p.2.2) h1;simp at this
   ·
    rename_i b hb;split at h1
    ·rename_i hn;exact .inr (.inl ⟨b,hb,hn,rfl,rfl⟩)
    ·have:=congrArg (fun p=>p.2.2) h1;simp at this)
  go_wp2;go_ret2;exact ⟨10,lg0 nm m,X,HOR.out,by omega,.inr ⟨by decide,rfl,DF.out⟩⟩
end Go.Proofs.YtpjomdmjohjheaaGreatDoor
end
section
namespace Go.Proofs.YtpjomdmjohjheaaGreatDoor
open Go.RowKit Go.Lk Go.Vfs Go.Log
theorem zew (l d b:Nat) (f:Int) (L:Lg):OpC l d L 0 ⟨124,#[],#[.pointer (some ⟨b,0,none⟩)]⟩ (erO f) (EB b f):=by
 rintro w Fd Rd FL RL X h hv ⟨hb,-,-⟩ hp;have c:w.cell? ⟨b,0,none⟩=some (.int .i64 f):=(cell_of_block hb).trans rfl;have F:=qq (OpE.same (k:=0) (o:=erO f) (er:=f) h (Keeps.refl _ _) ⟨rfl,rfl⟩ (by omega));clear h hv hp hb;show Calls Tryz.prog 124 #[.pointer (some ⟨b,0,none⟩)] w _;go_enter Tryz.func124,Tryz.ntmps124;go_wp2;go_ret;exact F.out
theorem zh0 (l d b:Nat) (f:Int) (L:Lg):OpC l d L 0 ⟨73,#[],#[.pointer (some ⟨b,0,none⟩)]⟩ (erO f) (EB b f):=by
 rintro w Fd Rd FL RL X h hv ⟨hb,-,-⟩ hp;have c:w.cell? ⟨b,0,none⟩=some (.int .i64 f):=(cell_of_block hb).trans rfl;have F:=qq (OpE.same (k:=0) (o:=erO f) (er:=f) h (Keeps.refl _ _) ⟨rfl,rfl⟩ (by omega));clear h hv hp hb;show Calls Tryz.prog 73 #[.pointer (some ⟨b,0,none⟩)] w _;go_enter Tryz.func73,Tryz.ntmps73;go_wp2;go_ret;exact F.out
theorem zhl (l d b10 b15 n:Nat) (L:Lg) (hn:n <= 9223372036854775807):OpC l d L 3 ⟨125,#[],#[.pointer (some ⟨b10,0,none⟩),.pointer (some ⟨b15,0,none⟩)]⟩ (mkO (sgf L.name n)) (fun w a b=>LB b10 l w a b /\ NB b15 n w a b):=by
 rintro w Fd Rd FL RL X h hv ⟨⟨hb10,o10⟩,⟨hb15,o15⟩⟩ hp;have OO:=qq (And.intro o10 o15);obtain ⟨sv,lv,hcs⟩:=h.cells;have c10:w.cell? ⟨b10,0,none⟩=some (.pointer (some ⟨l,0,none⟩)):=(cell_of_block hb10).trans rfl;have c15:w.cell? ⟨b15,0,none⟩=some (.int .i64 (n:Nat)):=(cell_of_block hb15).trans rfl;have cl:w.cell? ⟨l,0,none⟩=some (.pointer (some ⟨d,0,none⟩)):=(cell_of_block (hcs w (Keeps.refl _ _))).trans rfl;have H:=qq h;have h16:=h.nums.n16;have SA:=qq (z0t l L.name n w.drew (hv.nb (Keeps.refl Nb w).drew) ((cell_of_block (hcs w.drew (Keeps.refl Nb w).drew)).trans rfl) (by omega) hn);have HP:=qq (z0f hp (by omega));clear h hv hb10 hb15 hcs hp o10 o15;show Calls Tryz.prog 125 #[.pointer (some ⟨b10,0,none⟩),.pointer (some ⟨b15,0,none⟩)] w _;go_enter Tryz.func125,Tryz.ntmps125;go_wp2;refine WT.region (fun u=>u.cell? ⟨b10,0,none⟩=some (.pointer (some ⟨l,0,none⟩)) /\ u.cell? ⟨b15,0,none⟩=some (.int .i64 (n:Nat)) /\ u.cell? ⟨l,0,none⟩=some (.pointer (some ⟨d,0,none⟩))) 8 9 [0,1,2,3,4,5,6,7,8] (by kernel_rfl) rfl ?_
 have fac:∀ u,Keeps (fun k=>Fd k) w u -> (fun u:World=>u.cell? ⟨b10,0,none⟩=some (.pointer (some ⟨l,0,none⟩)) /\ u.cell? ⟨b15,0,none⟩=some (.int .i64 (n:Nat)) /\ u.cell? ⟨l,0,none⟩=some (.pointer (some ⟨d,0,none⟩))) u:=fun u hu =>
  ⟨(hu.cell (lt_of_cell c10) OO.out.1.1).trans c10,(hu.cell (lt_of_cell c15) OO.out.2.1).trans c15,(hu.cell (lt_of_cell cl) (H.out.apF l H.out.fl).1).trans cl⟩
 have FAC:=qq fac;have HS:=qq (fac w.drew (Keeps.refl _ w).drew);clear fac;refine WT.t 0 (v:=.pointer (some ⟨l,0,none⟩)) (y:=by rintro w ⟨C1,C2,C3⟩;exact zb (by kernel_rfl) (by rfl) C1) (s:=HS.out) (h:=?_);refine WT.t 1 (v:=_) (y:=by rintro w ⟨C1,C2,C3⟩;go_simp;with_reducible rfl) (s:=HS.out) (h:=?_);refine WT.t 2 (v:=_) (y:=by rintro w ⟨C1,C2,C3⟩;go_simp;with_reducible rfl) (s:=HS.out) (h:=?_);refine WT.t 3 (v:=.pointer (some ⟨d,0,none⟩)) (y:=by rintro w ⟨C1,C2,C3⟩;exact zb (by kernel_rfl) (by rfl) C3) (s:=HS.out) (h:=?_);refine WT.t 4 (v:=.pointer (some ⟨l,0,none⟩)) (y:=by rintro w ⟨C1,C2,C3⟩;exact zb (by kernel_rfl) (by rfl) C1) (s:=HS.out) (h:=?_);refine WT.t 5 (v:=.int .i64 (n:Nat)) (y:=by rintro w ⟨C1,C2,C3⟩;exact zb (by kernel_rfl) (by rfl) C2) (s:=HS.out) (h:=?_);refine WT.call 6 (by simp only [qi];rfl) (by kernel_rfl) (by rfl) (by go_simp;first | done | rfl | exact ⟨⟨rfl,rfl⟩,rfl⟩ | exact ⟨⟨rfl,rfl,rfl⟩,rfl⟩ | exact ⟨⟨rfl,rfl,rfl,rfl⟩,rfl⟩ | exact ⟨⟨rfl,rfl,rfl,rfl,rfl⟩,rfl⟩) SA.out ?_;rintro _ w1 ⟨rfl,k1⟩;have K1:Hid (Keeps Nb w w1):=qq (((Keeps.refl Nb w).drew).trans_nb k1);refine ⟨_,rfl,FAC.out w1 K1.out.of_nb,?_⟩;simp only [Nat.reduceAdd,qn];have MA:=qq (z5h d (sgf L.name n) X.D Fd Rd X.fc w1 (H.out.disk.nb K1.out) (z17 h16 hn) HP.out);refine WT.call 7 (by simp only [qi];rfl) (by kernel_rfl) (by rfl) (by go_simp;first | done | rfl | exact ⟨⟨rfl,rfl⟩,rfl⟩ | exact ⟨⟨rfl,rfl,rfl⟩,rfl⟩ | exact ⟨⟨rfl,rfl,rfl,rfl⟩,rfl⟩ | exact ⟨⟨rfl,rfl,rfl,rfl,rfl⟩,rfl⟩) MA.out ?_;rintro _ w2 ⟨er,D',fc',rfl,hn2,hr⟩;have ho:mkO (sgf L.name n) X er ⟨D',fc'⟩:=⟨w1.heap.size,fun b hb=>(H.out.disk.nb K1.out).ltF b ((H.out.disk.nb K1.out).file b hb).2,hr⟩
 have hk2:Keeps Fd w w2:=(K1.out.of_nb).trans (by obtain ⟨_,_,_,_,_,hk⟩:=hn2;exact hk) (fun _ _ e=>e);have F:=qq (OpE.disk (k:=3) H.out K1.out hn2 ho (z6u ho));have S2:=FAC.out w2 hk2;clear hn2 hr ho MA SA k1 HS;refine ⟨_,rfl,S2,?_⟩;simp only [Nat.reduceAdd,qn];refine WT.stop (by kernel_rfl) ?_;refine WP.o 8 (v:=_) (y:=by go_simp;first | with_reducible rfl | exact ⟨rfl,rfl⟩) (h:=?_);refine WP.done (by kernel_rfl) ?_;go_wp2;go_ret;exact F.out
theorem mk77_c (l d b10 b15 n:Nat) (L:Lg) (hn:n <= 9223372036854775807):OpC l d L 3 ⟨77,#[],#[.pointer (some ⟨b10,0,none⟩),.pointer (some ⟨b15,0,none⟩)]⟩ (mkO (sgf L.name n)) (fun w a b=>LB b10 l w a b /\ NB b15 n w a b):=by
 rintro w Fd Rd FL RL X h hv ⟨⟨hb10,o10⟩,⟨hb15,o15⟩⟩ hp;have OO:=qq (And.intro o10 o15);obtain ⟨sv,lv,hcs⟩:=h.cells;have c10:w.cell? ⟨b10,0,none⟩=some (.pointer (some ⟨l,0,none⟩)):=(cell_of_block hb10).trans rfl;have c15:w.cell? ⟨b15,0,none⟩=some (.int .i64 (n:Nat)):=(cell_of_block hb15).trans rfl;have cl:w.cell? ⟨l,0,none⟩=some (.pointer (some ⟨d,0,none⟩)):=(cell_of_block (hcs w (Keeps.refl _ _))).trans rfl;have H:=qq h;have h16:=h.nums.n16;have SA:=qq (z0t l L.name n w.drew (hv.nb (Keeps.refl Nb w).drew) ((cell_of_block (hcs w.drew (Keeps.refl Nb w).drew)).trans rfl) (by omega) hn);have HP:=qq (z0f hp (by omega));clear h hv hb10 hb15 hcs hp o10 o15;show Calls Tryz.prog 77 #[.pointer (some ⟨b10,0,none⟩),.pointer (some ⟨b15,0,none⟩)] w _;go_enter Tryz.func77,Tryz.ntmps77;go_wp2;refine WT.region (fun u=>u.cell? ⟨b10,0,none⟩=some (.pointer (some ⟨l,0,none⟩)) /\ u.cell? ⟨b15,0,none⟩=some (.int .i64 (n:Nat)) /\ u.cell? ⟨l,0,none⟩=some (.pointer (some ⟨d,0,none⟩))) 8 9 [0,1,2,3,4,5,6,7,8] (by kernel_rfl) rfl ?_
 have fac:∀ u,Keeps (fun k=>Fd k) w u -> (fun u:World=>u.cell? ⟨b10,0,none⟩=some (.pointer (some ⟨l,0,none⟩)) /\ u.cell? ⟨b15,0,none⟩=some (.int .i64 (n:Nat)) /\ u.cell? ⟨l,0,none⟩=some (.pointer (some ⟨d,0,none⟩))) u:=fun u hu =>
  ⟨(hu.cell (lt_of_cell c10) OO.out.1.1).trans c10,(hu.cell (lt_of_cell c15) OO.out.2.1).trans c15,(hu.cell (lt_of_cell cl) (H.out.apF l H.out.fl).1).trans cl⟩
 have FAC:=qq fac;have HS:=qq (fac w.drew (Keeps.refl _ w).drew);clear fac;refine WT.t 0 (v:=.pointer (some ⟨l,0,none⟩)) (y:=by rintro w ⟨C1,C2,C3⟩;exact zb (by kernel_rfl) (by rfl) C1) (s:=HS.out) (h:=?_);refine WT.t 1 (v:=_) (y:=by rintro w ⟨C1,C2,C3⟩;go_simp;with_reducible rfl) (s:=HS.out) (h:=?_);refine WT.t 2 (v:=_) (y:=by rintro w ⟨C1,C2,C3⟩;go_simp;with_reducible rfl) (s:=HS.out) (h:=?_);refine WT.t 3 (v:=.pointer (some ⟨d,0,none⟩)) (y:=by rintro w ⟨C1,C2,C3⟩;exact zb (by kernel_rfl) (by rfl) C3) (s:=HS.out) (h:=?_);refine WT.t 4 (v:=.pointer (some ⟨l,0,none⟩)) (y:=by rintro w ⟨C1,C2,C3⟩;exact zb (by kernel_rfl) (by rfl) C1) (s:=HS.out) (h:=?_);refine WT.t 5 (v:=.int .i64 (n:Nat)) (y:=by rintro w ⟨C1,C2,C3⟩;exact zb (by kernel_rfl) (by rfl) C2) (s:=HS.out) (h:=?_);refine WT.call 6 (by simp only [qi];rfl) (by kernel_rfl) (by rfl) (by go_simp;first | done | rfl | exact ⟨⟨rfl,rfl⟩,rfl⟩ | exact ⟨⟨rfl,rfl,rfl⟩,rfl⟩ | exact ⟨⟨rfl,rfl,rfl,rfl⟩,rfl⟩ | exact ⟨⟨rfl,rfl,rfl,rfl,rfl⟩,rfl⟩) SA.out ?_;rintro _ w1 ⟨rfl,k1⟩;have K1:Hid (Keeps Nb w w1):=qq (((Keeps.refl Nb w).drew).trans_nb k1);refine ⟨_,rfl,FAC.out w1 K1.out.of_nb,?_⟩;simp only [Nat.reduceAdd,qn];have MA:=qq (z5h d (sgf L.name n) X.D Fd Rd X.fc w1 (H.out.disk.nb K1.out) (z17 h16 hn) HP.out);refine WT.call 7 (by simp only [qi];rfl) (by kernel_rfl) (by rfl) (by go_simp;first | done | rfl | exact ⟨⟨rfl,rfl⟩,rfl⟩ | exact ⟨⟨rfl,rfl,rfl⟩,rfl⟩ | exact ⟨⟨rfl,rfl,rfl,rfl⟩,rfl⟩ | exact ⟨⟨rfl,rfl,rfl,rfl,rfl⟩,rfl⟩) MA.out ?_;rintro _ w2 ⟨er,D',fc',rfl,hn2,hr⟩;have ho:mkO (sgf L.name n) X er ⟨D',fc'⟩:=⟨w1.heap.size,fun b hb=>(H.out.disk.nb K1.out).ltF b ((H.out.disk.nb K1.out).file b hb).2,hr⟩
 have hk2:Keeps Fd w w2:=(K1.out.of_nb).trans (by obtain ⟨_,_,_,_,_,hk⟩:=hn2;exact hk) (fun _ _ e=>e);have F:=qq (OpE.disk (k:=3) H.out K1.out hn2 ho (z6u ho));have S2:=FAC.out w2 hk2;clear hn2 hr ho MA SA k1 HS;refine ⟨_,rfl,S2,?_⟩;simp only [Nat.reduceAdd,qn];refine WT.stop (by kernel_rfl) ?_;refine WP.o 8 (v:=_) (y:=by go_simp;first | with_reducible rfl | exact ⟨rfl,rfl⟩) (h:=?_);refine WP.done (by kernel_rfl) ?_;go_wp2;go_ret;exact F.out
theorem sy70_c (l d b10:Nat) (L:Lg):OpC l d L 1 ⟨70,#[],#[.pointer (some ⟨b10,0,none⟩)]⟩ (syO L.seg) (LB b10 l):=by
 rintro w Fd Rd FL RL X h hv ⟨hb10,o10⟩ hp;have OO:=qq o10;obtain ⟨sv,lv,hcs⟩:=h.cells;have c3:w.cell? ⟨l,0,none⟩=some (.pointer (some ⟨d,0,none⟩)):=(cell_of_block (hcs w (Keeps.refl _ _))).trans rfl;have c10:w.cell? ⟨b10,0,none⟩=some (.pointer (some ⟨l,0,none⟩)):=(cell_of_block hb10).trans rfl;have cl:w.cell? ⟨l,4,none⟩=some (.int .i64 (L.segment:Nat)):=(cell_of_block (hcs w (Keeps.refl _ _))).trans rfl;have H:=qq h;have h16:=h.nums.n16;have hsg:=h.nums.segment;have SA:=qq (z0t l L.name L.segment w.drew (hv.nb (Keeps.refl Nb w).drew) ((cell_of_block (hcs w.drew (Keeps.refl Nb w).drew)).trans rfl) (by omega) (by omega));have HP:=qq (z0f hp (by omega));clear h hv hb10 hcs hp o10;show Calls Tryz.prog 70 #[.pointer (some ⟨b10,0,none⟩)] w _;go_enter Tryz.func70,Tryz.ntmps70;go_wp2;refine WT.region (fun u=>u.cell? ⟨l,0,none⟩=some (.pointer (some ⟨d,0,none⟩)) /\ u.cell? ⟨b10,0,none⟩=some (.pointer (some ⟨l,0,none⟩)) /\ u.cell? ⟨l,4,none⟩=some (.int .i64 (L.segment:Nat))) 11 12 [0,1,2,3,4,5,6,7,8,9,10,11] (by kernel_rfl) rfl ?_
 have fac:∀ u,Keeps (fun k=>Fd k) w u -> (fun u:World=>u.cell? ⟨l,0,none⟩=some (.pointer (some ⟨d,0,none⟩)) /\ u.cell? ⟨b10,0,none⟩=some (.pointer (some ⟨l,0,none⟩)) /\ u.cell? ⟨l,4,none⟩=some (.int .i64 (L.segment:Nat))) u:=fun u hu =>
  ⟨(hu.cell (lt_of_cell c3) (H.out.apF l H.out.fl).1).trans c3,(hu.cell (lt_of_cell c10) OO.out.1).trans c10,(hu.cell (lt_of_cell cl) (H.out.apF l H.out.fl).1).trans cl⟩
 have FAC:=qq fac;have HS:=qq (fac w.drew (Keeps.refl _ w).drew);clear fac;refine WT.t 0 (v:=.pointer (some ⟨l,0,none⟩)) (y:=by rintro w ⟨C1,C2,C3⟩;exact zb (by kernel_rfl) (by rfl) C2) (s:=HS.out) (h:=?_);refine WT.t 1 (v:=_) (y:=by rintro w ⟨C1,C2,C3⟩;go_simp;with_reducible rfl) (s:=HS.out) (h:=?_);refine WT.t 2 (v:=_) (y:=by rintro w ⟨C1,C2,C3⟩;go_simp;with_reducible rfl) (s:=HS.out) (h:=?_);refine WT.t 3 (v:=.pointer (some ⟨d,0,none⟩)) (y:=by rintro w ⟨C1,C2,C3⟩;exact zb (by kernel_rfl) (by rfl) C1) (s:=HS.out) (h:=?_);refine WT.t 4 (v:=.pointer (some ⟨l,0,none⟩)) (y:=by rintro w ⟨C1,C2,C3⟩;exact zb (by kernel_rfl) (by rfl) C2) (s:=HS.out) (h:=?_);refine WT.t 5 (v:=.pointer (some ⟨l,0,none⟩)) (y:=by rintro w ⟨C1,C2,C3⟩;exact zb (by kernel_rfl) (by rfl) C2) (s:=HS.out) (h:=?_);refine WT.t 6 (v:=_) (y:=by rintro w ⟨C1,C2,C3⟩;go_simp;with_reducible rfl) (s:=HS.out) (h:=?_);refine WT.t 7 (v:=_) (y:=by rintro w ⟨C1,C2,C3⟩;go_simp;with_reducible rfl) (s:=HS.out) (h:=?_);refine WT.t 8 (v:=.int .i64 (L.segment:Nat)) (y:=by rintro w ⟨C1,C2,C3⟩;exact zb (by kernel_rfl) (by rfl) C3) (s:=HS.out) (h:=?_);refine WT.call 9 (by simp only [qi];rfl) (by kernel_rfl) (by rfl) (by go_simp;first | done | rfl | exact ⟨⟨rfl,rfl⟩,rfl⟩ | exact ⟨⟨rfl,rfl,rfl⟩,rfl⟩ | exact ⟨⟨rfl,rfl,rfl,rfl⟩,rfl⟩ | exact ⟨⟨rfl,rfl,rfl,rfl,rfl⟩,rfl⟩) SA.out ?_;rintro _ w1 ⟨rfl,k1⟩;have K1:Hid (Keeps Nb w w1):=qq (((Keeps.refl Nb w).drew).trans_nb k1);refine ⟨_,rfl,FAC.out w1 K1.out.of_nb,?_⟩;simp only [Nat.reduceAdd,qn];have MA:=qq (z42 d (sgf L.name L.segment) X.D Fd Rd X.fc w1 (H.out.disk.nb K1.out) (z17 h16 (by omega)) HP.out);refine WT.call 10 (by simp only [qi];rfl) (by kernel_rfl) (by rfl) (by go_simp;first | done | rfl | exact ⟨⟨rfl,rfl⟩,rfl⟩ | exact ⟨⟨rfl,rfl,rfl⟩,rfl⟩ | exact ⟨⟨rfl,rfl,rfl,rfl⟩,rfl⟩ | exact ⟨⟨rfl,rfl,rfl,rfl,rfl⟩,rfl⟩) MA.out ?_;rintro _ w2 ⟨er,D',fc',rfl,hn2,hr⟩;have ho:syO L.seg X er ⟨D',fc'⟩:=hr;have hk2:Keeps Fd w w2:=(K1.out.of_nb).trans (by obtain ⟨_,_,_,_,_,hk⟩:=hn2;exact hk) (fun _ _ e=>e);have F:=qq (OpE.disk (k:=1) H.out K1.out hn2 ho (z52 ho));have S2:=FAC.out w2 hk2;clear hn2 hr ho MA SA k1 HS;refine ⟨_,rfl,S2,?_⟩;simp only [Nat.reduceAdd,qn];refine WT.stop (by kernel_rfl) ?_;refine WP.o 11 (v:=_) (y:=by go_simp;first | with_reducible rfl | exact ⟨rfl,rfl⟩) (h:=?_);refine WP.done (by kernel_rfl) ?_;go_wp2;go_ret;exact F.out
theorem sy72_c (l d b10:Nat) (L:Lg):OpC l d L 1 ⟨72,#[],#[.pointer (some ⟨b10,0,none⟩)]⟩ (syO L.seg) (LB b10 l):=by
 rintro w Fd Rd FL RL X h hv ⟨hb10,o10⟩ hp;have OO:=qq o10;obtain ⟨sv,lv,hcs⟩:=h.cells;have c3:w.cell? ⟨l,0,none⟩=some (.pointer (some ⟨d,0,none⟩)):=(cell_of_block (hcs w (Keeps.refl _ _))).trans rfl;have c10:w.cell? ⟨b10,0,none⟩=some (.pointer (some ⟨l,0,none⟩)):=(cell_of_block hb10).trans rfl;have cl:w.cell? ⟨l,4,none⟩=some (.int .i64 (L.segment:Nat)):=(cell_of_block (hcs w (Keeps.refl _ _))).trans rfl;have H:=qq h;have h16:=h.nums.n16;have hsg:=h.nums.segment;have SA:=qq (z0t l L.name L.segment w.drew (hv.nb (Keeps.refl Nb w).drew) ((cell_of_block (hcs w.drew (Keeps.refl Nb w).drew)).trans rfl) (by omega) (by omega));have HP:=qq (z0f hp (by omega));clear h hv hb10 hcs hp o10;show Calls Tryz.prog 72 #[.pointer (some ⟨b10,0,none⟩)] w _;go_enter Tryz.func72,Tryz.ntmps72;go_wp2;refine WT.region (fun u=>u.cell? ⟨l,0,none⟩=some (.pointer (some ⟨d,0,none⟩)) /\ u.cell? ⟨b10,0,none⟩=some (.pointer (some ⟨l,0,none⟩)) /\ u.cell? ⟨l,4,none⟩=some (.int .i64 (L.segment:Nat))) 11 12 [0,1,2,3,4,5,6,7,8,9,10,11] (by kernel_rfl) rfl ?_
 have fac:∀ u,Keeps (fun k=>Fd k) w u -> (fun u:World=>u.cell? ⟨l,0,none⟩=some (.pointer (some ⟨d,0,none⟩)) /\ u.cell? ⟨b10,0,none⟩=some (.pointer (some ⟨l,0,none⟩)) /\ u.cell? ⟨l,4,none⟩=some (.int .i64 (L.segment:Nat))) u:=fun u hu =>
  ⟨(hu.cell (lt_of_cell c3) (H.out.apF l H.out.fl).1).trans c3,(hu.cell (lt_of_cell c10) OO.out.1).trans c10,(hu.cell (lt_of_cell cl) (H.out.apF l H.out.fl).1).trans cl⟩
 have FAC:=qq fac;have HS:=qq (fac w.drew (Keeps.refl _ w).drew);clear fac;refine WT.t 0 (v:=.pointer (some ⟨l,0,none⟩)) (y:=by rintro w ⟨C1,C2,C3⟩;exact zb (by kernel_rfl) (by rfl) C2) (s:=HS.out) (h:=?_);refine WT.t 1 (v:=_) (y:=by rintro w ⟨C1,C2,C3⟩;go_simp;with_reducible rfl) (s:=HS.out) (h:=?_);refine WT.t 2 (v:=_) (y:=by rintro w ⟨C1,C2,C3⟩;go_simp;with_reducible rfl) (s:=HS.out) (h:=?_);refine WT.t 3 (v:=.pointer (some ⟨d,0,none⟩)) (y:=by rintro w ⟨C1,C2,C3⟩;exact zb (by kernel_rfl) (by rfl) C1) (s:=HS.out) (h:=?_);refine WT.t 4 (v:=.pointer (some ⟨l,0,none⟩)) (y:=by rintro w ⟨C1,C2,C3⟩;exact zb (by kernel_rfl) (by rfl) C2) (s:=HS.out) (h:=?_);refine WT.t 5 (v:=.pointer (some ⟨l,0,none⟩)) (y:=by rintro w ⟨C1,C2,C3⟩;exact zb (by kernel_rfl) (by rfl) C2) (s:=HS.out) (h:=?_);refine WT.t 6 (v:=_) (y:=by rintro w ⟨C1,C2,C3⟩;go_simp;with_reducible rfl) (s:=HS.out) (h:=?_);refine WT.t 7 (v:=_) (y:=by rintro w ⟨C1,C2,C3⟩;go_simp;with_reducible rfl) (s:=HS.out) (h:=?_);refine WT.t 8 (v:=.int .i64 (L.segment:Nat)) (y:=by rintro w ⟨C1,C2,C3⟩;exact zb (by kernel_rfl) (by rfl) C3) (s:=HS.out) (h:=?_);refine WT.call 9 (by simp only [qi];rfl) (by kernel_rfl) (by rfl) (by go_simp;first | done | rfl | exact ⟨⟨rfl,rfl⟩,rfl⟩ | exact ⟨⟨rfl,rfl,rfl⟩,rfl⟩ | exact ⟨⟨rfl,rfl,rfl,rfl⟩,rfl⟩ | exact ⟨⟨rfl,rfl,rfl,rfl,rfl⟩,rfl⟩) SA.out ?_;rintro _ w1 ⟨rfl,k1⟩;have K1:Hid (Keeps Nb w w1):=qq (((Keeps.refl Nb w).drew).trans_nb k1);refine ⟨_,rfl,FAC.out w1 K1.out.of_nb,?_⟩;simp only [Nat.reduceAdd,qn];have MA:=qq (z42 d (sgf L.name L.segment) X.D Fd Rd X.fc w1 (H.out.disk.nb K1.out) (z17 h16 (by omega)) HP.out);refine WT.call 10 (by simp only [qi];rfl) (by kernel_rfl) (by rfl) (by go_simp;first | done | rfl | exact ⟨⟨rfl,rfl⟩,rfl⟩ | exact ⟨⟨rfl,rfl,rfl⟩,rfl⟩ | exact ⟨⟨rfl,rfl,rfl,rfl⟩,rfl⟩ | exact ⟨⟨rfl,rfl,rfl,rfl,rfl⟩,rfl⟩) MA.out ?_;rintro _ w2 ⟨er,D',fc',rfl,hn2,hr⟩;have ho:syO L.seg X er ⟨D',fc'⟩:=hr;have hk2:Keeps Fd w w2:=(K1.out.of_nb).trans (by obtain ⟨_,_,_,_,_,hk⟩:=hn2;exact hk) (fun _ _ e=>e);have F:=qq (OpE.disk (k:=1) H.out K1.out hn2 ho (z52 ho));have S2:=FAC.out w2 hk2;clear hn2 hr ho MA SA k1 HS;refine ⟨_,rfl,S2,?_⟩;simp only [Nat.reduceAdd,qn];refine WT.stop (by kernel_rfl) ?_;refine WP.o 11 (v:=_) (y:=by go_simp;first | with_reducible rfl | exact ⟨rfl,rfl⟩) (h:=?_);refine WP.done (by kernel_rfl) ?_;go_wp2;go_ret;exact F.out
theorem zii (l d b10:Nat) (L:Lg):OpC l d L 1 ⟨123,#[],#[.pointer (some ⟨b10,0,none⟩)]⟩ (syO L.seg) (LB b10 l):=by
 rintro w Fd Rd FL RL X h hv ⟨hb10,o10⟩ hp;have OO:=qq o10;obtain ⟨sv,lv,hcs⟩:=h.cells;have c3:w.cell? ⟨l,0,none⟩=some (.pointer (some ⟨d,0,none⟩)):=(cell_of_block (hcs w (Keeps.refl _ _))).trans rfl;have c10:w.cell? ⟨b10,0,none⟩=some (.pointer (some ⟨l,0,none⟩)):=(cell_of_block hb10).trans rfl;have cl:w.cell? ⟨l,4,none⟩=some (.int .i64 (L.segment:Nat)):=(cell_of_block (hcs w (Keeps.refl _ _))).trans rfl;have H:=qq h;have h16:=h.nums.n16;have hsg:=h.nums.segment;have SA:=qq (z0t l L.name L.segment w.drew (hv.nb (Keeps.refl Nb w).drew) ((cell_of_block (hcs w.drew (Keeps.refl Nb w).drew)).trans rfl) (by omega) (by omega));have HP:=qq (z0f hp (by omega));clear h hv hb10 hcs hp o10;show Calls Tryz.prog 123 #[.pointer (some ⟨b10,0,none⟩)] w _;go_enter Tryz.func123,Tryz.ntmps123;go_wp2;refine WT.region (fun u=>u.cell? ⟨l,0,none⟩=some (.pointer (some ⟨d,0,none⟩)) /\ u.cell? ⟨b10,0,none⟩=some (.pointer (some ⟨l,0,none⟩)) /\ u.cell? ⟨l,4,none⟩=some (.int .i64 (L.segment:Nat))) 11 12 [0,1,2,3,4,5,6,7,8,9,10,11] (by kernel_rfl) rfl ?_
 have fac:∀ u,Keeps (fun k=>Fd k) w u -> (fun u:World=>u.cell? ⟨l,0,none⟩=some (.pointer (some ⟨d,0,none⟩)) /\ u.cell? ⟨b10,0,none⟩=some (.pointer (some ⟨l,0,none⟩)) /\ u.cell? ⟨l,4,none⟩=some (.int .i64 (L.segment:Nat))) u:=fun u hu =>
  ⟨(hu.cell (lt_of_cell c3) (H.out.apF l H.out.fl).1).trans c3,(hu.cell (lt_of_cell c10) OO.out.1).trans c10,(hu.cell (lt_of_cell cl) (H.out.apF l H.out.fl).1).trans cl⟩
 have FAC:=qq fac;have HS:=qq (fac w.drew (Keeps.refl _ w).drew);clear fac;refine WT.t 0 (v:=.pointer (some ⟨l,0,none⟩)) (y:=by rintro w ⟨C1,C2,C3⟩;exact zb (by kernel_rfl) (by rfl) C2) (s:=HS.out) (h:=?_);refine WT.t 1 (v:=_) (y:=by rintro w ⟨C1,C2,C3⟩;go_simp;with_reducible rfl) (s:=HS.out) (h:=?_);refine WT.t 2 (v:=_) (y:=by rintro w ⟨C1,C2,C3⟩;go_simp;with_reducible rfl) (s:=HS.out) (h:=?_);refine WT.t 3 (v:=.pointer (some ⟨d,0,none⟩)) (y:=by rintro w ⟨C1,C2,C3⟩;exact zb (by kernel_rfl) (by rfl) C1) (s:=HS.out) (h:=?_);refine WT.t 4 (v:=.pointer (some ⟨l,0,none⟩)) (y:=by rintro w ⟨C1,C2,C3⟩;exact zb (by kernel_rfl) (by rfl) C2) (s:=HS.out) (h:=?_);refine WT.t 5 (v:=.pointer (some ⟨l,0,none⟩)) (y:=by rintro w ⟨C1,C2,C3⟩;exact zb (by kernel_rfl) (by rfl) C2) (s:=HS.out) (h:=?_);refine WT.t 6 (v:=_) (y:=by rintro w ⟨C1,C2,C3⟩;go_simp;with_reducible rfl) (s:=HS.out) (h:=?_);refine WT.t 7 (v:=_) (y:=by rintro w ⟨C1,C2,C3⟩;go_simp;with_reducible rfl) (s:=HS.out) (h:=?_);refine WT.t 8 (v:=.int .i64 (L.segment:Nat)) (y:=by rintro w ⟨C1,C2,C3⟩;exact zb (by kernel_rfl) (by rfl) C3) (s:=HS.out) (h:=?_);refine WT.call 9 (by simp only [qi];rfl) (by kernel_rfl) (by rfl) (by go_simp;first | done | rfl | exact ⟨⟨rfl,rfl⟩,rfl⟩ | exact ⟨⟨rfl,rfl,rfl⟩,rfl⟩ | exact ⟨⟨rfl,rfl,rfl,rfl⟩,rfl⟩ | exact ⟨⟨rfl,rfl,rfl,rfl,rfl⟩,rfl⟩) SA.out ?_;rintro _ w1 ⟨rfl,k1⟩;have K1:Hid (Keeps Nb w w1):=qq (((Keeps.refl Nb w).drew).trans_nb k1);refine ⟨_,rfl,FAC.out w1 K1.out.of_nb,?_⟩;simp only [Nat.reduceAdd,qn];have MA:=qq (z42 d (sgf L.name L.segment) X.D Fd Rd X.fc w1 (H.out.disk.nb K1.out) (z17 h16 (by omega)) HP.out);refine WT.call 10 (by simp only [qi];rfl) (by kernel_rfl) (by rfl) (by go_simp;first | done | rfl | exact ⟨⟨rfl,rfl⟩,rfl⟩ | exact ⟨⟨rfl,rfl,rfl⟩,rfl⟩ | exact ⟨⟨rfl,rfl,rfl,rfl⟩,rfl⟩ | exact ⟨⟨rfl,rfl,rfl,rfl,rfl⟩,rfl⟩) MA.out ?_;rintro _ w2 ⟨er,D',fc',rfl,hn2,hr⟩;have ho:syO L.seg X er ⟨D',fc'⟩:=hr;have hk2:Keeps Fd w w2:=(K1.out.of_nb).trans (by obtain ⟨_,_,_,_,_,hk⟩:=hn2;exact hk) (fun _ _ e=>e);have F:=qq (OpE.disk (k:=1) H.out K1.out hn2 ho (z52 ho));have S2:=FAC.out w2 hk2;clear hn2 hr ho MA SA k1 HS;refine ⟨_,rfl,S2,?_⟩;simp only [Nat.reduceAdd,qn];refine WT.stop (by kernel_rfl) ?_;refine WP.o 11 (v:=_) (y:=by go_simp;first | with_reducible rfl | exact ⟨rfl,rfl⟩) (h:=?_);refine WP.done (by kernel_rfl) ?_;go_wp2;go_ret;exact F.out
theorem ap67_c (l d b10 b6:Nat) (L:Lg) (ad:Option Addr) (n c:Nat) (bs:List Nat):OpC l d L 1 ⟨67,#[],#[.pointer (some ⟨b10,0,none⟩),.pointer (some ⟨b6,0,none⟩)]⟩ (apO L.seg bs) (fun w a b=>LB b10 l w a b /\ YB b6 (.slice ad n c) bs w a b):=by
 rintro w Fd Rd FL RL X h hv ⟨⟨hb10,o10⟩,⟨⟨hb6,o6⟩,hy⟩⟩ hp;have OO:=qq (And.intro o10 o6);obtain ⟨sv,lv,hcs⟩:=h.cells;have c3:w.cell? ⟨l,0,none⟩=some (.pointer (some ⟨d,0,none⟩)):=(cell_of_block (hcs w (Keeps.refl _ _))).trans rfl;have c10:w.cell? ⟨b10,0,none⟩=some (.pointer (some ⟨l,0,none⟩)):=(cell_of_block hb10).trans rfl;have c6:w.cell? ⟨b6,0,none⟩=some (.slice ad n c):=(cell_of_block hb6).trans rfl;have cl:w.cell? ⟨l,4,none⟩=some (.int .i64 (L.segment:Nat)):=(cell_of_block (hcs w (Keeps.refl _ _))).trans rfl;have H:=qq h;have h16:=h.nums.n16;have hsg:=h.nums.segment;have HY:=qq hy;have SA:=qq (z0t l L.name L.segment w.drew (hv.nb (Keeps.refl Nb w).drew) ((cell_of_block (hcs w.drew (Keeps.refl Nb w).drew)).trans rfl) (by omega) (by omega));have HP:=qq (z0f hp (by omega));clear h hv hb10 hb6 hcs hp o10 o6 hy;show Calls Tryz.prog 67 #[.pointer (some ⟨b10,0,none⟩),.pointer (some ⟨b6,0,none⟩)] w _;go_enter Tryz.func67,Tryz.ntmps67;go_wp2;refine WT.region (fun u=>u.cell? ⟨l,0,none⟩=some (.pointer (some ⟨d,0,none⟩)) /\ u.cell? ⟨b10,0,none⟩=some (.pointer (some ⟨l,0,none⟩)) /\ u.cell? ⟨l,4,none⟩=some (.int .i64 (L.segment:Nat)) /\ u.cell? ⟨b6,0,none⟩=some (.slice ad n c)) 12 13 [0,1,2,3,4,5,6,7,8,10,9,11,12] (by kernel_rfl) rfl ?_
 have fac:∀ u,Keeps (fun k=>Fd k) w u -> (fun u:World=>u.cell? ⟨l,0,none⟩=some (.pointer (some ⟨d,0,none⟩)) /\ u.cell? ⟨b10,0,none⟩=some (.pointer (some ⟨l,0,none⟩)) /\ u.cell? ⟨l,4,none⟩=some (.int .i64 (L.segment:Nat)) /\ u.cell? ⟨b6,0,none⟩=some (.slice ad n c)) u:=fun u hu =>
  ⟨(hu.cell (lt_of_cell c3) (H.out.apF l H.out.fl).1).trans c3,(hu.cell (lt_of_cell c10) OO.out.1.1).trans c10,(hu.cell (lt_of_cell cl) (H.out.apF l H.out.fl).1).trans cl,(hu.cell (lt_of_cell c6) OO.out.2.1).trans c6⟩
 have FAC:=qq fac;have HS:=qq (fac w.drew (Keeps.refl _ w).drew);clear fac;refine WT.t 0 (v:=.pointer (some ⟨l,0,none⟩)) (y:=by rintro w ⟨C1,C2,C3,C4⟩;exact zb (by kernel_rfl) (by rfl) C2) (s:=HS.out) (h:=?_);refine WT.t 1 (v:=_) (y:=by rintro w ⟨C1,C2,C3,C4⟩;go_simp;with_reducible rfl) (s:=HS.out) (h:=?_);refine WT.t 2 (v:=_) (y:=by rintro w ⟨C1,C2,C3,C4⟩;go_simp;with_reducible rfl) (s:=HS.out) (h:=?_);refine WT.t 3 (v:=.pointer (some ⟨d,0,none⟩)) (y:=by rintro w ⟨C1,C2,C3,C4⟩;exact zb (by kernel_rfl) (by rfl) C1) (s:=HS.out) (h:=?_);refine WT.t 4 (v:=.pointer (some ⟨l,0,none⟩)) (y:=by rintro w ⟨C1,C2,C3,C4⟩;exact zb (by kernel_rfl) (by rfl) C2) (s:=HS.out) (h:=?_);refine WT.t 5 (v:=.pointer (some ⟨l,0,none⟩)) (y:=by rintro w ⟨C1,C2,C3,C4⟩;exact zb (by kernel_rfl) (by rfl) C2) (s:=HS.out) (h:=?_);refine WT.t 6 (v:=_) (y:=by rintro w ⟨C1,C2,C3,C4⟩;go_simp;with_reducible rfl) (s:=HS.out) (h:=?_);refine WT.t 7 (v:=_) (y:=by rintro w ⟨C1,C2,C3,C4⟩;go_simp;with_reducible rfl) (s:=HS.out) (h:=?_);refine WT.t 8 (v:=.int .i64 (L.segment:Nat)) (y:=by rintro w ⟨C1,C2,C3,C4⟩;exact zb (by kernel_rfl) (by rfl) C3) (s:=HS.out) (h:=?_);refine WT.t 10 (v:=.slice ad n c) (y:=by rintro w ⟨C1,C2,C3,C4⟩;exact zb (by kernel_rfl) (by rfl) C4) (s:=HS.out) (h:=?_);refine WT.call 9 (by simp only [qi];rfl) (by kernel_rfl) (by rfl) (by go_simp;first | done | rfl | exact ⟨⟨rfl,rfl⟩,rfl⟩ | exact ⟨⟨rfl,rfl,rfl⟩,rfl⟩ | exact ⟨⟨rfl,rfl,rfl,rfl⟩,rfl⟩ | exact ⟨⟨rfl,rfl,rfl,rfl,rfl⟩,rfl⟩) SA.out ?_;rintro _ w1 ⟨rfl,k1⟩;have K1:Hid (Keeps Nb w w1):=qq (((Keeps.refl Nb w).drew).trans_nb k1);refine ⟨_,rfl,FAC.out w1 K1.out.of_nb,?_⟩;simp only [Nat.reduceAdd,qn];have MA:=qq (zcv d (sgf L.name L.segment) (.slice ad n c) bs X.D Fd Rd (Out w Fd FL) X.fc w1 (H.out.disk.nb K1.out) (z17 h16 (by omega)) (HY.out.keeps K1.out (fun _ _ e=>e)) (fun k hk=>hk.2.1) HP.out);refine WT.call 11 (by simp only [qi];rfl) (by kernel_rfl) (by rfl) (by go_simp;first | done | rfl | exact ⟨⟨rfl,rfl⟩,rfl⟩ | exact ⟨⟨rfl,rfl,rfl⟩,rfl⟩ | exact ⟨⟨rfl,rfl,rfl,rfl⟩,rfl⟩ | exact ⟨⟨rfl,rfl,rfl,rfl,rfl⟩,rfl⟩) MA.out ?_;rintro _ w2 ⟨er,D',fc',rfl,hn2,hr⟩;have ho:apO L.seg bs X er ⟨D',fc'⟩:=hr;have hk2:Keeps Fd w w2:=(K1.out.of_nb).trans (by obtain ⟨_,_,_,_,_,hk⟩:=hn2;exact hk) (fun _ _ e=>e);have F:=qq (OpE.disk (k:=1) H.out K1.out hn2 ho (ze3 ho));have S2:=FAC.out w2 hk2;clear hn2 hr ho MA SA k1 HS;refine ⟨_,rfl,S2,?_⟩;simp only [Nat.reduceAdd,qn];refine WT.stop (by kernel_rfl) ?_;refine WP.o 12 (v:=_) (y:=by go_simp;first | with_reducible rfl | exact ⟨rfl,rfl⟩) (h:=?_);refine WP.done (by kernel_rfl) ?_;go_wp2;go_ret;exact F.out
theorem z9h (l d:Nat) (sv lv:Value) (L:Lg) (ad:Option Addr) (n c:Nat) (w:World) (h:w.heap[l]?=some (.cells (lcs d sv lv L) 78 (0,0))) :
  Calls Tryz.prog 66 #[.pointer (some ⟨l,0,none⟩),.slice ad n c] w fun e w'=>e=.returned (.int .i64 (mayE L n)) /\ w=w':=by
 have c0:w.cell? ⟨l,0,none⟩=some (.pointer (some ⟨d,0,none⟩)):=(cell_of_block h).trans rfl;have c11:w.cell? ⟨l,11,none⟩=some (.bool L.bad):=(cell_of_block h).trans rfl;obtain ⟨f,hf⟩:∃ f,mayE L n=f:=⟨_,rfl⟩
 rw [hf];have HF:=qq hf;clear h hf;have h0:f=if 1048576 < n then 3 else if L.bad=true then 19 else 0:=HF.out.symm
 have H0:=qq h0;clear h0;by_cases hn:1048576 < n
 ·
  have hn2:(1048576:Int) < n:=by omega
  have hf3:Hid (f=3):=qq (by rw [H0.out,if_pos hn]);go_enter Tryz.func66,Tryz.ntmps66;go_wp2;go_ret;exact ⟨by rw [hf3.out];rfl,rfl⟩
 ·
  have hn2:(n:Int) <= 1048576:=by omega
  cases hb:L.bad
  ·have hf3:Hid (f=0):=qq (by rw [H0.out,if_neg hn,hb];rfl);rw [hb] at c11;go_enter Tryz.func66,Tryz.ntmps66;go_wp2;go_ret;exact ⟨by rw [hf3.out];rfl,rfl⟩
  ·have hf3:Hid (f=19):=qq (by rw [H0.out,if_neg hn,hb];rfl);rw [hb] at c11;go_enter Tryz.func66,Tryz.ntmps66;go_wp2;go_ret;exact ⟨by rw [hf3.out];rfl,rfl⟩
end Go.Proofs.YtpjomdmjohjheaaGreatDoor
end
section
namespace Go.Proofs.YtpjomdmjohjheaaGreatDoor
open Go.RowKit Go.Lk Go.Vfs Go.Log
def LogD (w:World) (l d:Nat) (Fd Rd FL RL:Nat -> Prop) (L:Lg) (X:Ds) (k:Int) (r:Lg -> Ds -> Int -> Lg -> Ds -> Prop) (e:Ending) (w':World):Prop :=
 ∃ er L' Y,e=.returned (.int .i64 er) /\ LNow w w' l d Fd Rd FL RL L' Y /\ r L X er L' Y /\ pot Y <= pot X + k
theorem sync_l (l d b1:Nat) (L:Lg):OpL l d L (LB b1 l) [⟨70,#[],#[.pointer (some ⟨b1,0,none⟩)]⟩] [syO L.seg] [1]:=⟨sy70_c l d b1 L,enters_of Tryz.func70 (by kernel_rfl) rfl,by omega,trivial⟩
theorem zfc (l d:Nat) (Fd Rd FL RL:Nat -> Prop) (L:Lg) (X:Ds) (w:World) (h:LgAt w l d Fd Rd FL RL L X) (hv:Vars w) (hp:pot X + 1 <= 999999) :
  Calls Tryz.prog 22 #[.pointer (some ⟨l,0,none⟩)] w (LogD w l d Fd Rd FL RL L X 1 synR):=by
 have H:=qq h;have HV:=qq hv;have HP:=qq hp;clear h hv hp;go_enter Tryz.func22,Tryz.ntmps22;go_wp2_with (first | go_skip | (with_reducible refine zo (t:=40) ?_))
 refine za (vbox1 (v:=.pointer (some ⟨l,0,none⟩)) (by rfl) rfl ?_);intro b1 w1 n1;simp only [Nat.reduceAdd,qn];have B1:=qq n1.blk;have G1:Hid (w.heap.size <= b1 /\ b1 < w1.heap.size):=qq ⟨n1.ge,n1.lt⟩;have K1:=qq n1.k;clear n1;have H1:=qq (H.out.nb K1.out);obtain ⟨sv,lv,vs,q1,-⟩:=H1.out.ex;have MA:=qq (z9h l d sv lv L none 0 0 w1 q1);have c1:w1.cell? ⟨b1,0,none⟩=some (.pointer (some ⟨l,0,none⟩)):=(cell_of_block B1.out).trans rfl;have hb1l:b1 ≠ l:=fun e=>by have:=H.out.ltF l H.out.fl;have:=G1.out;omega
 obtain ⟨f,hf⟩:∃ f,mayE L 0=f:=⟨_,rfl⟩
 rw [hf] at MA;have HF:=qq hf;clear hf q1;go_wp2_with fail;refine MA.out.mono ?_;rintro _ _ ⟨rfl,rfl⟩;clear MA;by_cases h0:f=0
 ·
  subst h0;go_wp2_with (first | go_skip | (with_reducible refine qv (by decide) ?_))
  refine za (zj rfl (zl el138 [.func (.func 70) #[] #[.pointer (some ⟨b1,0,none⟩)]] rfl (by simp [List.range'_succ];first | done | rfl | exact ⟨rfl,rfl⟩ | exact ⟨rfl,rfl,rfl⟩ | exact ⟨rfl,rfl,rfl,rfl⟩ | exact ⟨rfl,rfl,rfl,rfl,rfl⟩ | exact ⟨rfl,rfl,rfl,rfl,rfl,rfl⟩) (by simp [Value.cells]) (by simp)) ?_);rintro _ w2 ⟨b9,rfl,n9⟩;simp only [Nat.reduceAdd,qn];have hrow:Has w2 (some ⟨b9,0,none⟩) ([(⟨70,#[],#[.pointer (some ⟨b1,0,none⟩)]⟩:Fv)].map Fv.v):=zm n9.blk;have hP:LB b1 l w2 Fd FL:=⟨n9.k.nb B1.out,zt H.out G1.out.1⟩
  have AR:=qq (z1a (n:=1) (zu _ _) (sync_l l d b1 L) (H1.out.nb n9.k) ((HV.out.nb K1.out).nb n9.k) hP rfl (by omega) (by have:=HP.out;simpa using this) hrow (zt H1.out n9.ge));have K12:=qq n9.k;clear hP hrow n9 c1;go_wp2_with fail;refine AR.out.mono ?_;rintro e w3 ⟨er2,Y,L',rfl,hnow,hask,hL',hpot⟩;have hnow1:=(hnow.from K12.out).from K1.out;obtain ⟨Fd',Rd',FL',RL',g1,g2,g3,g4,g5,g6⟩:=hnow1;have hsy:syO L.seg X er2 Y:=by
   obtain ⟨e1,Z,h1,h2⟩:=hask;rcases h2 with ⟨-,rfl,rfl⟩ | ⟨rfl,rfl,rfl⟩
   ·exact h1
   ·exact h1
  have B13:=qq (show w3.heap[b1]?=some (.cells #[.pointer (some ⟨l,0,none⟩)] 40 (0,0)) by
   obtain ⟨_,_,_,_,_,_,_,_,_,hk⟩:=hnow;have hn:=zt H.out G1.out.1
   exact hk.at (K12.out.nb B1.out) (fun e=>e.elim hn.1 hn.2))
  have hpo:pot Y <= pot X + 1:=by simpa using hpot
  by_cases he:er2=0
  ·
   subst he;have e2:L'=L:=by rw [hL',if_pos rfl]
   subst e2;obtain ⟨sv3,lv3,vs3,q1,q2,q3,q4⟩:=g1.ex;obtain ⟨-,-,la,lc,rfl,-⟩:=id q3;have Q1:=qq q1;have HG1:=qq g1;have HSY:=qq hsy;have HPO:=qq hpo;have HR:=qq (And.intro g2 (And.intro g3 (And.intro g4 (And.intro g5 g6))));clear q1 q2 q3 q4 g1 g2 g3 g4 g5 g6 hsy hpo hnow hask hL' hpot AR;have c13:w3.cell? ⟨b1,0,none⟩=some (.pointer (some ⟨l,0,none⟩)):=(cell_of_block B13.out).trans rfl;have c93:w3.cell? ⟨l,9,none⟩=some (.slice la L'.recs.length lc):=(cell_of_block Q1.out).trans rfl;go_wp2;refine WT.region (fun u=>u.cell? ⟨b1,0,none⟩=some (.pointer (some ⟨l,0,none⟩)) /\ u.cell? ⟨l,9,none⟩=some (.slice la L'.recs.length lc)) 6 9 [0,1,2,3,4,5,6,7,8] (by kernel_rfl) rfl ?_;have HS:Hid ((fun u:World=>u.cell? ⟨b1,0,none⟩=some (.pointer (some ⟨l,0,none⟩)) /\ u.cell? ⟨l,9,none⟩=some (.slice la L'.recs.length lc)) w3.drew):=qq ⟨c13,c93⟩;refine WT.t 0 (v:=.pointer (some ⟨l,0,none⟩)) (y:=by rintro w ⟨C1,C2⟩;exact zb (by kernel_rfl) (by rfl) C1) (s:=HS.out) (h:=?_);refine WT.t 1 (v:=.pointer (some ⟨l,0,none⟩)) (y:=by rintro w ⟨C1,C2⟩;exact zb (by kernel_rfl) (by rfl) C1) (s:=HS.out) (h:=?_);refine WT.t 2 (v:=_) (y:=by rintro w ⟨C1,C2⟩;go_simp;with_reducible rfl) (s:=HS.out) (h:=?_);refine WT.t 3 (v:=_) (y:=by rintro w ⟨C1,C2⟩;go_simp;with_reducible rfl) (s:=HS.out) (h:=?_);refine WT.t 4 (v:=.slice la L'.recs.length lc) (y:=by rintro w ⟨C1,C2⟩;exact zb (by kernel_rfl) (by rfl) C2) (s:=HS.out) (h:=?_);refine WT.t 5 (v:=_) (y:=by rintro w ⟨C1,C2⟩;go_simp;with_reducible rfl) (s:=HS.out) (h:=?_);refine WT.stop (by kernel_rfl) ?_;refine WP.o 6 (v:=_) (y:=by go_simp;first | with_reducible rfl | exact ⟨rfl,rfl⟩) (h:=?_);refine WP.o 7 (v:=_) (y:=by go_simp;first | with_reducible rfl | exact ⟨rfl,rfl⟩) (h:=?_);refine WP.onlySkipE 8 (by simp only [qi];rfl) (by kernel_rfl) (by rfl) (zd (w:=w3.drew) (v:=.int .i64 (L'.recs.length:Nat)) (n:=1) (by kernel_rfl) (by rfl) (by rfl) Q1.out (by rfl) (by simp [Value.cells,lcs]) (by simp [Value.cells,Value.oneCell'])) ?_;intro w4 s4;simp only [Nat.reduceAdd,qn];refine WP.done (by kernel_rfl) ?_;have S4:SetAt w3 w4 l (.cells (lcs d sv3 (.slice la L'.recs.length lc) { L' with synced:=L'.recs.length }) 78 (0,0)):=⟨s4.blk,(Keeps.refl (·=l) w3).drew.trans s4.k (fun _ _ e=>e)⟩
   have hg4:LgAt w4 l d Fd' Rd' FL' RL' { L' with synced:=L'.recs.length } Y:=by
    have hh:=HG1.out.nums;exact HG1.out.setL Q1.out S4 rfl rfl rfl ⟨hh.name,hh.n16,hh.most,hh.first,hh.segment,hh.segments,hh.size,hh.recs,hh.nrec,hh.snap⟩
   have F:Hid (LNow w w4 l d Fd Rd FL RL { L' with synced:=L'.recs.length } Y):=qq (by
    obtain ⟨g2,g3,g4,g5,g6⟩:=HR.out
    exact ⟨Fd',Rd',FL',RL',hg4,g2,g3,g4,g5,g6.trans S4.k (fun j hj e=>by
     have e:j=l:=e;subst e
     exact .inr H.out.fl)⟩)
   clear s4 S4 hg4 HS c13 c93;go_wp2;go_ret;exact ⟨0,_,Y,rfl,F.out,.inr ⟨HF.out,HSY.out,.inr ⟨rfl,rfl⟩⟩,HPO.out⟩
  ·
   have e2:L'={ L with bad:=true }:=by rw [hL',if_neg he]
   subst e2;have F:Hid (LNow w w3 l d Fd Rd FL RL { L with bad:=true } Y):=qq ⟨Fd',Rd',FL',RL',g1,g2,g3,g4,g5,g6⟩;have HSY:=qq hsy;have HPO:=qq hpo;have HE:=qq he;have t9:(er2 != 0)=true:=by simpa using he
   clear g1 g2 g3 g4 g5 g6 hsy hpo hnow hask hL' hpot AR he;go_wp2;go_ret;exact ⟨er2,_,Y,rfl,F.out,.inr ⟨HF.out,HSY.out,.inl ⟨HE.out,rfl⟩⟩,HPO.out⟩
 ·
  have t9:(f != 0)=true:=by simpa using h0
  have HE:=qq h0;have F:Hid (LNow w w1 l d Fd Rd FL RL L X):=qq (LNow.of H1.out K1.out);clear h0 c1;go_wp2;go_ret;exact ⟨f,L,X,rfl,F.out,.inl ⟨by rw [HF.out];exact HE.out,HF.out.symm,rfl,rfl⟩,by omega⟩
end Go.Proofs.YtpjomdmjohjheaaGreatDoor
end
section
namespace Go.Proofs.YtpjomdmjohjheaaGreatDoor
open Go.RowKit Go.Lk Go.Vfs Go.Log
theorem z1z {f:Int} (hf:f ≠ 0) {o:Log.Op} {l l':List Log.Op} {X Y:Ds} {e:Int} (h:askO (o :: erO f :: l) X e Y):askO (o :: erO f :: l') X e Y /\ e ≠ 0:=by
 obtain ⟨e1,Z,h1,h2⟩:=h;rcases h2 with ⟨h2,h3,h4⟩ | ⟨h2,h3⟩
 ·exact ⟨⟨e1,Z,h1,.inl ⟨h2,h3,h4⟩⟩,by rw [h3];exact h2⟩
 ·have:=zam (l':=l') hf h3;exact ⟨⟨e1,Z,h1,.inr ⟨h2,this.1⟩⟩,by rw [this.2];exact hf⟩
def OnP (l n b1 b3 b4:Nat) (f:Int):World -> (Nat -> Prop) -> (Nat -> Prop) -> Prop:=fun w a b=>LB b1 l w a b /\ NB b3 n w a b /\ EB b4 f w a b
theorem zc9 (l n b1 b3 b4:Nat) (f:Int):Stable (OnP l n b1 b3 b4 f):=(zu _ _).and ((zu _ _).and (zu _ _))
def onF (d b1 b3 b4:Nat):List Fv:=[⟨123,#[],#[.pointer (some ⟨b1,0,none⟩)]⟩,⟨124,#[],#[.pointer (some ⟨b4,0,none⟩)]⟩,⟨125,#[],#[.pointer (some ⟨b1,0,none⟩),.pointer (some ⟨b3,0,none⟩)]⟩,⟨64,#[.pointer (some ⟨d,0,none⟩)],#[]⟩]
theorem on_l (l d n b1 b3 b4:Nat) (f:Int) (L:Lg) (hn:n <= 4294967296):OpL l d L (OnP l n b1 b3 b4 f) (onF d b1 b3 b4) [syO L.seg,erO f,mkO (sgf L.name n),sdO] [1,0,3,1] :=
 ⟨(zii l d b1 L).mono (fun _ _ _ h=>h.1),enters_of Tryz.func123 (by kernel_rfl) rfl,by omega,(zew l d b4 f L).mono (fun _ _ _ h=>h.2.2),enters_of Tryz.func124 (by kernel_rfl) rfl,by omega,(zhl l d b1 b3 n L (by omega)).mono (fun _ _ _ h=>⟨h.1,h.2.1⟩),enters_of Tryz.func125 (by kernel_rfl) rfl,by omega,z74 l d L _,enters_of Tryz.func64 (by kernel_rfl) rfl,by omega,trivial⟩
theorem on_at (l d:Nat) (Fd Rd FL RL:Nat -> Prop) (L:Lg) (X:Ds) (w:World) (h:LgAt w l d Fd Rd FL RL L X) (hv:Vars w) (hp:pot X + 5 <= 999999) (hsg:L.segments < 1000000) :
  Calls Tryz.prog 69 #[.pointer (some ⟨l,0,none⟩)] w (LogD w l d Fd Rd FL RL L X 5 onR):=by
 have H:=qq h;have HV:=qq hv;have HP:=qq hp;have HSG:=qq hsg;clear h hv hp hsg;go_enter Tryz.func69,Tryz.ntmps69;go_wp2_with (first | go_skip | (with_reducible refine zo (t:=40) ?_))
 refine za (vbox1 (v:=.pointer (some ⟨l,0,none⟩)) (by rfl) rfl ?_);intro b1 w1 n1;simp only [Nat.reduceAdd,qn];have B1:=qq n1.blk;have G1:Hid (w.heap.size <= b1 /\ b1 < w1.heap.size):=qq ⟨n1.ge,n1.lt⟩;have K1:=qq n1.k;clear n1;have H1:=qq (H.out.nb K1.out);have HV1:=qq (HV.out.nb K1.out);have NX:=qq (z7p l d Fd Rd FL RL L X w1 H1.out HV1.out);have c1:w1.cell? ⟨b1,0,none⟩=some (.pointer (some ⟨l,0,none⟩)):=(cell_of_block B1.out).trans rfl;have hnxb:nxN L.name X <= 2147483647 /\ (nxE L.name X=0 -> nxN L.name X=nx L.name X + 1) /\ (nxE L.name X=0 \/ nxE L.name X=5):=by
  unfold nxN nxE mxn;split
  ·exact ⟨by omega,by simp,.inr rfl⟩
  ·exact ⟨by omega,by simp,.inl rfl⟩
 generalize hn:nxN L.name X=n at NX hnxb;generalize hf:nxE L.name X=f at NX hnxb;have HF:=qq hf;have HNX:=qq hnxb;have hn31:=hnxb.1;clear hn hf hnxb;go_wp2_with fail;refine NX.out.mono ?_;rintro _ w8 ⟨rfl,k8⟩;go_wp2_with (first | go_skip | (with_reducible refine qv (by decide) ?_))
 refine za (valloc (z:=.int .i64 0) (by kernel_rfl) ?_);intro b3 w9 n9;simp only [Nat.reduceAdd,qn];go_wp2_with (first | go_skip | (with_reducible refine qv (by decide) ?_))
 refine za (valloc (z:=.int .i64 0) (by kernel_rfl) ?_);intro b4 w10 n10;simp only [Nat.reduceAdd,qn];go_wp2_with (first | go_skip | (with_reducible refine qv (by decide) ?_))
 refine za (zc rfl (zd (v:=.int .i64 (n:Nat)) (n:=1) (by kernel_rfl) (by rfl) (by rfl) (n10.k.nb n9.blk) (by rfl) (by simp [Value.cells]) (by simp [Value.cells,Value.oneCell'])) ?_);intro w11 s11;simp only [Nat.reduceAdd,qn];go_wp2_with (first | go_skip | (with_reducible refine qv (by decide) ?_))
 refine za (zc rfl (zd (v:=.int .i64 f) (n:=1) (by kernel_rfl) (by rfl) (by rfl) (s11.k.at n10.blk (fun e=>by have:=n9.lt;have:=n10.ge;omega)) (by rfl) (by simp [Value.cells]) (by simp [Value.cells,Value.oneCell'])) ?_);intro w12 s12;simp only [Nat.reduceAdd,qn];have h34:b3 < b4:=by have:=n9.lt;have:=n10.ge;omega
 have B4:=qq s12.blk;have B3:=qq (s12.k.at s11.blk (fun e=>by omega));have hz8:=k8.size;have G3:Hid (w1.heap.size <= b3 /\ b3 < b4 /\ b4 < w12.heap.size):=qq ⟨by have:=n9.ge;omega,h34,lt_of_block s12.blk⟩;have K112:Hid (Keeps Nb w1 w12):=qq ((((k8.trans_nb n9.k).trans_nb n10.k).own (k:=b3) (by have:=n9.ge;omega) s11.k).own (k:=b4) (by have:=n9.ge;omega) s12.k);have B112:=qq (K112.out.nb B1.out);have H12:=qq (H1.out.nb K112.out);have K12:=qq (K1.out.trans_nb K112.out);obtain ⟨sv,lv,hcs⟩:=H12.out.cells;have HC:=qq hcs;clear k8 n9 n10 s11 s12 NX c1 hz8 h34 hcs
 have NOF:Hid ((¬ Fd b1 /\ ¬ FL b1) /\ (¬ Fd b3 /\ ¬ FL b3) /\ (¬ Fd b4 /\ ¬ FL b4) /\ b1 ≠ l /\ b3 ≠ l):=qq (by
  have h1:=G1.out;have h2:=G3.out;have h3:=H.out.ltF l H.out.fl
  exact ⟨zt H.out (by omega),zt H.out (by omega),zt H.out (by omega),by omega,by omega⟩)
 go_wp2;refine WT.region (fun u=>u.cell? ⟨b1,0,none⟩=some (.pointer (some ⟨l,0,none⟩)) /\ u.cell? ⟨l,0,none⟩=some (.pointer (some ⟨d,0,none⟩))) 11 12 [0,1,2,3,4,5,6,7,8,9,10,11] (by kernel_rfl) rfl ?_;have K0:Hid (Keeps Nb w12 w12.drew):=qq (Keeps.refl _ w12).drew;have HS:Hid ((fun u:World=>u.cell? ⟨b1,0,none⟩=some (.pointer (some ⟨l,0,none⟩)) /\ u.cell? ⟨l,0,none⟩=some (.pointer (some ⟨d,0,none⟩))) w12.drew):=qq ⟨(cell_of_block (K0.out.nb B112.out)).trans rfl,(cell_of_block (HC.out _ K0.out)).trans rfl⟩;refine WT.t 0 (v:=.pointer (some ⟨l,0,none⟩)) (y:=by rintro w ⟨C1,C2⟩;exact zb (by kernel_rfl) (by rfl) C1) (s:=HS.out) (h:=?_);refine WT.t 1 (v:=_) (y:=by rintro w ⟨C1,C2⟩;go_simp;with_reducible rfl) (s:=HS.out) (h:=?_);refine WT.t 2 (v:=_) (y:=by rintro w ⟨C1,C2⟩;go_simp;with_reducible rfl) (s:=HS.out) (h:=?_);refine WT.t 3 (v:=_) (y:=by rintro w ⟨C1,C2⟩;go_simp;with_reducible rfl) (s:=HS.out) (h:=?_);refine WT.t 4 (v:=.pointer (some ⟨l,0,none⟩)) (y:=by rintro w ⟨C1,C2⟩;exact zb (by kernel_rfl) (by rfl) C1) (s:=HS.out) (h:=?_);refine WT.t 5 (v:=_) (y:=by rintro w ⟨C1,C2⟩;go_simp;with_reducible rfl) (s:=HS.out) (h:=?_);refine WT.t 6 (v:=_) (y:=by rintro w ⟨C1,C2⟩;go_simp;with_reducible rfl) (s:=HS.out) (h:=?_);refine WT.t 7 (v:=.pointer (some ⟨d,0,none⟩)) (y:=by rintro w ⟨C1,C2⟩;exact zb (by kernel_rfl) (by rfl) C2) (s:=HS.out) (h:=?_);refine WT.t 8 (v:=_) (y:=by rintro w ⟨C1,C2⟩;go_simp;with_reducible rfl) (s:=HS.out) (h:=?_);refine WT.o 9 (y:=zl el138 ((onF d b1 b3 b4).map Fv.v) rfl (by simp [List.range'_succ];first | done | rfl | exact ⟨rfl,rfl⟩ | exact ⟨rfl,rfl,rfl⟩ | exact ⟨rfl,rfl,rfl,rfl⟩ | exact ⟨rfl,rfl,rfl,rfl,rfl⟩ | exact ⟨rfl,rfl,rfl,rfl,rfl,rfl⟩) (by simp [Value.cells,onF,Fv.v]) (by simp [onF])) (h:=?_);rintro _ w13 ⟨b20,rfl,n13⟩;simp only [Nat.reduceAdd,qn];have N13:Hid (Keeps Nb w12 w13):=qq (K0.out.trans_nb n13.k);have hP:OnP l n b1 b3 b4 f w13 Fd FL:=⟨⟨N13.out.nb B112.out,NOF.out.1⟩,⟨N13.out.nb B3.out,NOF.out.2.1⟩,⟨N13.out.nb B4.out,NOF.out.2.2.1⟩⟩
 have hrow:Has w13 (some ⟨b20,0,none⟩) ((onF d b1 b3 b4).map Fv.v):=zm n13.blk;have AR:=qq (z1a (n:=4) (zc9 l n b1 b3 b4 f) (on_l l d n b1 b3 b4 f L (by omega)) (H12.out.nb N13.out) ((HV1.out.nb K112.out).nb N13.out) hP rfl (by omega) (by have:=HP.out;simpa using this) hrow (zt H12.out n13.ge));clear hP hrow n13;refine ⟨⟨(cell_of_block (N13.out.nb B112.out)).trans rfl,(cell_of_block (HC.out _ N13.out)).trans rfl⟩,?_⟩;refine WT.call 10 (by simp only [qi];rfl) (by kernel_rfl) (by rfl) (by go_simp;first | done | rfl | exact ⟨⟨rfl,rfl⟩,rfl⟩ | exact ⟨⟨rfl,rfl,rfl⟩,rfl⟩ | exact ⟨⟨rfl,rfl,rfl,rfl⟩,rfl⟩ | exact ⟨⟨rfl,rfl,rfl,rfl,rfl⟩,rfl⟩) AR.out ?_;rintro e w14 ⟨er2,Y,L',rfl,hnow,hask,hL',hpot⟩;have hnow1:=(hnow.from N13.out).from K12.out;obtain ⟨Fd',Rd',FL',RL',g1,g2,g3,g4,g5,g6⟩:=hnow1;have hk14:Keeps (fun k=>Fd k \/ FL k) w13 w14:=by obtain ⟨_,_,_,_,_,_,_,_,_,hk⟩:=hnow;exact hk
 have B114:=qq (hk14.at (N13.out.nb B112.out) (fun e=>e.elim NOF.out.1.1 NOF.out.1.2));have B314:=qq (hk14.at (N13.out.nb B3.out) (fun e=>e.elim NOF.out.2.1.1 NOF.out.2.1.2));obtain ⟨sv3,lv3,vs3,q1,q2,q3,q4⟩:=g1.ex;obtain ⟨-,-,la,lc,rfl,-⟩:=id q3;have Q1:=qq q1;refine ⟨_,rfl,⟨(cell_of_block B114.out).trans rfl,(cell_of_block q1).trans rfl⟩,?_⟩;simp only [Nat.reduceAdd,qn];have hpo:pot Y <= pot X + 5:=by simpa using hpot
 have HPO:=qq hpo;have HASK:=qq hask;have HL':=qq hL';have HG1:=qq g1;have HR:=qq (And.intro g2 (And.intro g3 (And.intro g4 (And.intro g5 g6))));clear q1 q2 q3 q4 g1 g2 g3 g4 g5 g6 hpo hnow hask hL' hpot AR hk14 HS;refine WT.stop (by kernel_rfl) ?_;refine WP.o 11 (v:=_) (y:=by go_simp;first | with_reducible rfl | exact ⟨rfl,rfl⟩) (h:=?_);refine WP.done (by kernel_rfl) ?_;by_cases he:er2=0
 ·
  subst he;have e2:L'=L:=by rw [HL'.out,if_pos rfl]
  subst e2;have hf0:f=0 /\ n=nx L'.name X + 1:=by
   rcases HNX.out.2.2 with h0 | h0
   ·exact ⟨h0,HNX.out.2.1 h0⟩
   ·exact absurd rfl (z1z (l':=[]) (by rw [h0];decide) HASK.out).2
  have HF0:=qq hf0;clear hf0;go_wp2;refine WT.region (fun u=>u.cell? ⟨b1,0,none⟩=some (.pointer (some ⟨l,0,none⟩)) /\ u.cell? ⟨b3,0,none⟩=some (.int .i64 (n:Nat)) /\ u.cell? ⟨l,9,none⟩=some (.slice la L'.recs.length lc)) 15 18 [0,1,2,3,4,5,6,7,8,9,10,11,12,13,14,15,16,17] (by kernel_rfl) rfl ?_;have HS:Hid ((fun u:World=>u.cell? ⟨b1,0,none⟩=some (.pointer (some ⟨l,0,none⟩)) /\ u.cell? ⟨b3,0,none⟩=some (.int .i64 (n:Nat)) /\ u.cell? ⟨l,9,none⟩=some (.slice la L'.recs.length lc)) w14.drew):=qq ⟨(cell_of_block (w:=w14.drew) B114.out).trans rfl,(cell_of_block (w:=w14.drew) B314.out).trans rfl,(cell_of_block (w:=w14.drew) Q1.out).trans rfl⟩;refine WT.t 0 (v:=.pointer (some ⟨l,0,none⟩)) (y:=by rintro w ⟨C1,C2,C3⟩;exact zb (by kernel_rfl) (by rfl) C1) (s:=HS.out) (h:=?_);refine WT.t 1 (v:=.pointer (some ⟨l,0,none⟩)) (y:=by rintro w ⟨C1,C2,C3⟩;exact zb (by kernel_rfl) (by rfl) C1) (s:=HS.out) (h:=?_);refine WT.t 2 (v:=.pointer (some ⟨l,0,none⟩)) (y:=by rintro w ⟨C1,C2,C3⟩;exact zb (by kernel_rfl) (by rfl) C1) (s:=HS.out) (h:=?_);refine WT.t 3 (v:=.int .i64 (n:Nat)) (y:=by rintro w ⟨C1,C2,C3⟩;exact zb (by kernel_rfl) (by rfl) C2) (s:=HS.out) (h:=?_);refine WT.t 4 (v:=.pointer (some ⟨l,0,none⟩)) (y:=by rintro w ⟨C1,C2,C3⟩;exact zb (by kernel_rfl) (by rfl) C1) (s:=HS.out) (h:=?_);refine WT.t 5 (v:=_) (y:=by rintro w ⟨C1,C2,C3⟩;go_simp;with_reducible rfl) (s:=HS.out) (h:=?_);refine WT.t 6 (v:=_) (y:=by rintro w ⟨C1,C2,C3⟩;go_simp;with_reducible rfl) (s:=HS.out) (h:=?_);refine WT.t 7 (v:=.slice la L'.recs.length lc) (y:=by rintro w ⟨C1,C2,C3⟩;exact zb (by kernel_rfl) (by rfl) C3) (s:=HS.out) (h:=?_);refine WT.t 8 (v:=_) (y:=by rintro w ⟨C1,C2,C3⟩;go_simp;with_reducible rfl) (s:=HS.out) (h:=?_);refine WT.t 9 (v:=_) (y:=by rintro w ⟨C1,C2,C3⟩;go_simp;with_reducible rfl) (s:=HS.out) (h:=?_);refine WT.t 10 (v:=_) (y:=by rintro w ⟨C1,C2,C3⟩;go_simp;with_reducible rfl) (s:=HS.out) (h:=?_);refine WT.onlySkipE 11 (by simp only [qi];rfl) (by kernel_rfl) (by rfl) (zd (w:=w14.drew) (v:=.int .i64 (n:Nat)) (n:=1) (by kernel_rfl) (by rfl) (by rfl) Q1.out (by rfl) (by simp [Value.cells,lcs]) (by simp [Value.cells,Value.oneCell'])) ?_;intro w15 s15;have B115:=qq (s15.k.at (w:=w14.drew) B114.out NOF.out.2.2.2.1);have B315:=qq (s15.k.at (w:=w14.drew) B314.out NOF.out.2.2.2.2);replace HS:Hid ((fun u:World=>u.cell? ⟨b1,0,none⟩=some (.pointer (some ⟨l,0,none⟩)) /\ u.cell? ⟨b3,0,none⟩=some (.int .i64 (n:Nat)) /\ u.cell? ⟨l,9,none⟩=some (.slice la L'.recs.length lc)) w15):=qq ⟨(cell_of_block B115.out).trans rfl,(cell_of_block B315.out).trans rfl,(cell_of_block s15.blk).trans rfl⟩;refine ⟨HS.out,?_⟩;simp only [Nat.reduceAdd,qn];refine WT.t 12 (v:=_) (y:=by rintro w ⟨C1,C2,C3⟩;go_simp;with_reducible rfl) (s:=HS.out) (h:=?_);refine WT.t 13 (v:=_) (y:=by rintro w ⟨C1,C2,C3⟩;go_simp;with_reducible rfl) (s:=HS.out) (h:=?_);refine WT.onlySkipE 14 (by simp only [qi];rfl) (by kernel_rfl) (by rfl) (zd (v:=.int .i64 0) (n:=1) (by kernel_rfl) (by rfl) (by rfl) s15.blk (by rfl) (by simp [Value.cells,lcs,splice]) (by simp [Value.cells,Value.oneCell'])) ?_;intro w16 s16;have B116:=qq (s16.k.at B115.out NOF.out.2.2.2.1);have B316:=qq (s16.k.at B315.out NOF.out.2.2.2.2);replace HS:Hid ((fun u:World=>u.cell? ⟨b1,0,none⟩=some (.pointer (some ⟨l,0,none⟩)) /\ u.cell? ⟨b3,0,none⟩=some (.int .i64 (n:Nat)) /\ u.cell? ⟨l,9,none⟩=some (.slice la L'.recs.length lc)) w16):=qq ⟨(cell_of_block B116.out).trans rfl,(cell_of_block B316.out).trans rfl,(cell_of_block s16.blk).trans rfl⟩;refine ⟨HS.out,?_⟩;simp only [Nat.reduceAdd,qn];refine WT.stop (by kernel_rfl) ?_;refine WP.o 15 (v:=_) (y:=by go_simp;first | with_reducible rfl | exact ⟨rfl,rfl⟩) (h:=?_);refine WP.o 16 (v:=_) (y:=by go_simp;first | with_reducible rfl | exact ⟨rfl,rfl⟩) (h:=?_);refine WP.onlySkipE 17 (by simp only [qi];rfl) (by kernel_rfl) (by rfl) (zd (v:=.int .i64 (L'.recs.length:Nat)) (n:=1) (by kernel_rfl) (by rfl) (by rfl) s16.blk (by rfl) (by simp [Value.cells,lcs,splice]) (by simp [Value.cells,Value.oneCell'])) ?_;intro w17 s17;simp only [Nat.reduceAdd,qn];refine WP.done (by kernel_rfl) ?_;have S17:SetAt w14 w17 l (.cells (lcs d sv3 (.slice la L'.recs.length lc) { L' with segment:=n,size:=0,synced:=L'.recs.length }) 78 (0,0)):=⟨s17.blk,(((Keeps.refl (·=l) w14).drew.trans s15.k (fun _ _ e=>e)).trans s16.k (fun _ _ e=>e)).trans s17.k (fun _ _ e=>e)⟩
  have HS17:=qq S17;have B117:=qq (s17.k.at B116.out NOF.out.2.2.2.1);have c117:w17.cell? ⟨b1,0,none⟩=some (.pointer (some ⟨l,0,none⟩)):=(cell_of_block B117.out).trans rfl;have c517:w17.cell? ⟨l,5,none⟩=some (.int .i64 (L'.segments:Nat)):=(cell_of_block S17.blk).trans rfl;have iw:IntKind.i64.wrap ((L'.segments:Int) + 1)=(L'.segments:Int) + 1:=IntWalk.i64_in _ (by have:=HSG.out;omega);clear s15 s16 s17 S17 HS;go_wp2_with (first | go_skip | (with_reducible refine qv (by decide) ?_))
  refine za (zc rfl (zd (v:=.int .i64 ((L'.segments + 1:Nat):Int)) (n:=1) (by kernel_rfl) (by rfl) (by rfl) HS17.out.blk (by rfl) (by simp [Value.cells,lcs]) (by simp [Value.cells,Value.oneCell'])) ?_);intro w18 s18;simp only [Nat.reduceAdd,qn];have S18:SetAt w14 w18 l (.cells (lcs d sv3 (.slice la L'.recs.length lc) { L' with segment:=n,size:=0,synced:=L'.recs.length,segments:=L'.segments + 1 }) 78 (0,0)):=⟨s18.blk,HS17.out.k.trans s18.k (fun _ _ e=>e)⟩
  have hg4:LgAt w18 l d Fd' Rd' FL' RL' { L' with segment:=n,size:=0,synced:=L'.recs.length,segments:=L'.segments + 1 } Y:=by
   have hh:=HG1.out.nums;exact HG1.out.setL Q1.out S18 rfl rfl rfl ⟨hh.name,hh.n16,hh.most,hh.first,(by show n <= _;omega),HSG.out,Nat.zero_le _,hh.recs,hh.nrec,hh.snap⟩
  have F:Hid (LNow w w18 l d Fd Rd FL RL { L' with segment:=n,size:=0,synced:=L'.recs.length,segments:=L'.segments + 1 } Y):=qq (by
   obtain ⟨g2,g3,g4,g5,g6⟩:=HR.out
   exact ⟨Fd',Rd',FL',RL',hg4,g2,g3,g4,g5,g6.trans S18.k (fun j hj e=>by
    have e:j=l:=e;subst e
    exact .inr H.out.fl)⟩)
  clear s18 S18 hg4 c117 c517;go_wp2;go_ret;refine ⟨0,_,Y,rfl,F.out,⟨?_,.inr ⟨rfl,?_⟩⟩,HPO.out⟩
  ·rw [HF.out,<- HF0.out.2];exact HASK.out
  ·rw [<- HF0.out.2]
 ·
  have e2:L'={ L with bad:=true }:=by rw [HL'.out,if_neg he]
  subst e2;have F:Hid (LNow w w14 l d Fd Rd FL RL { L with bad:=true } Y):=qq ⟨Fd',Rd',FL',RL',HG1.out,HR.out⟩;have HE:=qq he;have t9:(er2 != 0)=true:=by simpa using he
  have hor:askO [syO L.seg,erO (nxE L.name X),mkO (sgf L.name (nx L.name X + 1)),sdO] X er2 Y:=by
   rcases HNX.out.2.2 with h0 | h0
   ·rw [HF.out,<- HNX.out.2.1 h0];exact HASK.out
   ·rw [HF.out];exact (z1z (by rw [h0];decide) HASK.out).1
  have HO:=qq hor;clear he hor;go_wp2;go_ret;exact ⟨er2,_,Y,rfl,F.out,⟨HO.out,.inl ⟨HE.out,rfl⟩⟩,HPO.out⟩
end Go.Proofs.YtpjomdmjohjheaaGreatDoor
end
section
namespace Go.Proofs.YtpjomdmjohjheaaGreatDoor
open Go.RowKit Go.Lk Go.Vfs Go.Log
def ApP (l b2 b6:Nat) (v:Value) (bs:List Nat):World -> (Nat -> Prop) -> (Nat -> Prop) -> Prop:=fun w a b=>LB b2 l w a b /\ YB b6 v bs w a b
theorem zbx (l b2 b6:Nat) (v:Value) (bs:List Nat):Stable (ApP l b2 b6 v bs):=(zu _ _).and (z2o _ _ _)
theorem app_l (l d b2 b6:Nat) (L:Lg) (ad:Option Addr) (n c:Nat) (bs:List Nat):OpL l d L (ApP l b2 b6 (.slice ad n c) bs) [⟨67,#[],#[.pointer (some ⟨b2,0,none⟩),.pointer (some ⟨b6,0,none⟩)]⟩] [apO L.seg bs] [1] :=
 ⟨ap67_c l d b2 b6 L ad n c bs,enters_of Tryz.func67 (by kernel_rfl) rfl,by omega,trivial⟩
theorem z8e {w w' w2:World} {l d:Nat} {Fd Rd FL RL Fd' Rd' FL' RL':Nat -> Prop} {L2:Lg} {X2:Ds} (h2:∀ k,Fd' k -> Fd k \/ w.heap.size <= k) (h3:∀ k,Rd' k -> Rd k \/ w.heap.size <= k) (h4:∀ k,FL' k -> FL k \/ w.heap.size <= k) (h5:∀ k,RL' k -> RL k \/ w.heap.size <= k)
  (h6:Keeps (fun k=>Fd k \/ FL k) w w') (hn:LNow w' w2 l d Fd' Rd' FL' RL' L2 X2):LNow w w2 l d Fd Rd FL RL L2 X2:=by
 obtain ⟨Fd2,Rd2,FL2,RL2,k1,k2,k3,k4,k5,k6⟩:=hn;have hz:=h6.size;refine ⟨Fd2,Rd2,FL2,RL2,k1,fun k e=>(k2 k e).elim (h2 k) (fun e=>.inr (by omega)),fun k e=>(k3 k e).elim (h3 k) (fun e=>.inr (by omega)),fun k e=>(k4 k e).elim (h4 k) (fun e=>.inr (by omega)),fun k e=>(k5 k e).elim (h5 k) (fun e=>.inr (by omega)),h6.trans k6 (fun i hi e=>?_)⟩;rcases e with e | e
 ·exact (h2 i e).elim .inl (fun e=>by omega)
 ·exact (h4 i e).elim .inr (fun e=>by omega)
theorem zcx (l d:Nat) (Fd Rd FL RL:Nat -> Prop) (L:Lg) (X:Ds) (v:Value) (bs:List Nat) (w:World) (h:LgAt w l d Fd Rd FL RL L X) (hv:Vars w) (hb:BytesO v bs w Fd FL) (hp:pot X + 6 <= 999999) (hsg:L.segments < 1000000) (hrc:L.recs.length < 4000000000000) (hsz:L.size <= 16777216) :
  Calls Tryz.prog 21 #[.pointer (some ⟨l,0,none⟩),v] w (LogD w l d Fd Rd FL RL L X 6 (fun L X e L' Y=>appR L bs X e L' Y)):=by
 obtain ⟨va,vc,rfl,hq⟩:=id hb;have H:=qq h;have HV:=qq hv;have HP:=qq hp;have HSG:=qq hsg;have HRC:=qq hrc;have HSZ:=qq hsz;have HB:=qq hb;obtain ⟨m,hm⟩:∃ m,bs.length=m:=⟨_,rfl⟩
 have HM:=qq hm;rw [hm] at HB ⊢;clear h hv hp hsg hrc hsz hb hq hm;go_enter Tryz.func21,Tryz.ntmps21;go_wp2_with (first | go_skip | (with_reducible refine zo (t:=40) ?_))
 refine za (vbox1 (v:=.pointer (some ⟨l,0,none⟩)) (by rfl) rfl ?_);intro b2 w1 n1;simp only [Nat.reduceAdd,qn];have B2:=qq n1.blk;have G2:Hid (w.heap.size <= b2 /\ b2 < w1.heap.size):=qq ⟨n1.ge,n1.lt⟩;have K1:=qq n1.k;clear n1;have H1:=qq (H.out.nb K1.out);have HB1:Hid (Bytes w1 (Out w Fd FL) (.slice va m vc) bs):=qq (Bytes.keeps HB.out K1.out (fun _ _ e=>e));obtain ⟨sv,lv,vs,q1,-⟩:=H1.out.ex;have MA:=qq (z9h l d sv lv L va m vc w1 q1);have c2:w1.cell? ⟨b2,0,none⟩=some (.pointer (some ⟨l,0,none⟩)):=(cell_of_block B2.out).trans rfl;have hb2l:b2 ≠ l:=fun e=>by have:=H.out.ltF l H.out.fl;have:=G2.out;omega
 obtain ⟨f,hf⟩:∃ f,mayE L m=f:=⟨_,rfl⟩
 rw [hf] at MA;have HF:=qq hf;clear hf q1;go_wp2_with fail;refine MA.out.mono ?_;rintro _ _ ⟨rfl,rfl⟩;clear MA;by_cases h0:f=0
 ·
  subst h0;have hmx:m <= mxr:=by
   have:=HF.out;unfold mayE at this;split at this
   ·cases this
   ·omega
  have RA:=qq (z8m (.slice va m vc) bs (Out w Fd FL) w1 HB1.out (fun k hk=>Nat.lt_of_lt_of_le hk.1 K1.out.size) (by rw [HM.out];exact hmx));clear c2;go_wp2_with fail;refine RA.out.mono ?_;rintro _ w3 ⟨v',rfl,hb3,k3⟩;obtain ⟨a6,c6,rfl,-⟩:=id hb3;obtain ⟨rl,hrl⟩:∃ r,(recd bs).length=r:=⟨_,rfl⟩
  have hrlm:rl=8 + m:=by rw [<- hrl,zv,HM.out]
  rw [hrl] at hb3 ⊢;have HRL:=qq hrlm;have HB3:=qq hb3;clear hrlm hrl;have K13:=qq k3;clear hb3 k3 RA;go_wp2_with (first | go_skip | (with_reducible refine qv (by decide) ?_))
  refine za (valloc (z:=.slice none 0 0) (by kernel_rfl) ?_);intro b6 w4 n4;simp only [Nat.reduceAdd,qn];go_wp2_with (first | go_skip | (with_reducible refine qv (by decide) ?_))
  refine za (zc rfl (zd (v:=.slice a6 rl c6) (n:=1) (by kernel_rfl) (by rfl) (by rfl) n4.blk (by rfl) (by simp [Value.cells]) (by simp [Value.cells,Value.oneCell'])) ?_);intro w5 s5;simp only [Nat.reduceAdd,qn];have B6:Hid (w5.heap[b6]?=some (.cells #[.slice a6 rl c6] 22 (0,0))):=qq s5.blk;have K35:Hid (Keeps Nb w3 w5):=qq (n4.k.own (k:=b6) n4.ge s5.k);have G6:Hid (w3.heap.size <= b6 /\ b6 < w5.heap.size):=qq ⟨n4.ge,lt_of_block s5.blk⟩;have K15:Hid (Keeps Nb w1 w5):=qq (K13.out.trans_nb K35.out);have K5:Hid (Keeps Nb w w5):=qq (K1.out.trans_nb K15.out);have B25:=qq (K15.out.nb B2.out);have H5:=qq (H1.out.nb K15.out);clear n4 s5;have c25:w5.cell? ⟨b2,0,none⟩=some (.pointer (some ⟨l,0,none⟩)):=(cell_of_block B25.out).trans rfl;go_wp2_with (first | go_skip | (with_reducible refine qv (by decide) ?_))
  refine za (zj rfl (zl el138 [.func (.func 67) #[] #[.pointer (some ⟨b2,0,none⟩),.pointer (some ⟨b6,0,none⟩)]] rfl (by simp [List.range'_succ];first | done | rfl | exact ⟨rfl,rfl⟩ | exact ⟨rfl,rfl,rfl⟩ | exact ⟨rfl,rfl,rfl,rfl⟩ | exact ⟨rfl,rfl,rfl,rfl,rfl⟩ | exact ⟨rfl,rfl,rfl,rfl,rfl,rfl⟩) (by simp [Value.cells]) (by simp)) ?_);rintro _ w6 ⟨b9,rfl,n9⟩;simp only [Nat.reduceAdd,qn];have K56:=qq n9.k
  have NOF:Hid ((¬ Fd b2 /\ ¬ FL b2) /\ (¬ Fd b6 /\ ¬ FL b6) /\ b2 ≠ l /\ b6 ≠ l):=qq (by
   have h1:=G2.out;have h2:=G6.out;have h3:=H.out.ltF l H.out.fl;have h4:=K13.out.size
   exact ⟨zt H.out (by omega),zt H.out (by omega),by omega,by omega⟩)
  have hP:ApP l b2 b6 (.slice a6 rl c6) (recd bs) w6 Fd FL:=⟨⟨n9.k.nb B25.out,NOF.out.1⟩,⟨n9.k.nb B6.out,NOF.out.2.1⟩,by
   refine ((HB3.out.keeps (K35.out.trans_nb n9.k) (fun _ _ e=>e)).mono (fun k hk=>?_))
   exact ⟨by have:=hk.2;have:=K35.out.size;have:=n9.k.size;omega,zt H.out (by have:=hk.1;have:=K1.out.size;omega)⟩⟩
  have hrow:Has w6 (some ⟨b9,0,none⟩) ([(⟨67,#[],#[.pointer (some ⟨b2,0,none⟩),.pointer (some ⟨b6,0,none⟩)]⟩:Fv)].map Fv.v):=zm n9.blk;have AR:=qq (z1a (n:=1) (zbx l b2 b6 (.slice a6 rl c6) (recd bs)) (app_l l d b2 b6 L a6 rl c6 (recd bs)) (H5.out.nb n9.k) ((HV.out.nb K5.out).nb n9.k) hP rfl (by omega) (by have:=HP.out;simp;omega) hrow (zt H5.out n9.ge));clear hP hrow n9 c25;go_wp2_with fail;refine AR.out.mono ?_;rintro e w7 ⟨er2,Y,L',rfl,hnow,hask,hL',hpot⟩;obtain ⟨Fd',Rd',FL',RL',g1,j2,j3,j4,j5,hk67⟩:=hnow;have zz:w.heap.size <= w6.heap.size:=(K5.out.trans_nb K56.out).size;have g2:∀ k,Fd' k -> Fd k \/ w.heap.size <= k:=fun k e=>(j2 k e).imp id (fun e=>by omega);have g3:∀ k,Rd' k -> Rd k \/ w.heap.size <= k:=fun k e=>(j3 k e).imp id (fun e=>by omega);have g4:∀ k,FL' k -> FL k \/ w.heap.size <= k:=fun k e=>(j4 k e).imp id (fun e=>by omega);have g5:∀ k,RL' k -> RL k \/ w.heap.size <= k:=fun k e=>(j5 k e).imp id (fun e=>by omega);have g6:Keeps (fun k=>Fd k \/ FL k) w w7:=((K5.out.trans_nb K56.out).of_nb).trans hk67 (fun _ _ e=>e);have J4:=qq j4;have hap:apO L.seg (recd bs) X er2 Y:=by
   obtain ⟨e1,Z,h1,h2⟩:=hask;rcases h2 with ⟨-,rfl,rfl⟩ | ⟨rfl,rfl,rfl⟩
   ·exact h1
   ·exact h1
  have hpo:pot Y <= pot X + 1:=by simpa using hpot
  have HAP:=qq hap;have HPO:=qq hpo;have HG1:=qq g1;have HL':=qq hL';have HR:=qq (And.intro g2 (And.intro g3 (And.intro g4 (And.intro g5 g6))));have B27:=qq (hk67.at (K56.out.nb B25.out) (fun e=>e.elim NOF.out.1.1 NOF.out.1.2));have B67:=qq (hk67.at (K56.out.nb B6.out) (fun e=>e.elim NOF.out.2.1.1 NOF.out.2.1.2));have HV7:Hid (Vars w7):=qq (((HV.out.nb K5.out).nb K56.out).keeps hk67 (fun k hk e=>by have:=H.out.low k e;omega));have HB7:Hid (Bytes w7 (fun k=>Out w Fd FL k) (.slice va m vc) bs):=qq ((HB1.out.keeps (K15.out.trans_nb K56.out) (fun _ _ e=>e)).keeps hk67 (fun k hk e=>e.elim hk.2.1 hk.2.2));have K67:=qq hk67;clear g1 g2 g3 g4 g5 g6 j2 j3 j4 j5 zz hpo hask hL' hpot AR hk67 hap;by_cases he:er2=0
  ·
   subst he;have e2:L'=L:=by rw [HL'.out,if_pos rfl]
   subst e2;obtain ⟨sv3,lv3,vs3,q1,q2,q3,q4⟩:=HG1.out.ex;obtain ⟨x1,x2,la,lc,rfl,x4,x5,x6,x7,x8⟩:=id q3;have Q1:=qq q1;have Q2:=qq q2;have Q4:=qq q4;obtain ⟨nr,hnr⟩:∃ q,L'.recs.length=q:=⟨_,rfl⟩
   have HNR:=qq hnr;rw [hnr] at Q1 x1 x4;have hfull:RowS w7 FL' (fun _=>False) 22 1 (.slice la nr nr) nr vs3:=⟨x1,x2,la,nr,rfl,Nat.le_refl _,by omega,x6,x7,.inl rfl⟩
   have HFU:=qq hfull;have hnc:nr <= lc:=x4;have c27:w7.cell? ⟨b2,0,none⟩=some (.pointer (some ⟨l,0,none⟩)):=(cell_of_block B27.out).trans rfl;have c97:w7.cell? ⟨l,9,none⟩=some (.slice la nr lc):=(cell_of_block Q1.out).trans rfl;clear q1 q2 q3 q4 x1 x2 x4 x5 x6 x7 x8 hnr hfull;go_wp2;refine WT.region (fun u=>u.cell? ⟨b2,0,none⟩=some (.pointer (some ⟨l,0,none⟩)) /\ u.cell? ⟨l,9,none⟩=some (.slice la nr lc)) 20 23 [0,1,2,3,4,5,6,7,8,9,10,11,12,13,14,15,16,17,18,19,20,21,22] (by kernel_rfl) rfl ?_;have K7:Hid (Keeps Nb w7 w7.drew):=qq (Keeps.refl _ w7).drew;have HS:Hid ((fun u:World=>u.cell? ⟨b2,0,none⟩=some (.pointer (some ⟨l,0,none⟩)) /\ u.cell? ⟨l,9,none⟩=some (.slice la nr lc)) w7.drew):=qq ⟨c27,c97⟩;have CA:=qq (z38 (.slice va m vc) bs _ w7.drew (HB7.out.keeps K7.out (fun _ _ e=>e)) (by rw [HM.out];unfold mxr at hmx;omega));refine WT.t 0 (v:=.pointer (some ⟨l,0,none⟩)) (y:=by rintro w ⟨C1,C2⟩;exact zb (by kernel_rfl) (by rfl) C1) (s:=HS.out) (h:=?_);refine WT.t 1 (v:=.pointer (some ⟨l,0,none⟩)) (y:=by rintro w ⟨C1,C2⟩;exact zb (by kernel_rfl) (by rfl) C1) (s:=HS.out) (h:=?_);refine WT.t 2 (v:=_) (y:=by rintro w ⟨C1,C2⟩;go_simp;with_reducible rfl) (s:=HS.out) (h:=?_);refine WT.t 3 (v:=_) (y:=by rintro w ⟨C1,C2⟩;go_simp;with_reducible rfl) (s:=HS.out) (h:=?_);refine WT.t 4 (v:=.slice la nr lc) (y:=by rintro w ⟨C1,C2⟩;exact zb (by kernel_rfl) (by rfl) C2) (s:=HS.out) (h:=?_);refine WT.t 5 (v:=.pointer (some ⟨l,0,none⟩)) (y:=by rintro w ⟨C1,C2⟩;exact zb (by kernel_rfl) (by rfl) C1) (s:=HS.out) (h:=?_);refine WT.t 6 (v:=_) (y:=by rintro w ⟨C1,C2⟩;go_simp;with_reducible rfl) (s:=HS.out) (h:=?_);refine WT.t 7 (v:=_) (y:=by rintro w ⟨C1,C2⟩;go_simp;with_reducible rfl) (s:=HS.out) (h:=?_);refine WT.t 8 (v:=.slice la nr lc) (y:=by rintro w ⟨C1,C2⟩;exact zb (by kernel_rfl) (by rfl) C2) (s:=HS.out) (h:=?_);refine WT.t 9 (v:=_) (y:=by rintro w ⟨C1,C2⟩;go_simp;with_reducible rfl) (s:=HS.out) (h:=?_);refine WT.t 10 (v:=.pointer (some ⟨l,0,none⟩)) (y:=by rintro w ⟨C1,C2⟩;exact zb (by kernel_rfl) (by rfl) C1) (s:=HS.out) (h:=?_);refine WT.t 11 (v:=_) (y:=by rintro w ⟨C1,C2⟩;go_simp;with_reducible rfl) (s:=HS.out) (h:=?_);refine WT.t 12 (v:=_) (y:=by rintro w ⟨C1,C2⟩;go_simp;with_reducible rfl) (s:=HS.out) (h:=?_);refine WT.t 13 (v:=.slice la nr lc) (y:=by rintro w ⟨C1,C2⟩;exact zb (by kernel_rfl) (by rfl) C2) (s:=HS.out) (h:=?_);refine WT.t 14 (v:=_) (y:=by rintro w ⟨C1,C2⟩;go_simp;with_reducible rfl) (s:=HS.out) (h:=?_);refine WT.t 15 (v:=.slice la nr nr) (y:=by rintro w ⟨C1,C2⟩;go_simp) (s:=HS.out) (h:=?_);refine WT.t 16 (v:=_) (y:=by rintro w ⟨C1,C2⟩;go_simp;with_reducible rfl) (s:=HS.out) (h:=?_);refine WT.call 17 (by simp only [qi];rfl) (by kernel_rfl) (by rfl) (by go_simp;first | done | rfl | exact ⟨⟨rfl,rfl⟩,rfl⟩ | exact ⟨⟨rfl,rfl,rfl⟩,rfl⟩ | exact ⟨⟨rfl,rfl,rfl,rfl⟩,rfl⟩ | exact ⟨⟨rfl,rfl,rfl,rfl,rfl⟩,rfl⟩) CA.out ?_;rintro _ w8 ⟨cv,rfl,hco,k8⟩;have K78:Hid (Keeps Nb w7 w8):=qq (K7.out.trans_nb k8);have HCV:Hid (Bytes w8 (fun k=>(w7.heap.size <= k /\ k < w8.heap.size) /\ IsT w8 5 k) cv bs):=qq (z0k hco (by obtain ⟨_,_,_,_,_,_,hlt,_⟩:=HB7.out;exact hlt));have hlt:∀ z ∈ bs,z < 256:=by obtain ⟨_,_,_,_,_,_,hlt,_⟩:=HB7.out;exact hlt
   have HLT:=qq hlt;obtain ⟨ca,cc,rfl,-⟩:=id HCV.out;rw [HM.out] at HCV ⊢;clear hco k8 CA hlt;have B28:=qq (K78.out.nb B27.out);have Q18:=qq (K78.out.nb Q1.out);replace HS:Hid ((fun u:World=>u.cell? ⟨b2,0,none⟩=some (.pointer (some ⟨l,0,none⟩)) /\ u.cell? ⟨l,9,none⟩=some (.slice la nr lc)) w8):=qq ⟨(cell_of_block B28.out).trans rfl,(cell_of_block Q18.out).trans rfl⟩;refine ⟨_,rfl,HS.out,?_⟩;simp only [Nat.reduceAdd,qn];refine WT.o 18 (y:=zl el27 [.slice ca m cc] rfl (by simp [List.range'_succ];first | done | rfl | exact ⟨rfl,rfl⟩ | exact ⟨rfl,rfl,rfl⟩ | exact ⟨rfl,rfl,rfl,rfl⟩ | exact ⟨rfl,rfl,rfl,rfl,rfl⟩ | exact ⟨rfl,rfl,rfl,rfl,rfl,rfl⟩) (by simp [Value.cells]) (by simp)) (h:=?_);rintro _ w9 ⟨b21,rfl,n9⟩;simp only [Nat.reduceAdd,qn];have K89:=qq n9.k;have K79:Hid (Keeps Nb w7 w9):=qq (K78.out.trans_nb n9.k);have HH9:Hid (Has w9 (some ⟨b21,0,none⟩) [.slice ca m cc]):=qq (zm n9.blk);have B29:=qq (K79.out.nb B27.out);have Q19:=qq (K79.out.nb Q1.out);clear n9;replace HS:Hid ((fun u:World=>u.cell? ⟨b2,0,none⟩=some (.pointer (some ⟨l,0,none⟩)) /\ u.cell? ⟨l,9,none⟩=some (.slice la nr lc)) w9):=qq ⟨(cell_of_block B29.out).trans rfl,(cell_of_block Q19.out).trans rfl⟩;refine ⟨HS.out,?_⟩;have hnr4:nr < 4000000000000:=by rw [<- HNR.out];exact HRC.out
   refine WT.o 19 (y:=re_push' el27 (HFU.out.keeps K79.out (fun _ _ _ e=>e)) (by rfl) (by rfl) HH9.out rfl (by intro u hu;rw [List.mem_singleton.1 hu];rfl) (by unfold maxLen;omega) (by omega)) (h:=?_);rintro lv5 w10 ⟨r5,S5,k5,hS5⟩;simp only [Nat.reduceAdd,qn];have hS5':∀ k,S5 k -> FL' k /\ IsT w9 22 k:=hS5;have hnb2:¬ S5 b2:=fun e=>(J4.out b2 (hS5' b2 e).1).elim NOF.out.1.2 (fun e=>by have:=G2.out;have:=K15.out.size;have:=K56.out.size;omega);have hnb6:¬ S5 b6:=fun e=>(J4.out b6 (hS5' b6 e).1).elim NOF.out.2.1.2 (fun e=>by have:=G6.out;have:=K56.out.size;omega);have hnl:¬ S5 l:=fun e=>by have:=(hS5' l e).2;exact (this.ne ⟨_,_,Q19.out⟩ (by decide)) rfl
   have B210:=qq (k5.at B29.out hnb2);have B610:=qq (k5.at (K79.out.nb B67.out) hnb6);have Q110:=qq (k5.at Q19.out hnl);have KS:=qq k5;have HS5:=qq hS5';have R5:Hid (RowS w10 (Up FL' w9 w10) (fun _=>False) 22 1 lv5 (nr + 1) (vs3 ++ [.slice ca m cc])):=qq r5;obtain ⟨-,-,a5,c5,rfl,-⟩:=id r5;clear hS5' hnb2 hnb6 hnl r5 k5 hS5;replace HS:Hid ((fun u:World=>u.cell? ⟨b2,0,none⟩=some (.pointer (some ⟨l,0,none⟩)) /\ u.cell? ⟨l,9,none⟩=some (.slice la nr lc)) w10):=qq ⟨(cell_of_block B210.out).trans rfl,(cell_of_block Q110.out).trans rfl⟩;refine ⟨HS.out,?_⟩;refine WT.stop (by kernel_rfl) ?_;refine WP.o 20 (v:=_) (y:=by go_simp;first | with_reducible rfl | exact ⟨rfl,rfl⟩) (h:=?_);refine WP.o 21 (v:=_) (y:=by go_simp;first | with_reducible rfl | exact ⟨rfl,rfl⟩) (h:=?_);refine WP.onlySkipE 22 (by simp only [qi];rfl) (by kernel_rfl) (by rfl) (zd (v:=.slice a5 (nr + 1) c5) (n:=1) (by kernel_rfl) (by rfl) (by rfl) Q110.out (by rfl) (by simp [Value.cells,lcs]) (by simp [Value.cells,Value.oneCell'])) ?_;intro w11 s11;simp only [Nat.reduceAdd,qn];refine WP.done (by kernel_rfl) ?_;have S11:Hid (SetAt w10 w11 l (.cells (lcs d sv3 (.slice a5 (nr + 1) c5) L') 78 (0,0))):=qq ⟨s11.blk,s11.k⟩;have B211:=qq (s11.k.at B210.out NOF.out.2.2.1);have B611:=qq (s11.k.at B610.out NOF.out.2.2.2);clear s11 HS c27 c97;go_wp2;have hz:L'.size <= 16777216:=HSZ.out;have hrl9:rl <= 1048584:=by have:=HRL.out;unfold mxr at hmx;omega
   have iw:IntKind.i64.wrap ((L'.size:Int) + (rl:Int))=((L'.size + rl:Nat):Int):=by rw [IntWalk.i64_in _ (by omega)];rfl
   refine WT.region (fun u=>u.cell? ⟨b2,0,none⟩=some (.pointer (some ⟨l,0,none⟩)) /\ u.cell? ⟨l,6,none⟩=some (.int .i64 (L'.size:Nat)) /\ u.cell? ⟨b6,0,none⟩=some (.slice a6 rl c6)) 7 10 [0,1,2,3,4,5,6,7,8,9] (by kernel_rfl) rfl ?_;have HS:Hid ((fun u:World=>u.cell? ⟨b2,0,none⟩=some (.pointer (some ⟨l,0,none⟩)) /\ u.cell? ⟨l,6,none⟩=some (.int .i64 (L'.size:Nat)) /\ u.cell? ⟨b6,0,none⟩=some (.slice a6 rl c6)) w11.drew):=qq ⟨(cell_of_block (w:=w11.drew) B211.out).trans rfl,(cell_of_block (w:=w11.drew) S11.out.blk).trans rfl,(cell_of_block (w:=w11.drew) B611.out).trans rfl⟩;refine WT.t 0 (v:=.pointer (some ⟨l,0,none⟩)) (y:=by rintro w ⟨C1,C2,C3⟩;exact zb (by kernel_rfl) (by rfl) C1) (s:=HS.out) (h:=?_);refine WT.t 1 (v:=_) (y:=by rintro w ⟨C1,C2,C3⟩;go_simp;with_reducible rfl) (s:=HS.out) (h:=?_);refine WT.t 2 (v:=_) (y:=by rintro w ⟨C1,C2,C3⟩;go_simp;with_reducible rfl) (s:=HS.out) (h:=?_);refine WT.t 3 (v:=.int .i64 (L'.size:Nat)) (y:=by rintro w ⟨C1,C2,C3⟩;exact zb (by kernel_rfl) (by rfl) C2) (s:=HS.out) (h:=?_);refine WT.t 4 (v:=.slice a6 rl c6) (y:=by rintro w ⟨C1,C2,C3⟩;exact zb (by kernel_rfl) (by rfl) C3) (s:=HS.out) (h:=?_);refine WT.t 5 (v:=_) (y:=by rintro w ⟨C1,C2,C3⟩;go_simp;with_reducible rfl) (s:=HS.out) (h:=?_);refine WT.t 6 (v:=.int .i64 ((L'.size + rl:Nat):Int)) (y:=by rintro w ⟨C1,C2,C3⟩;go_simp;first | done | exact iw | rw [iw] | simp [iw]) (s:=HS.out) (h:=?_);refine WT.stop (by kernel_rfl) ?_;refine WP.o 7 (v:=_) (y:=by go_simp;first | with_reducible rfl | exact ⟨rfl,rfl⟩) (h:=?_);refine WP.o 8 (v:=_) (y:=by go_simp;first | with_reducible rfl | exact ⟨rfl,rfl⟩) (h:=?_);refine WP.onlySkipE 9 (by simp only [qi];rfl) (by kernel_rfl) (by rfl) (zd (w:=w11.drew) (v:=.int .i64 ((L'.size + rl:Nat):Int)) (n:=1) (by kernel_rfl) (by rfl) (by rfl) S11.out.blk (by rfl) (by simp [Value.cells,lcs]) (by simp [Value.cells,Value.oneCell'])) ?_;intro w12 s12;simp only [Nat.reduceAdd,qn];refine WP.done (by kernel_rfl) ?_;have S12:SetAt w10 w12 l (.cells (lcs d sv3 (.slice a5 (nr + 1) c5) { L' with recs:=L'.recs ++ [bs],size:=L'.size + rl }) 78 (0,0)):=⟨s12.blk,(S11.out.k.drew).trans s12.k (fun _ _ e=>e)⟩
   have B212:=qq (s12.k.at (w:=w11.drew) B211.out NOF.out.2.2.1);have HS12:=qq S12;clear s12 S12 HS;go_wp2;refine WT.region (fun u=>u.cell? ⟨b2,0,none⟩=some (.pointer (some ⟨l,0,none⟩)) /\ u.cell? ⟨l,6,none⟩=some (.int .i64 ((L'.size + rl:Nat):Int)) /\ u.cell? ⟨l,2,none⟩=some (.int .i64 (L'.most:Nat))) 9 9 [0,1,2,3,4,5,6,7,8] (by kernel_rfl) rfl ?_;have HS:Hid ((fun u:World=>u.cell? ⟨b2,0,none⟩=some (.pointer (some ⟨l,0,none⟩)) /\ u.cell? ⟨l,6,none⟩=some (.int .i64 ((L'.size + rl:Nat):Int)) /\ u.cell? ⟨l,2,none⟩=some (.int .i64 (L'.most:Nat))) w12.drew):=qq ⟨(cell_of_block (w:=w12.drew) B212.out).trans rfl,(cell_of_block (w:=w12.drew) HS12.out.blk).trans rfl,(cell_of_block (w:=w12.drew) HS12.out.blk).trans rfl⟩;refine WT.t 0 (v:=.pointer (some ⟨l,0,none⟩)) (y:=by rintro w ⟨C1,C2,C3⟩;exact zb (by kernel_rfl) (by rfl) C1) (s:=HS.out) (h:=?_);refine WT.t 1 (v:=_) (y:=by rintro w ⟨C1,C2,C3⟩;go_simp;with_reducible rfl) (s:=HS.out) (h:=?_);refine WT.t 2 (v:=_) (y:=by rintro w ⟨C1,C2,C3⟩;go_simp;with_reducible rfl) (s:=HS.out) (h:=?_);refine WT.t 3 (v:=.int .i64 ((L'.size + rl:Nat):Int)) (y:=by rintro w ⟨C1,C2,C3⟩;exact zb (by kernel_rfl) (by rfl) C2) (s:=HS.out) (h:=?_);refine WT.t 4 (v:=.pointer (some ⟨l,0,none⟩)) (y:=by rintro w ⟨C1,C2,C3⟩;exact zb (by kernel_rfl) (by rfl) C1) (s:=HS.out) (h:=?_);refine WT.t 5 (v:=_) (y:=by rintro w ⟨C1,C2,C3⟩;go_simp;with_reducible rfl) (s:=HS.out) (h:=?_);refine WT.t 6 (v:=_) (y:=by rintro w ⟨C1,C2,C3⟩;go_simp;with_reducible rfl) (s:=HS.out) (h:=?_);refine WT.t 7 (v:=.int .i64 (L'.most:Nat)) (y:=by rintro w ⟨C1,C2,C3⟩;exact zb (by kernel_rfl) (by rfl) C3) (s:=HS.out) (h:=?_);refine WT.t 8 (v:=_) (y:=by rintro w ⟨C1,C2,C3⟩;go_simp;with_reducible rfl) (s:=HS.out) (h:=?_);refine WT.stop (by kernel_rfl) ?_;refine WP.done (by kernel_rfl) ?_;have z79:=K79.out.size;have zS:=KS.out.size;have z78:=K78.out.size;have z67:=HR.out.2.2.2.2.size;have z89:w8.heap.size <= w9.heap.size:=K89.out.size;have z12:=HS12.out.k.size;have hF0:∀ k,(Fd' k \/ Rd' k \/ FL' k \/ RL' k) -> k < w7.heap.size:=fun k e=>e.elim (HG1.out.disk.ltF k) fun e=>e.elim (HG1.out.disk.ltR k) fun e=>e.elim (HG1.out.ltF k) (HG1.out.ltR k);have hg12:LgAt w12 l d Fd' Rd' (fun k=>FL' k \/ (w7.heap.size <= k /\ k < w10.heap.size /\ IsT w10 22 k)) (fun k=>RL' k \/ (w7.heap.size <= k /\ k < w10.heap.size /\ IsT w10 5 k)) { L' with recs:=L'.recs ++ [bs],size:=L'.size + rl } Y:=by
    have hRS:∀ k,RL' k -> ¬ S5 k:=fun k hk e=>(HG1.out.apR k hk).2 (HS5.out k e).1;have hh:=HG1.out.nums;refine LgAt.put (w0:=w7) (vs:=vs3 ++ [.slice ca m cc]) HG1.out (by omega) ((HG1.out.disk.nb K79.out).keeps KS.out (fun k hk e=>(HG1.out.apF k (HS5.out k e).1).1 hk) (fun k hk e=>(HG1.out.apF k (HS5.out k e).1).2 hk)) ⟨_,Q110.out⟩ HS12.out hF0 HG1.out.lt6 ⟨hh.name,hh.n16,hh.most,hh.first,hh.segment,hh.segments,(by show L'.size + rl <= _;omega),hh.recs.append (fun b hb=>by rw [List.mem_singleton.1 hb];exact ⟨by rw [HM.out];exact hmx,HLT.out⟩),(by show (L'.recs ++ [bs]).length <= _;rw [List.length_append,HNR.out];simp only [List.length_singleton];omega),hh.snap⟩ ?_ ?_ ?_
    ·exact ((Q2.out.keeps K79.out (fun _ _ e=>e)).keeps KS.out hRS).mono (fun k e=>.inl e)
    ·
     have e1:(L'.recs ++ [bs]).length=nr + 1:=by rw [List.length_append,HNR.out];rfl
     show RowS w10 _ _ 22 1 _ (L'.recs ++ [bs]).length _;rw [e1];refine R5.out.typed.mono (fun k e=>?_) (fun _ e=>e);rcases e with ⟨e | e,ht⟩
     ·exact .inl e
     ·exact .inr ⟨by have:=e.1;omega,e.2,ht⟩
    ·
     refine (((Q4.out.keeps K79.out (fun _ _ e=>e)).keeps KS.out hRS).mono (fun k e=>.inl e)).append (.cons ?_ (.nil _ _));have hcv:Bytes w8 (fun k=>(w7.heap.size <= k /\ k < w8.heap.size) /\ IsT w8 5 k) (.slice ca bs.length cc) bs:=by rw [HM.out];exact HCV.out
     have hnS:∀ k,(w7.heap.size <= k /\ k < w8.heap.size) /\ IsT w8 5 k -> ¬ S5 k:=fun k hk e=>((hk.2.keeps K89.out (fun e=>e)).ne (HS5.out k e).2 (by decide)) rfl;have:=((hcv.keeps K89.out (fun _ _ e=>e)).keeps KS.out hnS).mono (R':=fun k=>RL' k \/ (w7.heap.size <= k /\ k < w10.heap.size /\ IsT w10 5 k)) (fun k hk=>.inr ⟨hk.1.1,by have:=hk.1.2;omega,(hk.2.keeps K89.out (fun e=>e)).keeps KS.out (hnS k hk)⟩);rw [HM.out] at this;exact this
   have hk12:Keeps (fun k=>Fd k \/ FL k) w w12:=by
    obtain ⟨g2,g3,g4,g5,g6⟩:=HR.out;refine ((g6.trans_nb K79.out).trans KS.out (fun j hj e=>(g4 j (HS5.out j e).1).elim .inr (fun e=>by omega))).trans HS12.out.k (fun j hj e=>?_);have e:j=l:=e;subst e;exact .inr H.out.fl
   have HG12:=qq hg12;have HK12:=qq hk12;have hc4:∀ k,(FL' k \/ (w7.heap.size <= k /\ k < w10.heap.size /\ IsT w10 22 k)) -> FL k \/ w.heap.size <= k:=fun k e=>e.elim (HR.out.2.2.1 k) (fun e=>.inr (by omega));have hc5:∀ k,(RL' k \/ (w7.heap.size <= k /\ k < w10.heap.size /\ IsT w10 5 k)) -> RL k \/ w.heap.size <= k:=fun k e=>e.elim (HR.out.2.2.2.1 k) (fun e=>.inr (by omega));have hsz8:L'.size + rl=L'.size + (8 + bs.length):=by rw [HM.out,HRL.out]
   have HS8:=qq hsz8;have HC4:=qq hc4;have HC5:=qq hc5;have hmay:Hid (mayE L' bs.length=0):=qq (by rw [HM.out];exact HF.out);have HV12:Hid (Vars w12):=qq (HV.out.keeps hk12 (fun k hk e=>by have:=H.out.low k e;omega));clear HS hg12 hk12 hc4 hc5 hsz8 hF0 z79 zS z78 z67 z89 z12 iw;by_cases hmo:L'.most < L'.size + rl
   ·
    have ON:=qq (on_at l d Fd' Rd' _ _ { L' with recs:=L'.recs ++ [bs],size:=L'.size + rl } Y w12.drew (HG12.out.nb (Keeps.refl Nb w12).drew) (HV12.out.nb (Keeps.refl Nb w12).drew) (by have:=HPO.out;have:=HP.out;omega) HSG.out);have HMO:=qq hmo;have c212:w12.drew.cell? ⟨b2,0,none⟩=some (.pointer (some ⟨l,0,none⟩)):=(cell_of_block (w:=w12.drew) B212.out).trans rfl;have i1:(L'.most:Int) < ((L'.size + rl:Nat):Int):=by omega
    go_wp2_with fail;refine ON.out.mono ?_;rintro _ w13 ⟨er3,L3,Z,rfl,hn3,hr3,hp3⟩;have F:Hid (LNow w w13 l d Fd Rd FL RL L3 Z):=qq (z8e HR.out.1 HR.out.2.1 HC4.out HC5.out (HK12.out.drew) hn3);have HR3:=qq hr3;have HP3:=qq hp3;clear hn3 hr3 hp3 ON i1 hmo c212;go_wp2;go_ret;exact ⟨er3,L3,Z,rfl,F.out,.inr ⟨hmay.out,0,Y,HAP.out,.inr (.inr ⟨rfl,by rw [<- HS8.out];exact HMO.out,by rw [<- HS8.out];exact HR3.out⟩)⟩,by have:=HPO.out;have:=HP3.out;omega⟩
   ·
    have F:Hid (LNow w w12.drew l d Fd Rd FL RL { L' with recs:=L'.recs ++ [bs],size:=L'.size + rl } Y):=qq (z8e HR.out.1 HR.out.2.1 HC4.out HC5.out HK12.out (LNow.of (HG12.out.nb (Keeps.refl Nb w12).drew) (Keeps.refl Nb w12).drew));have HMO:=qq hmo;have i1:((L'.size + rl:Nat):Int) <= (L'.most:Int):=by omega
    go_wp2;go_ret;exact ⟨0,_,Y,rfl,F.out,.inr ⟨hmay.out,0,Y,HAP.out,.inr (.inl ⟨rfl,by have:=HMO.out;rw [<- HS8.out];omega,rfl,by rw [<- HS8.out],rfl⟩)⟩,by have:=HPO.out;omega⟩
  ·
   have e2:L'={ L with bad:=true }:=by rw [HL'.out,if_neg he]
   subst e2;have F:Hid (LNow w w7 l d Fd Rd FL RL { L with bad:=true } Y):=qq ⟨Fd',Rd',FL',RL',HG1.out,HR.out⟩;have HE:=qq he;have t9:(er2 != 0)=true:=by simpa using he
   clear he;go_wp2;go_ret;exact ⟨er2,_,Y,rfl,F.out,.inr ⟨by rw [HM.out];exact HF.out,er2,Y,HAP.out,.inl ⟨HE.out,rfl,rfl,rfl⟩⟩,by have:=HPO.out;omega⟩
 ·
  have t9:(f != 0)=true:=by simpa using h0
  have HE:=qq h0;have F:Hid (LNow w w1 l d Fd Rd FL RL L X):=qq (LNow.of H1.out K1.out);clear h0 c2;go_wp2;go_ret;exact ⟨f,L,X,rfl,F.out,.inl ⟨by rw [HM.out,HF.out];exact HE.out,by rw [HM.out];exact HF.out.symm,rfl,rfl⟩,by omega⟩
end Go.Proofs.YtpjomdmjohjheaaGreatDoor
end
section
namespace Go.Proofs.YtpjomdmjohjheaaGreatDoor
open Go.RowKit Go.Lk Go.Vfs Go.Log
variable {w:World} {l d:Nat} {sv lv:Value} {L:Lg}
theorem z7e (c0:w.cell? ⟨l,0,none⟩=some (.pointer (some ⟨d,0,none⟩))):Calls Tryz.prog 65 #[.pointer (some ⟨l,0,none⟩)] w fun e w'=>e=.returned (.bool true) /\ w=w':=by
 go_enter Tryz.func65,Tryz.ntmps65;go_wp2;go_ret;exact ⟨rfl,rfl⟩
theorem zcg (h:w.heap[l]?=some (.cells (lcs d sv lv L) 78 (0,0))):Calls Tryz.prog 20 #[.pointer (some ⟨l,0,none⟩)] w fun e w'=>e=.returned (.int .i64 (L.segment:Nat)) /\ w=w':=by
 have c0:w.cell? ⟨l,0,none⟩=some (.pointer (some ⟨d,0,none⟩)):=(cell_of_block h).trans rfl;have c1:w.cell? ⟨l,4,none⟩=some (.int .i64 (L.segment:Nat)):=(cell_of_block h).trans rfl;clear h;go_enter Tryz.func20,Tryz.ntmps20;go_wp2;go_ret;exact ⟨rfl,rfl⟩
theorem zeh (h:w.heap[l]?=some (.cells (lcs d sv lv L) 78 (0,0))):Calls Tryz.prog 93 #[.pointer (some ⟨l,0,none⟩)] w fun e w'=>e=.returned (.int .i64 (L.synced:Nat)) /\ w=w':=by
 have c0:w.cell? ⟨l,0,none⟩=some (.pointer (some ⟨d,0,none⟩)):=(cell_of_block h).trans rfl;have c1:w.cell? ⟨l,10,none⟩=some (.int .i64 (L.synced:Nat)):=(cell_of_block h).trans rfl;clear h;go_enter Tryz.func93,Tryz.ntmps93;go_wp2;go_ret;exact ⟨rfl,rfl⟩
theorem len_at {n c:Nat} {a:Option Addr} (h:w.heap[l]?=some (.cells (lcs d sv (.slice a n c) L) 78 (0,0))):Calls Tryz.prog 30 #[.pointer (some ⟨l,0,none⟩)] w fun e w'=>e=.returned (.int .i64 (n:Nat)) /\ w=w':=by
 have c0:w.cell? ⟨l,0,none⟩=some (.pointer (some ⟨d,0,none⟩)):=(cell_of_block h).trans rfl;have c1:w.cell? ⟨l,9,none⟩=some (.slice a n c):=(cell_of_block h).trans rfl;clear h;go_enter Tryz.func30,Tryz.ntmps30;go_wp2;go_ret;exact ⟨rfl,rfl⟩
theorem ro_at (h:w.heap[l]?=some (.cells (lcs d sv lv L) 78 (0,0))):Calls Tryz.prog 25 #[.pointer (some ⟨l,0,none⟩)] w fun e w'=>e=.returned (.bool L.bad) /\ w=w':=by
 have c0:w.cell? ⟨l,0,none⟩=some (.pointer (some ⟨d,0,none⟩)):=(cell_of_block h).trans rfl;have c1:w.cell? ⟨l,11,none⟩=some (.bool L.bad):=(cell_of_block h).trans rfl;clear h;go_enter Tryz.func25,Tryz.ntmps25;go_wp2;go_ret;exact ⟨rfl,rfl⟩
theorem zai {Fd Rd FL RL:Nat -> Prop} {X:Ds} (h:LgAt w l d Fd Rd FL RL L X):Calls Tryz.prog 29 #[.pointer (some ⟨l,0,none⟩)] w fun e w'=>∃ v,e=.returned (.tuple #[v,.bool L.has]) /\ Bytes w' (SinceB w w') v (if L.has=true then L.snap else []) /\ Keeps Nb w w':=by
 obtain ⟨sv,lv,vs,q1,q2,-⟩:=h.ex;obtain ⟨sa,sc,rfl,-⟩:=id q2;have c0:w.cell? ⟨l,0,none⟩=some (.pointer (some ⟨d,0,none⟩)):=(cell_of_block q1).trans rfl;have c8:w.cell? ⟨l,8,none⟩=some (.bool L.has):=(cell_of_block q1).trans rfl;have c7:w.cell? ⟨l,7,none⟩=some (.slice sa L.snap.length sc):=(cell_of_block q1).trans rfl;have Q2:=qq q2;have CA:=qq (z38 (.slice sa L.snap.length sc) L.snap _ w q2 (by have:=h.nums.snap;unfold mxr at this;omega));have hlt:∀ z ∈ L.snap,z < 256:=by obtain ⟨_,_,_,_,_,_,hlt,_⟩:=q2;exact hlt
 have HLT:=qq hlt;clear q1 q2 h hlt;cases hh:L.has
 ·rw [hh] at c8;rw [if_neg (by decide)];clear hh;go_enter Tryz.func29,Tryz.ntmps29;go_wp2;go_ret2;exact ⟨_,rfl,Bytes.nil _ _,Keeps.refl _ _⟩
 ·rw [hh] at c8;rw [if_pos rfl];clear hh;have TA:=qq (z7e c0);go_enter Tryz.func29,Tryz.ntmps29;go_wp2_with fail;refine TA.out.mono ?_;rintro _ _ ⟨rfl,rfl⟩;go_wp2_with fail;refine CA.out.mono ?_;rintro _ w1 ⟨v,rfl,ho,k⟩;have HB:Hid (Bytes w1 (SinceB w w1) v L.snap):=qq (z0k ho HLT.out);have K:=qq k;clear ho k CA;go_wp2;go_ret2;exact ⟨v,rfl,HB.out,K.out⟩
end Go.Proofs.YtpjomdmjohjheaaGreatDoor
end
