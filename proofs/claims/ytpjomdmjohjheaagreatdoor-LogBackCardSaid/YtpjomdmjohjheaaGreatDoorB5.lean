import Derived.Test.YtpjomdmjohjheaaGreatDoorB4
set_option linter.unusedVariables false
set_option linter.unusedSimpArgs false
set_option maxRecDepth 100000
set_option maxHeartbeats 8000000
section
namespace Go.Lk
open Go.RowKit
theorem via {α β:Type} {Φ:α -> β -> World -> Prop} {G:α -> β -> World -> Prop} {goal:Prop} (main:(∀ a b w,Φ a b w -> G a b w) -> goal) (key:∀ a b w,Φ a b w -> G a b w):goal:=main key
section
variable {P:Program} {ops:Array Oper} {Q:Exit -> Act -> World -> Prop} {S:World -> Prop} {k n m:Nat} {plan:List Nat}
theorem WT.forkC (i j:Nat) (plan2:List Nat) {oi oj:Oper} {f:FuncId} {args:Array Value} {R:Ending -> World -> Prop} {Ψ:Value -> World -> Prop} {a:Act} {w w':World} (hi:ops[i]?=some oi) (hj:ops[j]?=some oj) (hok:mayFork ops k n plan plan2 m i j=true)
  (hw:Region.wanted oi (yielded ops a.tmps)=true) (hw2:Region.wanted oj (yielded ops a.tmps)=true)
  (hy:(execOp a.eval oi).run P w=.ok (.enter f args) w') (hc:Calls P f args w' R) (hy2:∃ v w',(execOp a.eval oj).run P w=.ok (.value v) w' /\ Ψ v w')
  (h1:∀ e w'',R e w'' -> ∃ v,e=.returned v /\ S w'' /\ WT P ops Q S k n plan (m + 1) (a.put oi.dst v) w'') (h2:∀ v w',Ψ v w' -> S w' /\ WT P ops Q S k n plan2 (m + 1) (a.put oj.dst v) w'):WT P ops Q S k n plan m a w:=by
 obtain ⟨v2,w2,e2,f2⟩:=hy2;exact WT.fork i j plan2 hi hj hok hw hw2 (by unfold Oper.wp;rw [hy];exact hc.mono fun e w'' hR=>by obtain ⟨v,rfl,h3,h4⟩:=h1 e w'' hR;exact ⟨h3,h4⟩) (by unfold Oper.wp;rw [e2];exact h2 v2 w2 f2)
end
end Go.Lk
namespace Go.Proofs.YtpjomdmjohjheaaGreatDoor
open Go.RowKit Go.Lk Go.Vfs Go.Log
theorem el109:ElemT Tryz.prog 109 9 1 16 (.string ByteArray.empty):=⟨by kernel_rfl,by kernel_rfl,rfl,by decide⟩
def SwK (w2:World) (L:Lg) (s n:Nat) (b20 b7:Nat) (u:World):Prop :=
 u.heap[b20]?=some (.cells #[.string (manf L.name),.string (snf L.name s),.string (sgf L.name n)] 9 (0,0)) /\ u.heap[b7]?=some (.cells #[.slice (some ⟨b20,0,none⟩) 3 3] 109 (0,0)) /\ Keeps Nb w2 u /\ w2.heap.size <= b20 /\ w2.heap.size <= b7
def SwI (w6:World) (l d:Nat) (Fd Rd FL RL:Nat -> Prop) (b6:Nat) (L:Lg) (X:Ds) (s n:Nat) (l0:List ByteArray) (er:Int) (W:World):Prop :=
 ∃ X' Fd' Rd' FL' RL',LgAt W l d Fd' Rd' FL' RL' L X' /\ (∀ k,Fd' k -> Fd k \/ w6.heap.size + 2 <= k) /\ (∀ k,Rd' k -> Rd k \/ w6.heap.size + 2 <= k) /\ (∀ k,FL' k -> FL k \/ w6.heap.size + 2 <= k) /\ (∀ k,RL' k -> RL k \/ w6.heap.size + 2 <= k) /\
  askO ((l0.filter (swept L.name s n)).map rmO) X er X' /\ (er=0 -> pot X' <= pot X) /\ pot X' <= pot X + 1 /\ Keeps (fun b=>w6.heap.size <= b \/ Fd b \/ b=b6) w6 W
theorem SwI.book {w6 A B:World} {l d:Nat} {Fd Rd FL RL:Nat -> Prop} {b6:Nat} {L:Lg} {X:Ds} {s n:Nat} {l0:List ByteArray} {er:Int} (h:SwI w6 l d Fd Rd FL RL b6 L X s n l0 er A) (k:Keeps (Book w6) A B)
  (h0:∀ k,(Fd k \/ Rd k \/ FL k \/ RL k) -> k < w6.heap.size):SwI w6 l d Fd Rd FL RL b6 L X s n l0 er B:=by
 obtain ⟨X',Fd',Rd',FL',RL',h1,h2,h3,h4,h5,h6,h7,h8,h9⟩:=h;refine ⟨X',Fd',Rd',FL',RL',h1.keeps k (fun j hj e=>?_) (fun j hj e=>?_) (fun j hj e=>?_) (fun j hj e=>?_),h2,h3,h4,h5,h6,h7,h8,h9.trans k (fun j hj e=>by unfold Book at e;omega)⟩
 ·unfold Book at e;exact (h2 j hj).elim (fun e2=>by have:=h0 j (.inl e2);omega) (fun e2=>by omega)
 ·unfold Book at e;exact (h3 j hj).elim (fun e2=>by have:=h0 j (.inr (.inl e2));omega) (fun e2=>by omega)
 ·unfold Book at e;exact (h4 j hj).elim (fun e2=>by have:=h0 j (.inr (.inr (.inl e2)));omega) (fun e2=>by omega)
 ·unfold Book at e;exact (h5 j hj).elim (fun e2=>by have:=h0 j (.inr (.inr (.inr e2)));omega) (fun e2=>by omega)
theorem SwI.box {w6 A B:World} {l d:Nat} {Fd Rd FL RL:Nat -> Prop} {b6:Nat} {L:Lg} {X:Ds} {s n:Nat} {l0:List ByteArray} {er:Int} (h:SwI w6 l d Fd Rd FL RL b6 L X s n l0 er A) (k:Keeps (·=b6) A B)
  (h0:∀ k,(Fd k \/ Rd k \/ FL k \/ RL k) -> k < b6) (hb:b6 < w6.heap.size):SwI w6 l d Fd Rd FL RL b6 L X s n l0 er B:=by
 obtain ⟨X',Fd',Rd',FL',RL',h1,h2,h3,h4,h5,h6,h7,h8,h9⟩:=h;refine ⟨X',Fd',Rd',FL',RL',h1.keeps k (fun j hj e=>?_) (fun j hj e=>?_) (fun j hj e=>?_) (fun j hj e=>?_),h2,h3,h4,h5,h6,h7,h8,h9.trans k (fun j hj e=>.inr (.inr e))⟩
 ·exact (h2 j hj).elim (fun e2=>by have:=h0 j (.inl e2);omega) (fun e2=>by omega)
 ·exact (h3 j hj).elim (fun e2=>by have:=h0 j (.inr (.inl e2));omega) (fun e2=>by omega)
 ·exact (h4 j hj).elim (fun e2=>by have:=h0 j (.inr (.inr (.inl e2)));omega) (fun e2=>by omega)
 ·exact (h5 j hj).elim (fun e2=>by have:=h0 j (.inr (.inr (.inr e2)));omega) (fun e2=>by omega)
theorem zbs {ns:List ByteArray} {i:Nat} {nm:ByteArray} (h:ns[i]?=some nm) (p:ByteArray -> Bool):(ns.take (i + 1)).filter p=(ns.take i).filter p ++ if p nm=true then [nm] else []:=by
 have hil:=(List.getElem?_eq_some_iff.1 h).1;rw [List.take_succ_eq_append_getElem hil,(List.getElem?_eq_some_iff.1 h).2,List.filter_append];cases hp:p nm <;> simp [hp]
theorem SwI.skip {w6 A B:World} {l d:Nat} {Fd Rd FL RL:Nat -> Prop} {b6:Nat} {L:Lg} {X:Ds} {s n i:Nat} {ns:List ByteArray} {nm:ByteArray} (h:SwI w6 l d Fd Rd FL RL b6 L X s n (ns.take i) 0 A) (hi:ns[i]?=some nm) (hsw:swept L.name s n nm=false) (k:Keeps Nb A B) :
  SwI w6 l d Fd Rd FL RL b6 L X s n (ns.take (i + 1)) 0 B:=by
 obtain ⟨X',Fd',Rd',FL',RL',h1,h2,h3,h4,h5,h6,h7,h8,h9⟩:=h;exact ⟨X',Fd',Rd',FL',RL',h1.nb k,h2,h3,h4,h5,by rw [zbs hi,if_neg (by rw [hsw];decide),List.append_nil];exact h6,h7,h8,h9.trans_nb k⟩
theorem SwI.rem {w6 A B:World} {l d:Nat} {Fd Rd FL RL Fd' Rd' FL' RL':Nat -> Prop} {b6:Nat} {L:Lg} {X X':Ds} {s n i:Nat} {ns:List ByteArray} {nm:ByteArray} {er:Int} {D':Dk} (g1:LgAt A l d Fd' Rd' FL' RL' L X')
  (g2:∀ k,Fd' k -> Fd k \/ w6.heap.size + 2 <= k) (g3:∀ k,Rd' k -> Rd k \/ w6.heap.size + 2 <= k) (g4:∀ k,FL' k -> FL k \/ w6.heap.size + 2 <= k) (g5:∀ k,RL' k -> RL k \/ w6.heap.size + 2 <= k)
  (g6:askO (((ns.take i).filter (swept L.name s n)).map rmO) X 0 X') (g7:pot X' <= pot X) (g9:Keeps (fun b=>w6.heap.size <= b \/ Fd b \/ b=b6) w6 A) (hz:w6.heap.size + 2 <= A.heap.size) (hi:ns[i]?=some nm) (hsw:swept L.name s n nm=true)
  (hn:Now A B d Fd' Rd' D' X'.fc) (hr:RemR X'.D nm er D') :
  (er=0 -> SwI w6 l d Fd Rd FL RL b6 L X s n (ns.take (i + 1)) 0 B) /\ (er ≠ 0 -> SwI w6 l d Fd Rd FL RL b6 L X s n ns er B) /\ Keeps (fun b=>Fd b \/ w6.heap.size + 2 <= b) A B:=by
 have ho:rmO nm X' er ⟨D',X'.fc⟩:=⟨hr,rfl⟩
 have hp:=z9s ho;have hk:Keeps Fd' A B:=by obtain ⟨_,_,_,_,_,hk⟩:=hn;exact hk
 obtain ⟨Fd2,Rd2,FL2,RL2,h1,h2,h3,h4,h5,h6⟩:=g1.disk_now (Y:=⟨D',X'.fc⟩) hn g1.lt6;have hkS:Keeps (fun b=>w6.heap.size <= b \/ Fd b \/ b=b6) w6 B:=g9.trans hk (fun j hj e=>(g2 j e).elim (fun e=>.inr (.inl e)) (fun e=>by omega));have c2:∀ k,Fd2 k -> Fd k \/ w6.heap.size + 2 <= k:=fun k e=>(h2 k e).elim (g2 k) (fun e=>.inr (by omega));have c3:∀ k,Rd2 k -> Rd k \/ w6.heap.size + 2 <= k:=fun k e=>(h3 k e).elim (g3 k) (fun e=>.inr (by omega));have c4:∀ k,FL2 k -> FL k \/ w6.heap.size + 2 <= k:=fun k e=>(h4 k e).elim (g4 k) (fun e=>.inr (by omega));have c5:∀ k,RL2 k -> RL k \/ w6.heap.size + 2 <= k:=fun k e=>(h5 k e).elim (g5 k) (fun e=>.inr (by omega));refine ⟨fun h0=>?_,fun h0=>?_,hk.mono (fun k _ e=>g2 k e)⟩
 ·
  subst h0;refine ⟨_,Fd2,Rd2,FL2,RL2,h1,c2,c3,c4,c5,?_,fun _=>?_,?_,hkS⟩
  ·rw [zbs hi,if_pos hsw,List.map_append];exact z81 g6 ho
  ·have:=hp.2 rfl;omega
  ·have:=hp.1;omega
 ·
  refine ⟨_,Fd2,Rd2,FL2,RL2,h1,c2,c3,c4,c5,?_,fun h=>absurd h h0,?_,hkS⟩
  ·
   have e:ns=ns.take i ++ nm :: ns.drop (i + 1):=by
    have hil:=(List.getElem?_eq_some_iff.1 hi).1;rw [<- (List.getElem?_eq_some_iff.1 hi).2,<- List.drop_eq_getElem_cons hil,List.take_append_drop]
   rw [e,List.filter_append,List.filter_cons_of_pos hsw,List.map_append,List.map_cons];exact z82 g6 ho h0
  ·have:=hp.1;omega
def SwX (w6:World) (l d:Nat) (Fd Rd FL RL:Nat -> Prop) (b6:Nat) (L:Lg) (X:Ds) (s n:Nat) (ns:List ByteArray) (c:Code) (W:World):Prop :=
 c=.ret /\ ∃ er,er ≠ 0 /\ SwI w6 l d Fd Rd FL RL b6 L X s n ns er W /\ W.heap[b6]?=some (.cells #[.int .i64 er] 24 (0,0))
theorem SwX.book {w6 A B:World} {l d:Nat} {Fd Rd FL RL:Nat -> Prop} {b6:Nat} {L:Lg} {X:Ds} {s n:Nat} {ns:List ByteArray} {c:Code} (h:SwX w6 l d Fd Rd FL RL b6 L X s n ns c A) (k:Keeps (Book w6) A B)
  (h0:∀ k,(Fd k \/ Rd k \/ FL k \/ RL k) -> k < w6.heap.size) (hb:¬ Book w6 b6):SwX w6 l d Fd Rd FL RL b6 L X s n ns c B:=by
 obtain ⟨h1,er,h2,h3,h4⟩:=h;exact ⟨h1,er,h2,h3.book k h0,k.at h4 hb⟩
theorem SwI.fin {w w6 W:World} {l d:Nat} {Fd Rd FL RL:Nat -> Prop} {b6:Nat} {L:Lg} {X:Ds} {s n:Nat} {ns:List ByteArray} {er:Int} (h:SwI w6 l d Fd Rd FL RL b6 L X s n ns er W) (hk:Keeps Nb w w6) (hb:w.heap.size <= b6) (hp:ns.Perm (X.D.files.map Prod.fst)) :
  OpE w l d Fd Rd FL RL L X 1 (sweepO L.name s n) (.returned (.int .i64 er)) W:=by
 obtain ⟨X',Fd',Rd',FL',RL',h1,h2,h3,h4,h5,h6,h7,h8,h9⟩:=h;have hz:=hk.size;refine ⟨er,X',L,rfl,⟨Fd',Rd',FL',RL',h1,fun k e=>(h2 k e).imp id (fun e=>by omega),fun k e=>(h3 k e).imp id (fun e=>by omega),fun k e=>(h4 k e).imp id (fun e=>by omega),fun k e=>(h5 k e).imp id (fun e=>by omega),hk.of_nb.trans h9 (fun j hj e=>?_)⟩,⟨ns,hp,h6⟩,fun _=>rfl,.inl rfl,h8⟩;rcases e with e | e | e
 ·omega
 ·exact .inl e
 ·omega
theorem zfy (l d s n:Nat) (Fd Rd FL RL:Nat -> Prop) (L:Lg) (X:Ds) (w:World) (h:LgAt w l d Fd Rd FL RL L X) (hv:Vars w) (hs:s <= 4294967296) (hn:n <= 4294967296) (hp:pot X + 1 <= 999999) :
  Calls Tryz.prog 79 #[.pointer (some ⟨l,0,none⟩),.int .i64 s,.int .i64 n] w (OpE w l d Fd Rd FL RL L X 1 (sweepO L.name s n)):=by
 have H:=qq h;have HV:=qq hv;have HP:=qq hp;have h16:=h.nums.n16;clear h hv hp;refine z1b Tryz.func79 rfl ?_;simp only [Tryz.ntmps79,List.size_toArray,List.length_cons,List.length_nil,Nat.reduceAdd,Nat.reduceSub,Array.replicate_succ,Array.replicate_zero,List.push_toArray,List.append_toArray,List.nil_append,List.cons_append];go_wp2_with (first | go_skip | (with_reducible refine zo (t:=40) ?_))
 refine za (vbox1 (v:=.pointer (some ⟨l,0,none⟩)) (by rfl) rfl ?_);intro b3 w1 n1;simp only [Nat.reduceAdd,qn];go_wp2_with (first | go_skip | (with_reducible refine qv (by decide) ?_))
 refine za (valloc (z:=.int .i64 0) (by kernel_rfl) ?_);intro b6 w2 n2;simp only [Nat.reduceAdd,qn];have B3:=qq (n2.k.nb n1.blk);have B6:=qq n2.blk;have K2:=qq (n1.k.trans_nb n2.k);have G:Hid (w.heap.size <= b3 /\ b3 < b6 /\ b6 < w2.heap.size):=qq ⟨n1.ge,by have:=n1.lt;have:=n2.ge;omega,n2.lt⟩;clear n1 n2;have H2:=qq (H.out.nb K2.out);obtain ⟨sv,lv,hcs⟩:=H2.out.cells;have HC:=qq hcs;have HV2:=qq (HV.out.nb K2.out);clear hcs;go_wp2;apply via (Φ:=SwK w2 L s n)
 case main =>
  intro key;refine WT.region (fun u:World=>u.cell? ⟨b3,0,none⟩=some (.pointer (some ⟨l,0,none⟩))) 10 11 [0,2,3,5,6,1,4,7,8,9,10] (by kernel_rfl) rfl ?_;obtain ⟨x0,hx0⟩:∃ u,u=w2.drew:=⟨_,rfl⟩
  have K_x0:Hid (Keeps Nb w2 x0):=qq (by rw [hx0];exact (Keeps.refl _ w2).drew);rw [<- hx0];clear hx0;have HS:Hid ((fun u:World=>u.cell? ⟨b3,0,none⟩=some (.pointer (some ⟨l,0,none⟩))) x0):=qq ((cell_of_block (K_x0.out.nb B3.out)).trans rfl);refine WT.t 0 (v:=.pointer (some ⟨l,0,none⟩)) (y:=by rintro w C1;exact zb (by kernel_rfl) (by rfl) C1) (s:=HS.out) (h:=?_);refine WT.t 2 (v:=.pointer (some ⟨l,0,none⟩)) (y:=by rintro w C1;exact zb (by kernel_rfl) (by rfl) C1) (s:=HS.out) (h:=?_);refine WT.t 3 (v:=_) (y:=by rintro w C1;go_simp;with_reducible rfl) (s:=HS.out) (h:=?_);refine WT.t 5 (v:=.pointer (some ⟨l,0,none⟩)) (y:=by rintro w C1;exact zb (by kernel_rfl) (by rfl) C1) (s:=HS.out) (h:=?_);refine WT.t 6 (v:=_) (y:=by rintro w C1;go_simp;with_reducible rfl) (s:=HS.out) (h:=?_);have FA:=qq (z1c l L.name sMan x0 ((cell_of_block (HC.out _ K_x0.out)).trans rfl) (by omega) (by decide));refine WT.forkC 1 9 [0,2,3,5,6,9,1,4,7,8,10] (by simp only [qi];rfl) (by simp only [qi];rfl) (by kernel_rfl) (by rfl) (by rfl) (by go_simp;first | done | rfl | exact ⟨⟨rfl,rfl⟩,rfl⟩ | exact ⟨⟨rfl,rfl,rfl⟩,rfl⟩ | exact ⟨⟨rfl,rfl,rfl,rfl⟩,rfl⟩ | exact ⟨⟨rfl,rfl,rfl,rfl,rfl⟩,rfl⟩) FA.out (z3c (z:=.slice none 0 0) (by kernel_rfl)) ?_ ?_
  ·
   rintro _ _ ⟨rfl,rfl⟩;clear FA;refine ⟨_,rfl,HS.out,?_⟩;simp only [Nat.reduceAdd,qn];have SA:=qq (z40 l L.name s x0 (HV2.out.nb K_x0.out) ((cell_of_block (HC.out _ K_x0.out)).trans rfl) (by omega) (by omega));refine WT.forkC 4 9 [0,2,3,5,6,1,9,4,7,8,10] (by simp only [qi];rfl) (by simp only [qi];rfl) (by kernel_rfl) (by rfl) (by rfl) (by go_simp;first | done | rfl | exact ⟨⟨rfl,rfl⟩,rfl⟩ | exact ⟨⟨rfl,rfl,rfl⟩,rfl⟩ | exact ⟨⟨rfl,rfl,rfl,rfl⟩,rfl⟩ | exact ⟨⟨rfl,rfl,rfl,rfl,rfl⟩,rfl⟩) SA.out (z3c (z:=.slice none 0 0) (by kernel_rfl)) ?_ ?_
   ·
    skip
    rintro _ x1 ⟨rfl,k_x1⟩;have K_x1:Hid (Keeps Nb w2 x1):=qq (K_x0.out.trans_nb k_x1);replace HS:Hid ((fun u:World=>u.cell? ⟨b3,0,none⟩=some (.pointer (some ⟨l,0,none⟩))) x1):=qq ((cell_of_block (K_x1.out.nb B3.out)).trans rfl);clear SA;refine ⟨_,rfl,HS.out,?_⟩;simp only [Nat.reduceAdd,qn];have SA:=qq (z0t l L.name n x1 (HV2.out.nb K_x1.out) ((cell_of_block (HC.out _ K_x1.out)).trans rfl) (by omega) (by omega));refine WT.forkC 7 9 [0,2,3,5,6,1,4,9,7,8,10] (by simp only [qi];rfl) (by simp only [qi];rfl) (by kernel_rfl) (by rfl) (by rfl) (by go_simp;first | done | rfl | exact ⟨⟨rfl,rfl⟩,rfl⟩ | exact ⟨⟨rfl,rfl,rfl⟩,rfl⟩ | exact ⟨⟨rfl,rfl,rfl,rfl⟩,rfl⟩ | exact ⟨⟨rfl,rfl,rfl,rfl,rfl⟩,rfl⟩) SA.out (z3c (z:=.slice none 0 0) (by kernel_rfl)) ?_ ?_
    ·
     skip
     rintro _ x2 ⟨rfl,k_x2⟩;have K_x2:Hid (Keeps Nb w2 x2):=qq (K_x1.out.trans_nb k_x2);replace HS:Hid ((fun u:World=>u.cell? ⟨b3,0,none⟩=some (.pointer (some ⟨l,0,none⟩))) x2):=qq ((cell_of_block (K_x2.out.nb B3.out)).trans rfl);clear SA;refine ⟨_,rfl,HS.out,?_⟩;simp only [Nat.reduceAdd,qn];refine WT.forkE 8 9 [0,2,3,5,6,1,4,7,9,8,10] (by simp only [qi];rfl) (by simp only [qi];rfl) (by kernel_rfl) (by rfl) (by rfl) (zl el109 [.string (manf L.name),.string (snf L.name s),.string (sgf L.name n)] rfl (by simp [List.range'_succ];first | done | rfl | exact ⟨rfl,rfl⟩ | exact ⟨rfl,rfl,rfl⟩ | exact ⟨rfl,rfl,rfl,rfl⟩ | exact ⟨rfl,rfl,rfl,rfl,rfl⟩ | exact ⟨rfl,rfl,rfl,rfl,rfl,rfl⟩) (by simp [Value.cells]) (by simp)) (z3c (z:=.slice none 0 0) (by kernel_rfl)) ?_ ?_
     ·
      skip
      rintro _ x3 ⟨b20,rfl,n_x3⟩;have K_x3:Hid (Keeps Nb w2 x3):=qq (K_x2.out.trans_nb n_x3.k);have B_x3:Hid (x3.heap[b20]?=some (.cells #[.string (manf L.name),.string (snf L.name s),.string (sgf L.name n)] 9 (0,0))):=qq n_x3.blk;have G_20:Hid (w2.heap.size <= b20):=qq (by have:=n_x3.ge;have:=K_x2.out.size;omega);replace HS:Hid ((fun u:World=>u.cell? ⟨b3,0,none⟩=some (.pointer (some ⟨l,0,none⟩))) x3):=qq ((cell_of_block (K_x3.out.nb B3.out)).trans rfl);refine ⟨HS.out,?_⟩;simp only [Nat.reduceAdd,qn];refine WT.o 9 (y:=z3c (z:=.slice none 0 0) (by kernel_rfl)) (h:=?_);rintro _ x4 ⟨b7,rfl,n7⟩;have K_x4:Hid (Keeps Nb w2 x4):=qq (K_x3.out.trans_nb n7.k);have A_x4:Hid (x4.heap[b7]?=some (.cells (Value.slice none 0 0).cells 109 (0,0))):=qq n7.blk;have B_x4:=qq (n7.k.nb B_x3.out);have G_7:Hid (w2.heap.size <= b7):=qq (by have:=n7.ge;have:=K_x3.out.size;omega);have h7_20:b7 ≠ b20:=fun e=>by have:=lt_of_block B_x3.out;have:=n7.ge;omega
      replace HS:Hid ((fun u:World=>u.cell? ⟨b3,0,none⟩=some (.pointer (some ⟨l,0,none⟩))) x4):=qq ((cell_of_block (K_x4.out.nb B3.out)).trans rfl);refine ⟨HS.out,?_⟩;simp only [Nat.reduceAdd,qn];refine WT.stop (by kernel_rfl) ?_;refine WP.onlySkipE 10 (by simp only [qi];rfl) (by kernel_rfl) (by rfl) (zd (v:=.slice (some ⟨b20,0,none⟩) 3 3) (n:=1) (by kernel_rfl) (by rfl) (by rfl) A_x4.out (by rfl) (by simp [Value.cells]) (by simp [Value.cells,Value.oneCell'])) ?_;intro wz sz;simp only [Nat.reduceAdd,qn];refine WP.done (by kernel_rfl) ?_;exact key b20 b7 wz ⟨sz.k.at B_x4.out (fun e=>h7_20 e.symm),sz.blk,(K_x4.out.own (k:=b7) G_7.out sz.k),G_20.out,G_7.out⟩
     ·
      skip
      rintro _ x3 ⟨b7,rfl,n_x3⟩;have K_x3:Hid (Keeps Nb w2 x3):=qq (K_x2.out.trans_nb n_x3.k);have A_x3:Hid (x3.heap[b7]?=some (.cells (Value.slice none 0 0).cells 109 (0,0))):=qq n_x3.blk;have G_7:Hid (w2.heap.size <= b7):=qq (by have:=n_x3.ge;have:=K_x2.out.size;omega);have HS:Hid ((fun u:World=>u.cell? ⟨b3,0,none⟩=some (.pointer (some ⟨l,0,none⟩))) x3):=qq ((cell_of_block (K_x3.out.nb B3.out)).trans rfl);clear n_x3;refine ⟨HS.out,?_⟩;simp only [Nat.reduceAdd,qn];refine WT.o 8 (y:=zl el109 [.string (manf L.name),.string (snf L.name s),.string (sgf L.name n)] rfl (by simp [List.range'_succ];first | done | rfl | exact ⟨rfl,rfl⟩ | exact ⟨rfl,rfl,rfl⟩ | exact ⟨rfl,rfl,rfl,rfl⟩ | exact ⟨rfl,rfl,rfl,rfl,rfl⟩ | exact ⟨rfl,rfl,rfl,rfl,rfl,rfl⟩) (by simp [Value.cells]) (by simp)) (h:=?_);rintro _ x4 ⟨b20,rfl,n_x4⟩;have K_x4:Hid (Keeps Nb w2 x4):=qq (K_x3.out.trans_nb n_x4.k);have B_x4:Hid (x4.heap[b20]?=some (.cells #[.string (manf L.name),.string (snf L.name s),.string (sgf L.name n)] 9 (0,0))):=qq n_x4.blk;have G_20:Hid (w2.heap.size <= b20):=qq (by have:=n_x4.ge;have:=K_x3.out.size;omega);replace HS:Hid ((fun u:World=>u.cell? ⟨b3,0,none⟩=some (.pointer (some ⟨l,0,none⟩))) x4):=qq ((cell_of_block (K_x4.out.nb B3.out)).trans rfl);refine ⟨HS.out,?_⟩;simp only [Nat.reduceAdd,qn];have A_x4:=qq (n_x4.k.nb A_x3.out);have h7_20:b7 ≠ b20:=fun e=>by have:=lt_of_block A_x3.out;have:=n_x4.ge;omega
      refine WT.stop (by kernel_rfl) ?_;refine WP.onlySkipE 10 (by simp only [qi];rfl) (by kernel_rfl) (by rfl) (zd (v:=.slice (some ⟨b20,0,none⟩) 3 3) (n:=1) (by kernel_rfl) (by rfl) (by rfl) A_x4.out (by rfl) (by simp [Value.cells]) (by simp [Value.cells,Value.oneCell'])) ?_;intro wz sz;simp only [Nat.reduceAdd,qn];refine WP.done (by kernel_rfl) ?_;exact key b20 b7 wz ⟨sz.k.at B_x4.out (fun e=>h7_20 e.symm),sz.blk,(K_x4.out.own (k:=b7) G_7.out sz.k),G_20.out,G_7.out⟩
    ·
     skip
     rintro _ x2 ⟨b7,rfl,n_x2⟩;have K_x2:Hid (Keeps Nb w2 x2):=qq (K_x1.out.trans_nb n_x2.k);have A_x2:Hid (x2.heap[b7]?=some (.cells (Value.slice none 0 0).cells 109 (0,0))):=qq n_x2.blk;have G_7:Hid (w2.heap.size <= b7):=qq (by have:=n_x2.ge;have:=K_x1.out.size;omega);have HS:Hid ((fun u:World=>u.cell? ⟨b3,0,none⟩=some (.pointer (some ⟨l,0,none⟩))) x2):=qq ((cell_of_block (K_x2.out.nb B3.out)).trans rfl);clear n_x2;refine ⟨HS.out,?_⟩;simp only [Nat.reduceAdd,qn];have SA:=qq (z0t l L.name n x2 (HV2.out.nb K_x2.out) ((cell_of_block (HC.out _ K_x2.out)).trans rfl) (by omega) (by omega));refine WT.call 7 (by simp only [qi];rfl) (by kernel_rfl) (by rfl) (by go_simp;first | done | rfl | exact ⟨⟨rfl,rfl⟩,rfl⟩ | exact ⟨⟨rfl,rfl,rfl⟩,rfl⟩ | exact ⟨⟨rfl,rfl,rfl,rfl⟩,rfl⟩ | exact ⟨⟨rfl,rfl,rfl,rfl,rfl⟩,rfl⟩) SA.out ?_;rintro _ x3 ⟨rfl,k_x3⟩;have K_x3:Hid (Keeps Nb w2 x3):=qq (K_x2.out.trans_nb k_x3);replace HS:Hid ((fun u:World=>u.cell? ⟨b3,0,none⟩=some (.pointer (some ⟨l,0,none⟩))) x3):=qq ((cell_of_block (K_x3.out.nb B3.out)).trans rfl);clear SA;refine ⟨_,rfl,HS.out,?_⟩;simp only [Nat.reduceAdd,qn];have A_x3:=qq (k_x3.nb A_x2.out);refine WT.o 8 (y:=zl el109 [.string (manf L.name),.string (snf L.name s),.string (sgf L.name n)] rfl (by simp [List.range'_succ];first | done | rfl | exact ⟨rfl,rfl⟩ | exact ⟨rfl,rfl,rfl⟩ | exact ⟨rfl,rfl,rfl,rfl⟩ | exact ⟨rfl,rfl,rfl,rfl,rfl⟩ | exact ⟨rfl,rfl,rfl,rfl,rfl,rfl⟩) (by simp [Value.cells]) (by simp)) (h:=?_);rintro _ x4 ⟨b20,rfl,n_x4⟩;have K_x4:Hid (Keeps Nb w2 x4):=qq (K_x3.out.trans_nb n_x4.k);have B_x4:Hid (x4.heap[b20]?=some (.cells #[.string (manf L.name),.string (snf L.name s),.string (sgf L.name n)] 9 (0,0))):=qq n_x4.blk;have G_20:Hid (w2.heap.size <= b20):=qq (by have:=n_x4.ge;have:=K_x3.out.size;omega);replace HS:Hid ((fun u:World=>u.cell? ⟨b3,0,none⟩=some (.pointer (some ⟨l,0,none⟩))) x4):=qq ((cell_of_block (K_x4.out.nb B3.out)).trans rfl);refine ⟨HS.out,?_⟩;simp only [Nat.reduceAdd,qn];have A_x4:=qq (n_x4.k.nb A_x3.out);have h7_20:b7 ≠ b20:=fun e=>by have:=lt_of_block A_x3.out;have:=n_x4.ge;omega
     refine WT.stop (by kernel_rfl) ?_;refine WP.onlySkipE 10 (by simp only [qi];rfl) (by kernel_rfl) (by rfl) (zd (v:=.slice (some ⟨b20,0,none⟩) 3 3) (n:=1) (by kernel_rfl) (by rfl) (by rfl) A_x4.out (by rfl) (by simp [Value.cells]) (by simp [Value.cells,Value.oneCell'])) ?_;intro wz sz;simp only [Nat.reduceAdd,qn];refine WP.done (by kernel_rfl) ?_;exact key b20 b7 wz ⟨sz.k.at B_x4.out (fun e=>h7_20 e.symm),sz.blk,(K_x4.out.own (k:=b7) G_7.out sz.k),G_20.out,G_7.out⟩
   ·
    skip
    rintro _ x1 ⟨b7,rfl,n_x1⟩;have K_x1:Hid (Keeps Nb w2 x1):=qq (K_x0.out.trans_nb n_x1.k);have A_x1:Hid (x1.heap[b7]?=some (.cells (Value.slice none 0 0).cells 109 (0,0))):=qq n_x1.blk;have G_7:Hid (w2.heap.size <= b7):=qq (by have:=n_x1.ge;have:=K_x0.out.size;omega);have HS:Hid ((fun u:World=>u.cell? ⟨b3,0,none⟩=some (.pointer (some ⟨l,0,none⟩))) x1):=qq ((cell_of_block (K_x1.out.nb B3.out)).trans rfl);clear n_x1;refine ⟨HS.out,?_⟩;simp only [Nat.reduceAdd,qn];have SA:=qq (z40 l L.name s x1 (HV2.out.nb K_x1.out) ((cell_of_block (HC.out _ K_x1.out)).trans rfl) (by omega) (by omega));refine WT.call 4 (by simp only [qi];rfl) (by kernel_rfl) (by rfl) (by go_simp;first | done | rfl | exact ⟨⟨rfl,rfl⟩,rfl⟩ | exact ⟨⟨rfl,rfl,rfl⟩,rfl⟩ | exact ⟨⟨rfl,rfl,rfl,rfl⟩,rfl⟩ | exact ⟨⟨rfl,rfl,rfl,rfl,rfl⟩,rfl⟩) SA.out ?_;rintro _ x2 ⟨rfl,k_x2⟩;have K_x2:Hid (Keeps Nb w2 x2):=qq (K_x1.out.trans_nb k_x2);replace HS:Hid ((fun u:World=>u.cell? ⟨b3,0,none⟩=some (.pointer (some ⟨l,0,none⟩))) x2):=qq ((cell_of_block (K_x2.out.nb B3.out)).trans rfl);clear SA;refine ⟨_,rfl,HS.out,?_⟩;simp only [Nat.reduceAdd,qn];have A_x2:=qq (k_x2.nb A_x1.out);have SA:=qq (z0t l L.name n x2 (HV2.out.nb K_x2.out) ((cell_of_block (HC.out _ K_x2.out)).trans rfl) (by omega) (by omega));refine WT.call 7 (by simp only [qi];rfl) (by kernel_rfl) (by rfl) (by go_simp;first | done | rfl | exact ⟨⟨rfl,rfl⟩,rfl⟩ | exact ⟨⟨rfl,rfl,rfl⟩,rfl⟩ | exact ⟨⟨rfl,rfl,rfl,rfl⟩,rfl⟩ | exact ⟨⟨rfl,rfl,rfl,rfl,rfl⟩,rfl⟩) SA.out ?_;rintro _ x3 ⟨rfl,k_x3⟩;have K_x3:Hid (Keeps Nb w2 x3):=qq (K_x2.out.trans_nb k_x3);replace HS:Hid ((fun u:World=>u.cell? ⟨b3,0,none⟩=some (.pointer (some ⟨l,0,none⟩))) x3):=qq ((cell_of_block (K_x3.out.nb B3.out)).trans rfl);clear SA;refine ⟨_,rfl,HS.out,?_⟩;simp only [Nat.reduceAdd,qn];have A_x3:=qq (k_x3.nb A_x2.out);refine WT.o 8 (y:=zl el109 [.string (manf L.name),.string (snf L.name s),.string (sgf L.name n)] rfl (by simp [List.range'_succ];first | done | rfl | exact ⟨rfl,rfl⟩ | exact ⟨rfl,rfl,rfl⟩ | exact ⟨rfl,rfl,rfl,rfl⟩ | exact ⟨rfl,rfl,rfl,rfl,rfl⟩ | exact ⟨rfl,rfl,rfl,rfl,rfl,rfl⟩) (by simp [Value.cells]) (by simp)) (h:=?_);rintro _ x4 ⟨b20,rfl,n_x4⟩;have K_x4:Hid (Keeps Nb w2 x4):=qq (K_x3.out.trans_nb n_x4.k);have B_x4:Hid (x4.heap[b20]?=some (.cells #[.string (manf L.name),.string (snf L.name s),.string (sgf L.name n)] 9 (0,0))):=qq n_x4.blk;have G_20:Hid (w2.heap.size <= b20):=qq (by have:=n_x4.ge;have:=K_x3.out.size;omega);replace HS:Hid ((fun u:World=>u.cell? ⟨b3,0,none⟩=some (.pointer (some ⟨l,0,none⟩))) x4):=qq ((cell_of_block (K_x4.out.nb B3.out)).trans rfl);refine ⟨HS.out,?_⟩;simp only [Nat.reduceAdd,qn];have A_x4:=qq (n_x4.k.nb A_x3.out);have h7_20:b7 ≠ b20:=fun e=>by have:=lt_of_block A_x3.out;have:=n_x4.ge;omega
    refine WT.stop (by kernel_rfl) ?_;refine WP.onlySkipE 10 (by simp only [qi];rfl) (by kernel_rfl) (by rfl) (zd (v:=.slice (some ⟨b20,0,none⟩) 3 3) (n:=1) (by kernel_rfl) (by rfl) (by rfl) A_x4.out (by rfl) (by simp [Value.cells]) (by simp [Value.cells,Value.oneCell'])) ?_;intro wz sz;simp only [Nat.reduceAdd,qn];refine WP.done (by kernel_rfl) ?_;exact key b20 b7 wz ⟨sz.k.at B_x4.out (fun e=>h7_20 e.symm),sz.blk,(K_x4.out.own (k:=b7) G_7.out sz.k),G_20.out,G_7.out⟩
  ·
   skip
   rintro _ x1 ⟨b7,rfl,n_x1⟩;have K_x1:Hid (Keeps Nb w2 x1):=qq (K_x0.out.trans_nb n_x1.k);have A_x1:Hid (x1.heap[b7]?=some (.cells (Value.slice none 0 0).cells 109 (0,0))):=qq n_x1.blk;have G_7:Hid (w2.heap.size <= b7):=qq (by have:=n_x1.ge;have:=K_x0.out.size;omega);have HS:Hid ((fun u:World=>u.cell? ⟨b3,0,none⟩=some (.pointer (some ⟨l,0,none⟩))) x1):=qq ((cell_of_block (K_x1.out.nb B3.out)).trans rfl);clear n_x1;refine ⟨HS.out,?_⟩;simp only [Nat.reduceAdd,qn];have FA:=qq (z1c l L.name sMan x1 ((cell_of_block (HC.out _ K_x1.out)).trans rfl) (by omega) (by decide));refine WT.call 1 (by simp only [qi];rfl) (by kernel_rfl) (by rfl) (by go_simp;first | done | rfl | exact ⟨⟨rfl,rfl⟩,rfl⟩ | exact ⟨⟨rfl,rfl,rfl⟩,rfl⟩ | exact ⟨⟨rfl,rfl,rfl,rfl⟩,rfl⟩ | exact ⟨⟨rfl,rfl,rfl,rfl,rfl⟩,rfl⟩) FA.out ?_;rintro _ _ ⟨rfl,rfl⟩;clear FA;refine ⟨_,rfl,HS.out,?_⟩;simp only [Nat.reduceAdd,qn];have SA:=qq (z40 l L.name s x1 (HV2.out.nb K_x1.out) ((cell_of_block (HC.out _ K_x1.out)).trans rfl) (by omega) (by omega));refine WT.call 4 (by simp only [qi];rfl) (by kernel_rfl) (by rfl) (by go_simp;first | done | rfl | exact ⟨⟨rfl,rfl⟩,rfl⟩ | exact ⟨⟨rfl,rfl,rfl⟩,rfl⟩ | exact ⟨⟨rfl,rfl,rfl,rfl⟩,rfl⟩ | exact ⟨⟨rfl,rfl,rfl,rfl,rfl⟩,rfl⟩) SA.out ?_;rintro _ x2 ⟨rfl,k_x2⟩;have K_x2:Hid (Keeps Nb w2 x2):=qq (K_x1.out.trans_nb k_x2);replace HS:Hid ((fun u:World=>u.cell? ⟨b3,0,none⟩=some (.pointer (some ⟨l,0,none⟩))) x2):=qq ((cell_of_block (K_x2.out.nb B3.out)).trans rfl);clear SA;refine ⟨_,rfl,HS.out,?_⟩;simp only [Nat.reduceAdd,qn];have A_x2:=qq (k_x2.nb A_x1.out);have SA:=qq (z0t l L.name n x2 (HV2.out.nb K_x2.out) ((cell_of_block (HC.out _ K_x2.out)).trans rfl) (by omega) (by omega));refine WT.call 7 (by simp only [qi];rfl) (by kernel_rfl) (by rfl) (by go_simp;first | done | rfl | exact ⟨⟨rfl,rfl⟩,rfl⟩ | exact ⟨⟨rfl,rfl,rfl⟩,rfl⟩ | exact ⟨⟨rfl,rfl,rfl,rfl⟩,rfl⟩ | exact ⟨⟨rfl,rfl,rfl,rfl,rfl⟩,rfl⟩) SA.out ?_;rintro _ x3 ⟨rfl,k_x3⟩;have K_x3:Hid (Keeps Nb w2 x3):=qq (K_x2.out.trans_nb k_x3);replace HS:Hid ((fun u:World=>u.cell? ⟨b3,0,none⟩=some (.pointer (some ⟨l,0,none⟩))) x3):=qq ((cell_of_block (K_x3.out.nb B3.out)).trans rfl);clear SA;refine ⟨_,rfl,HS.out,?_⟩;simp only [Nat.reduceAdd,qn];have A_x3:=qq (k_x3.nb A_x2.out);refine WT.o 8 (y:=zl el109 [.string (manf L.name),.string (snf L.name s),.string (sgf L.name n)] rfl (by simp [List.range'_succ];first | done | rfl | exact ⟨rfl,rfl⟩ | exact ⟨rfl,rfl,rfl⟩ | exact ⟨rfl,rfl,rfl,rfl⟩ | exact ⟨rfl,rfl,rfl,rfl,rfl⟩ | exact ⟨rfl,rfl,rfl,rfl,rfl,rfl⟩) (by simp [Value.cells]) (by simp)) (h:=?_);rintro _ x4 ⟨b20,rfl,n_x4⟩;have K_x4:Hid (Keeps Nb w2 x4):=qq (K_x3.out.trans_nb n_x4.k);have B_x4:Hid (x4.heap[b20]?=some (.cells #[.string (manf L.name),.string (snf L.name s),.string (sgf L.name n)] 9 (0,0))):=qq n_x4.blk;have G_20:Hid (w2.heap.size <= b20):=qq (by have:=n_x4.ge;have:=K_x3.out.size;omega);replace HS:Hid ((fun u:World=>u.cell? ⟨b3,0,none⟩=some (.pointer (some ⟨l,0,none⟩))) x4):=qq ((cell_of_block (K_x4.out.nb B3.out)).trans rfl);refine ⟨HS.out,?_⟩;simp only [Nat.reduceAdd,qn];have A_x4:=qq (n_x4.k.nb A_x3.out);have h7_20:b7 ≠ b20:=fun e=>by have:=lt_of_block A_x3.out;have:=n_x4.ge;omega
   refine WT.stop (by kernel_rfl) ?_;refine WP.onlySkipE 10 (by simp only [qi];rfl) (by kernel_rfl) (by rfl) (zd (v:=.slice (some ⟨b20,0,none⟩) 3 3) (n:=1) (by kernel_rfl) (by rfl) (by rfl) A_x4.out (by rfl) (by simp [Value.cells]) (by simp [Value.cells,Value.oneCell'])) ?_;intro wz sz;simp only [Nat.reduceAdd,qn];refine WP.done (by kernel_rfl) ?_;exact key b20 b7 wz ⟨sz.k.at B_x4.out (fun e=>h7_20 e.symm),sz.blk,(K_x4.out.own (k:=b7) G_7.out sz.k),G_20.out,G_7.out⟩
 case key =>
  rintro b20 b7 w7 ⟨h20,h7,k7,g20,g7⟩;have K7:=qq k7;have B20:=qq h20;have B7:=qq h7;have G7:Hid (w2.heap.size <= b20 /\ w2.heap.size <= b7):=qq ⟨g20,g7⟩;have H7:=qq (H2.out.nb k7);have B37:=qq (k7.nb B3.out);have B67:=qq (k7.nb B6.out);have c3:w7.cell? ⟨b3,0,none⟩=some (.pointer (some ⟨l,0,none⟩)):=(cell_of_block B37.out).trans rfl;have cl:w7.cell? ⟨l,0,none⟩=some (.pointer (some ⟨d,0,none⟩)):=(cell_of_block (HC.out w7 k7)).trans rfl;have FA:=qq (z48 d X.D Fd Rd X.fc w7 H7.out.disk);clear h20 h7 k7 g20 g7;go_wp2_with fail;refine FA.out.mono ?_;rintro _ w8 ⟨ns,hperm,a3,a4,rfl,hfa,k8⟩;obtain ⟨ps,hps⟩:∃ ps,(ns.map fun s=>(s,szOf X.D X.fc s))=ps:=⟨_,rfl⟩
  rw [hps] at hfa;have HPS:=qq hps;have HPM:=qq hperm;have HFA:=qq hfa;have K8:=qq k8;have HLEN:Hid (ps.length=ns.length):=qq (by rw [<- hps,List.length_map]);have z78:=k8.size;have z27:=K7.out.size;have z02:=K2.out.size;have H8:=qq (H7.out.nb k8);have lt2:Hid (∀ k,(Fd k \/ Rd k \/ FL k \/ RL k) -> k < w.heap.size):=qq (fun k e=>e.elim (H.out.disk.ltF k) fun e=>e.elim (H.out.disk.ltR k) fun e=>e.elim (H.out.ltF k) (H.out.ltR k));have I0:Hid (SwI w8 l d Fd Rd FL RL b6 L X s n (ns.take 0) 0 w8):=qq ⟨X,Fd,Rd,FL,RL,H8.out,fun _ e=>.inl e,fun _ e=>.inl e,fun _ e=>.inl e,fun _ e=>.inl e,⟨rfl,rfl⟩,fun _=>by omega,by omega,Keeps.refl _ _⟩;clear hps hperm hfa k8 FA c3 cl;go_wp2_with (with_reducible refine z0z ?_)
  refine za ((wpIn_wide (n:=9)).1 ?_);have l8:∀ k,(Fd k \/ Rd k \/ FL k \/ RL k) -> k < w8.heap.size:=fun k e=>by have:=lt2.out k e;omega
  refine z1o (gf:=95) (lb:=#[.pointer (some ⟨a3,0,none⟩),.pointer (some ⟨a4,0,none⟩)]) (by rfl) (enters_of Tryz.func95 (by kernel_rfl) rfl)
   (z2q 8 (by omega) w7.heap.size a3 a4 ps (fun b=>w8.heap.size <= b \/ Fd b \/ b=b6) w8 HFA.out (fun b h1 h2 e=>by
    rcases e with e | e | e
    ·omega
    ·have:=lt2.out b (.inl e);omega
    ·have:=G.out;omega))
   (fun b hb=>.inl (by unfold Book at hb;omega)) (fun i args W h=>by obtain ⟨p,-,rfl⟩:=h;rfl)
   (fun i W=>SwI w8 l d Fd Rd FL RL b6 L X s n (ns.take i) 0 W /\ W.heap[b6]?=some (.cells #[.int .i64 0] 24 (0,0))) (fun c W=>SwX w8 l d Fd Rd FL RL b6 L X s n ns c W)
   (fun i A B h k=>⟨h.1.book k l8,k.at h.2 (fun e=>by unfold Book at e;have:=G.out;omega)⟩) (fun c A B h k=>h.book k l8 (fun e=>by unfold Book at e;have:=G.out;omega)) ⟨I0.out,K8.out.nb B67.out⟩ ?round ?done ?stop
  case round =>
   rintro lm i args W rfl hW2 ⟨hI,hbI⟩ hi ⟨p,hp,rfl⟩;simp only [List.zip_toArray,List.zip_cons_cons,List.zip_nil_right,List.foldl_toArray,List.foldl_cons,List.foldl_nil,List.setIfInBounds_toArray,List.set_cons_succ,List.set_cons_zero];have hns:ns[i]?=some p.1:=by
    rw [<- HPS.out,List.getElem?_map] at hp;obtain ⟨s,h1,h2⟩:=Option.map_eq_some_iff.1 hp;rw [h1,<- h2]
   have hmn:mnB p.1=true:=by
    have h1:=HPM.out.mem_iff.1 (List.mem_of_getElem? hns);obtain ⟨q,hq,e⟩:=List.mem_map.1 h1;rw [<- e];exact H.out.disk.names.files q hq
   obtain ⟨nm,sz⟩:=p;have HNS:=qq hns;have hsz:=z16 hmn;have HI:=qq hI;have HBI:=qq hbI;clear hI hbI hp hns hmn
   repeat (first | (with_reducible refine zg ?_) | (with_reducible refine stop_range ?_) | gi_step)
   refine za (zi (by kernel_rfl) (by rintro ⟨_,_,h⟩;exact h) ?_);go_wp2;refine ⟨Keeps.refl _ _,fun W3 k3=>?_⟩;have kb3:Keeps (Book w8) W W3:=k3.mono (fun i _ e=>.inr e);have HI3:=qq (HI.out.book kb3 l8);have HB3:=qq (kb3.at HBI.out (fun e=>by unfold Book at e;have:=G.out;omega));obtain ⟨X',Fd',Rd',FL',RL',g1,g2,g3,g4,g5,g6,g7,g8,g9⟩:=HI3.out;have GL:=qq g1;have G2:=qq (And.intro g2 (And.intro g3 (And.intro g4 g5)));have G6:=qq g6;have G9:=qq g9;have GP:=qq (g7 rfl);have hnS:∀ j,w.heap.size <= j -> j < w8.heap.size -> j ≠ b6 -> ¬ (w8.heap.size <= j \/ Fd j \/ j=b6):=fun j h1 h2 h3 e=>by
    rcases e with e | e | e
    ·omega
    ·have:=lt2.out j (.inl e);omega
    ·exact h3 e
   have B33:=qq (g9.at (K8.out.nb B37.out) (hnS b3 (by have:=G.out;omega) (by have:=G.out;omega) (by have:=G.out;omega)));have B73:=qq (g9.at (K8.out.nb B7.out) (hnS b7 (by have:=G7.out;omega) (by have:=lt_of_block (K8.out.nb B7.out);omega) (by have:=G.out;have:=G7.out;omega)));have B203:=qq (g9.at (K8.out.nb B20.out) (hnS b20 (by have:=G7.out;omega) (by have:=lt_of_block (K8.out.nb B20.out);omega) (by have:=G.out;have:=G7.out;omega)));obtain ⟨sv3,lv3,hcs3⟩:=g1.cells;have HC3:=qq hcs3
   have HV3:Hid (Vars W3):=qq ((((HV2.out.nb K7.out).nb K8.out)).keeps g9 (fun k hk e=>by
    rcases e with e | e | e
    ·have:=H.out.lt6;omega
    ·have:=H.out.low k (.inl e);omega
    ·have:=G.out;have:=H.out.lt6;omega))
   have zW3:w8.heap.size + 2 <= W3.heap.size:=by have:=k3.size;omega
   have PA:Hid (∀ (u:World) (ah:ByteArray),Keeps Nb W3 u -> ah.size <= 1000 -> Calls Tryz.prog 112 #[.pointer (some ⟨l,0,none⟩),.string nm,.string ah] u fun e w'=>e=.returned (.int .i64 (pn (fl L.name ah) nm:Nat)) /\ Keeps Nb u w') :=
    qq (fun u ah hu ha=>z3l l L.name nm ah u (HV3.out.nb hu) ((cell_of_block (HC3.out u hu)).trans rfl) (by omega) (by omega) ha)
   have FA:=qq (z1c l L.name sNew W3 ((cell_of_block (HC3.out W3 (Keeps.refl _ _))).trans rfl) (by omega) (by decide));have c33:W3.cell? ⟨b3,0,none⟩=some (.pointer (some ⟨l,0,none⟩)):=(cell_of_block B33.out).trans rfl;clear k3 kb3 g1 g2 g3 g4 g5 g6 g7 g8 g9 hcs3
   repeat (first | (with_reducible refine zg ?_) | (with_reducible refine stop_range ?_) | gi_step)
   refine za (zi (by kernel_rfl) (by rintro ⟨_,_,h⟩;exact h) ?_);go_wp2_with fail;refine FA.out.mono ?_;rintro _ _ ⟨rfl,rfl⟩;have hnf:fl L.name sNew=newf L.name:=rfl;rw [hnf];clear FA hnf;have hours:ours L.name nm=(decide (nm=newf L.name) || decide (0 < sgn L.name nm) || decide (0 < snn L.name nm)):=rfl;have HOU:=qq hours;clear hours;by_cases hA:nm=newf L.name
   ·
    have t1:(nm == newf L.name)=true:=by rw [z7x];simpa using hA
    have t2:(nm.toList == (newf L.name).toList)=true:=by rw [z8x];simpa using hA
    have HO:Hid (ours L.name nm=true):=qq (by rw [HOU.out];simp [hA]);have KX:Hid (Keeps Nb W3 W3):=qq (Keeps.refl _ _);have HA:=qq hA;clear hA;go_wp2
    repeat (first | (with_reducible refine zg ?_) | (with_reducible refine stop_range ?_) | gi_step)
    refine za (zi (by kernel_rfl) (by rintro ⟨_,_,h⟩;exact h) ?_);have B7X:=qq (KX.out.nb B73.out);have B20X:=qq (KX.out.nb B203.out);have c7X:W3.cell? ⟨b7,0,none⟩=some (.slice (some ⟨b20,0,none⟩) 3 3):=(cell_of_block B7X.out).trans rfl
    have CO:=qq (Any.slices_Contains_string Tryz.lays110 b20 0 3 3 [manf L.name,snf L.name s,sgf L.name n] nm W3 (by simp) (by decide) (fun j hj=>by
     refine (cell_of_block B20X.out).trans ?_;have:j=0 \/ j=1 \/ j=2:=by simp at hj;omega
     rcases this with rfl | rfl | rfl <;> rfl))
    go_wp2_with fail;refine CO.out.mono ?_;rintro _ w9 ⟨rfl,e9⟩;rw [e9];clear CO e9;generalize hcb:Lib.containsS (List.take 3 [manf L.name,snf L.name s,sgf L.name n]) nm=cb;have hcs:(cb=true ↔ nm ∈ [manf L.name,snf L.name s,sgf L.name n]):=by rw [<- hcb];exact Lib.containsS_iff _ _
    have HCS:=qq hcs;clear hcb hcs c7X;cases cb
    ·
     have HSW:Hid (swept L.name s n nm=true):=qq (by
      have h1:¬ nm ∈ [manf L.name,snf L.name s,sgf L.name n]:=fun e=>by have:=HCS.out.2 e;cases this
      simp only [List.mem_cons,List.not_mem_nil,or_false,not_or] at h1;unfold swept
      rw [HO.out,decide_eq_false h1.1,decide_eq_false h1.2.1,decide_eq_false h1.2.2];rfl)
     have RA:=qq (z71 d nm X'.D Fd' Rd' X'.fc W3 ((GL.out.nb KX.out).disk) (by unfold maxLen;omega) (by have h1:=GP.out;have h2:=HP.out;exact z0f (k:=1) (by omega) (by omega)));have c3X:W3.cell? ⟨b3,0,none⟩=some (.pointer (some ⟨l,0,none⟩)):=(cell_of_block (KX.out.nb B33.out)).trans rfl;have clX:W3.cell? ⟨l,0,none⟩=some (.pointer (some ⟨d,0,none⟩)):=(cell_of_block (HC3.out _ KX.out)).trans rfl;go_wp2
     repeat (first | (with_reducible refine zg ?_) | (with_reducible refine stop_range ?_) | gi_step)
     refine za (zi (by kernel_rfl) (by rintro ⟨_,_,h⟩;exact h) ?_);go_wp2_with fail;refine RA.out.mono ?_;rintro _ w9 ⟨er,D',rfl,hn9,hr9⟩;have zX:W3.heap.size <= (W3).heap.size:=KX.out.size;have hrem:=SwI.rem (s:=s) (n:=n) (b6:=b6) (X:=X) (ns:=ns) (i:=i) (GL.out.nb KX.out) G2.out.1 G2.out.2.1 G2.out.2.2.1 G2.out.2.2.2 G6.out GP.out (G9.out.trans_nb KX.out) (by omega) HNS.out HSW.out hn9 hr9;have HREM:=qq hrem
     have hb9:w9.heap[b6]?=some (.cells #[.int .i64 0] 24 (0,0)):=hrem.2.2.at (KX.out.nb HB3.out) (fun e=>by
      rcases e with e | e
      ·have:=lt2.out b6 (.inl e);have:=G.out;omega
      ·have:=G.out;omega)
     have kf:Keeps (fun b=>(w8.heap.size <= b \/ Fd b \/ b=b6) /\ ¬ Book w8 b) W3 w9:=(KX.out.of_nb).trans hrem.2.2 (fun j hj e=>by
      rcases e with e | e
      ·exact ⟨.inr (.inl e),fun h=>by unfold Book at h;have:=lt2.out j (.inl e);omega⟩
      ·exact ⟨.inl (by omega),fun h=>by unfold Book at h;omega⟩)
     have HB9:=qq hb9;have KF:=qq kf;clear hn9 hr9 hrem RA c3X clX hb9 kf;by_cases her:er=0
     ·
      have HE:=qq (HREM.out.1 her);subst her;go_wp2
      repeat (first | (with_reducible refine zg ?_) | (with_reducible refine stop_range ?_) | gi_step)
      refine za (zi (by kernel_rfl) (by rintro ⟨_,_,h⟩;exact h) ?_);go_wp2
      gi_wp2
      exact ⟨KF.out,HE.out,HB9.out⟩
     ·
      have HE:=qq (HREM.out.2.1 her);have HNE:=qq her;have t9:(er != 0)=true:=by simpa using her
      clear her;go_wp2
      repeat (first | (with_reducible refine zg ?_) | (with_reducible refine stop_range ?_) | gi_step)
      refine za (zi (by kernel_rfl) (by rintro ⟨_,_,h⟩;exact h) ?_);go_wp2
      repeat (first | (with_reducible refine zg ?_) | (with_reducible refine stop_range ?_) | gi_step)
      refine za (zi (by kernel_rfl) (by rintro ⟨_,_,h⟩;exact h) ?_);go_wp2_with (first | go_skip | (with_reducible refine qv (by decide) ?_))
      refine za (zc rfl (zd (v:=.int .i64 er) (n:=1) (by kernel_rfl) (by rfl) (by rfl) HB9.out (by rfl) (by simp [Value.cells]) (by simp [Value.cells,Value.oneCell'])) ?_);intro w10 s10;simp only [Nat.reduceAdd,qn]
      have HX:Hid (Keeps (fun b=>(w8.heap.size <= b \/ Fd b \/ b=b6) /\ ¬ Book w8 b) W3 w10 /\ SwX w8 l d Fd Rd FL RL b6 L X s n ns .ret w10):=qq ⟨KF.out.trans s10.k (fun j hj e=>by
       have e:j=b6:=e
       exact ⟨.inr (.inr e),fun h=>by unfold Book at h;have:=G.out;omega⟩),rfl,er,HNE.out,HE.out.box s10.k (fun j e=>by have:=lt2.out j e;have:=G.out;omega) (by have:=G.out;omega),s10.blk⟩
      clear s10;go_wp2
      gi_wp2
      exact HX.out
    ·
     have HSW:Hid (swept L.name s n nm=false):=qq (by
      have h1:=HCS.out.1 rfl;simp only [List.mem_cons,List.not_mem_nil,or_false] at h1;unfold swept
      rcases h1 with h1 | h1 | h1 <;> rw [decide_eq_true h1] <;> simp)
     go_wp2
     gi_wp2
     exact ⟨KX.out.of_nb,HI3.out.skip HNS.out HSW.out KX.out,KX.out.nb HB3.out⟩
   ·
    have t1:(nm == newf L.name)=false:=by rw [z7x];simpa using hA
    have t2:(nm.toList == (newf L.name).toList)=false:=by rw [z8x];simpa using hA
    have HA:=qq hA;clear hA;go_wp2_with fail;refine (PA.out W3 ByteArray.empty (Keeps.refl _ _) (by decide)).mono ?_;rintro _ W4 ⟨rfl,k4⟩;have K4:=qq k4;have c34:W4.cell? ⟨b3,0,none⟩=some (.pointer (some ⟨l,0,none⟩)):=(cell_of_block (k4.nb B33.out)).trans rfl;clear k4;have e1:pn (fl L.name ByteArray.empty) nm=sgn L.name nm:=rfl;rw [e1];clear e1;by_cases hS1:0 < sgn L.name nm
    ·
     have HO:Hid (ours L.name nm=true):=qq (by rw [HOU.out,decide_eq_true hS1];simp);have KX:=K4;obtain ⟨kk,hkk⟩:∃ q,sgn L.name nm=q:=⟨_,rfl⟩
     rw [hkk] at hS1 ⊢;clear hkk;go_wp2
     repeat (first | (with_reducible refine zg ?_) | (with_reducible refine stop_range ?_) | gi_step)
     refine za (zi (by kernel_rfl) (by rintro ⟨_,_,h⟩;exact h) ?_);have B7X:=qq (KX.out.nb B73.out);have B20X:=qq (KX.out.nb B203.out);have c7X:W4.cell? ⟨b7,0,none⟩=some (.slice (some ⟨b20,0,none⟩) 3 3):=(cell_of_block B7X.out).trans rfl
     have CO:=qq (Any.slices_Contains_string Tryz.lays110 b20 0 3 3 [manf L.name,snf L.name s,sgf L.name n] nm W4 (by simp) (by decide) (fun j hj=>by
      refine (cell_of_block B20X.out).trans ?_;have:j=0 \/ j=1 \/ j=2:=by simp at hj;omega
      rcases this with rfl | rfl | rfl <;> rfl))
     go_wp2_with fail;refine CO.out.mono ?_;rintro _ w9 ⟨rfl,e9⟩;rw [e9];clear CO e9;generalize hcb:Lib.containsS (List.take 3 [manf L.name,snf L.name s,sgf L.name n]) nm=cb;have hcs:(cb=true ↔ nm ∈ [manf L.name,snf L.name s,sgf L.name n]):=by rw [<- hcb];exact Lib.containsS_iff _ _
     have HCS:=qq hcs;clear hcb hcs c7X;cases cb
     ·
      have HSW:Hid (swept L.name s n nm=true):=qq (by
       have h1:¬ nm ∈ [manf L.name,snf L.name s,sgf L.name n]:=fun e=>by have:=HCS.out.2 e;cases this
       simp only [List.mem_cons,List.not_mem_nil,or_false,not_or] at h1;unfold swept
       rw [HO.out,decide_eq_false h1.1,decide_eq_false h1.2.1,decide_eq_false h1.2.2];rfl)
      have RA:=qq (z71 d nm X'.D Fd' Rd' X'.fc W4 ((GL.out.nb KX.out).disk) (by unfold maxLen;omega) (by have h1:=GP.out;have h2:=HP.out;exact z0f (k:=1) (by omega) (by omega)));have c3X:W4.cell? ⟨b3,0,none⟩=some (.pointer (some ⟨l,0,none⟩)):=(cell_of_block (KX.out.nb B33.out)).trans rfl;have clX:W4.cell? ⟨l,0,none⟩=some (.pointer (some ⟨d,0,none⟩)):=(cell_of_block (HC3.out _ KX.out)).trans rfl;go_wp2
      repeat (first | (with_reducible refine zg ?_) | (with_reducible refine stop_range ?_) | gi_step)
      refine za (zi (by kernel_rfl) (by rintro ⟨_,_,h⟩;exact h) ?_);go_wp2_with fail;refine RA.out.mono ?_;rintro _ w9 ⟨er,D',rfl,hn9,hr9⟩;have zX:W3.heap.size <= (W4).heap.size:=KX.out.size;have hrem:=SwI.rem (s:=s) (n:=n) (b6:=b6) (X:=X) (ns:=ns) (i:=i) (GL.out.nb KX.out) G2.out.1 G2.out.2.1 G2.out.2.2.1 G2.out.2.2.2 G6.out GP.out (G9.out.trans_nb KX.out) (by omega) HNS.out HSW.out hn9 hr9;have HREM:=qq hrem
      have hb9:w9.heap[b6]?=some (.cells #[.int .i64 0] 24 (0,0)):=hrem.2.2.at (KX.out.nb HB3.out) (fun e=>by
       rcases e with e | e
       ·have:=lt2.out b6 (.inl e);have:=G.out;omega
       ·have:=G.out;omega)
      have kf:Keeps (fun b=>(w8.heap.size <= b \/ Fd b \/ b=b6) /\ ¬ Book w8 b) W3 w9:=(KX.out.of_nb).trans hrem.2.2 (fun j hj e=>by
       rcases e with e | e
       ·exact ⟨.inr (.inl e),fun h=>by unfold Book at h;have:=lt2.out j (.inl e);omega⟩
       ·exact ⟨.inl (by omega),fun h=>by unfold Book at h;omega⟩)
      have HB9:=qq hb9;have KF:=qq kf;clear hn9 hr9 hrem RA c3X clX hb9 kf;by_cases her:er=0
      ·
       have HE:=qq (HREM.out.1 her);subst her;go_wp2
       repeat (first | (with_reducible refine zg ?_) | (with_reducible refine stop_range ?_) | gi_step)
       refine za (zi (by kernel_rfl) (by rintro ⟨_,_,h⟩;exact h) ?_);go_wp2
       gi_wp2
       exact ⟨KF.out,HE.out,HB9.out⟩
      ·
       have HE:=qq (HREM.out.2.1 her);have HNE:=qq her;have t9:(er != 0)=true:=by simpa using her
       clear her;go_wp2
       repeat (first | (with_reducible refine zg ?_) | (with_reducible refine stop_range ?_) | gi_step)
       refine za (zi (by kernel_rfl) (by rintro ⟨_,_,h⟩;exact h) ?_);go_wp2
       repeat (first | (with_reducible refine zg ?_) | (with_reducible refine stop_range ?_) | gi_step)
       refine za (zi (by kernel_rfl) (by rintro ⟨_,_,h⟩;exact h) ?_);go_wp2_with (first | go_skip | (with_reducible refine qv (by decide) ?_))
       refine za (zc rfl (zd (v:=.int .i64 er) (n:=1) (by kernel_rfl) (by rfl) (by rfl) HB9.out (by rfl) (by simp [Value.cells]) (by simp [Value.cells,Value.oneCell'])) ?_);intro w10 s10;simp only [Nat.reduceAdd,qn]
       have HX:Hid (Keeps (fun b=>(w8.heap.size <= b \/ Fd b \/ b=b6) /\ ¬ Book w8 b) W3 w10 /\ SwX w8 l d Fd Rd FL RL b6 L X s n ns .ret w10):=qq ⟨KF.out.trans s10.k (fun j hj e=>by
        have e:j=b6:=e
        exact ⟨.inr (.inr e),fun h=>by unfold Book at h;have:=G.out;omega⟩),rfl,er,HNE.out,HE.out.box s10.k (fun j e=>by have:=lt2.out j e;have:=G.out;omega) (by have:=G.out;omega),s10.blk⟩
       clear s10;go_wp2
       gi_wp2
       exact HX.out
     ·
      have HSW:Hid (swept L.name s n nm=false):=qq (by
       have h1:=HCS.out.1 rfl;simp only [List.mem_cons,List.not_mem_nil,or_false] at h1;unfold swept
       rcases h1 with h1 | h1 | h1 <;> rw [decide_eq_true h1] <;> simp)
      go_wp2
      gi_wp2
      exact ⟨KX.out.of_nb,HI3.out.skip HNS.out HSW.out KX.out,KX.out.nb HB3.out⟩
    ·
     have HS1:=qq hS1;obtain ⟨kk,hkk⟩:∃ q,sgn L.name nm=q:=⟨_,rfl⟩
     have HKK:=qq hkk;rw [hkk] at hS1 ⊢;clear hkk;go_wp2_with fail;refine (PA.out W4 sS K4.out (by decide)).mono ?_;rintro _ W5 ⟨rfl,k5⟩;have K5:=qq (K4.out.trans_nb k5);have e1:pn (fl L.name sS) nm=snn L.name nm:=rfl;rw [e1];clear e1 k5 c34;by_cases hS2:0 < snn L.name nm
     ·
      have HO:Hid (ours L.name nm=true):=qq (by rw [HOU.out,decide_eq_true hS2];simp);have KX:=K5;obtain ⟨kk2,hkk2⟩:∃ q,snn L.name nm=q:=⟨_,rfl⟩
      rw [hkk2] at hS2 ⊢;clear hkk2;go_wp2
      repeat (first | (with_reducible refine zg ?_) | (with_reducible refine stop_range ?_) | gi_step)
      refine za (zi (by kernel_rfl) (by rintro ⟨_,_,h⟩;exact h) ?_);have B7X:=qq (KX.out.nb B73.out);have B20X:=qq (KX.out.nb B203.out);have c7X:W5.cell? ⟨b7,0,none⟩=some (.slice (some ⟨b20,0,none⟩) 3 3):=(cell_of_block B7X.out).trans rfl
      have CO:=qq (Any.slices_Contains_string Tryz.lays110 b20 0 3 3 [manf L.name,snf L.name s,sgf L.name n] nm W5 (by simp) (by decide) (fun j hj=>by
       refine (cell_of_block B20X.out).trans ?_;have:j=0 \/ j=1 \/ j=2:=by simp at hj;omega
       rcases this with rfl | rfl | rfl <;> rfl))
      go_wp2_with fail;refine CO.out.mono ?_;rintro _ w9 ⟨rfl,e9⟩;rw [e9];clear CO e9;generalize hcb:Lib.containsS (List.take 3 [manf L.name,snf L.name s,sgf L.name n]) nm=cb;have hcs:(cb=true ↔ nm ∈ [manf L.name,snf L.name s,sgf L.name n]):=by rw [<- hcb];exact Lib.containsS_iff _ _
      have HCS:=qq hcs;clear hcb hcs c7X;cases cb
      ·
       have HSW:Hid (swept L.name s n nm=true):=qq (by
        have h1:¬ nm ∈ [manf L.name,snf L.name s,sgf L.name n]:=fun e=>by have:=HCS.out.2 e;cases this
        simp only [List.mem_cons,List.not_mem_nil,or_false,not_or] at h1;unfold swept
        rw [HO.out,decide_eq_false h1.1,decide_eq_false h1.2.1,decide_eq_false h1.2.2];rfl)
       have RA:=qq (z71 d nm X'.D Fd' Rd' X'.fc W5 ((GL.out.nb KX.out).disk) (by unfold maxLen;omega) (by have h1:=GP.out;have h2:=HP.out;exact z0f (k:=1) (by omega) (by omega)));have c3X:W5.cell? ⟨b3,0,none⟩=some (.pointer (some ⟨l,0,none⟩)):=(cell_of_block (KX.out.nb B33.out)).trans rfl;have clX:W5.cell? ⟨l,0,none⟩=some (.pointer (some ⟨d,0,none⟩)):=(cell_of_block (HC3.out _ KX.out)).trans rfl;go_wp2
       repeat (first | (with_reducible refine zg ?_) | (with_reducible refine stop_range ?_) | gi_step)
       refine za (zi (by kernel_rfl) (by rintro ⟨_,_,h⟩;exact h) ?_);go_wp2_with fail;refine RA.out.mono ?_;rintro _ w9 ⟨er,D',rfl,hn9,hr9⟩;have zX:W3.heap.size <= (W5).heap.size:=KX.out.size;have hrem:=SwI.rem (s:=s) (n:=n) (b6:=b6) (X:=X) (ns:=ns) (i:=i) (GL.out.nb KX.out) G2.out.1 G2.out.2.1 G2.out.2.2.1 G2.out.2.2.2 G6.out GP.out (G9.out.trans_nb KX.out) (by omega) HNS.out HSW.out hn9 hr9;have HREM:=qq hrem
       have hb9:w9.heap[b6]?=some (.cells #[.int .i64 0] 24 (0,0)):=hrem.2.2.at (KX.out.nb HB3.out) (fun e=>by
        rcases e with e | e
        ·have:=lt2.out b6 (.inl e);have:=G.out;omega
        ·have:=G.out;omega)
       have kf:Keeps (fun b=>(w8.heap.size <= b \/ Fd b \/ b=b6) /\ ¬ Book w8 b) W3 w9:=(KX.out.of_nb).trans hrem.2.2 (fun j hj e=>by
        rcases e with e | e
        ·exact ⟨.inr (.inl e),fun h=>by unfold Book at h;have:=lt2.out j (.inl e);omega⟩
        ·exact ⟨.inl (by omega),fun h=>by unfold Book at h;omega⟩)
       have HB9:=qq hb9;have KF:=qq kf;clear hn9 hr9 hrem RA c3X clX hb9 kf;by_cases her:er=0
       ·
        have HE:=qq (HREM.out.1 her);subst her;go_wp2
        repeat (first | (with_reducible refine zg ?_) | (with_reducible refine stop_range ?_) | gi_step)
        refine za (zi (by kernel_rfl) (by rintro ⟨_,_,h⟩;exact h) ?_);go_wp2
        gi_wp2
        exact ⟨KF.out,HE.out,HB9.out⟩
       ·
        have HE:=qq (HREM.out.2.1 her);have HNE:=qq her;have t9:(er != 0)=true:=by simpa using her
        clear her;go_wp2
        repeat (first | (with_reducible refine zg ?_) | (with_reducible refine stop_range ?_) | gi_step)
        refine za (zi (by kernel_rfl) (by rintro ⟨_,_,h⟩;exact h) ?_);go_wp2
        repeat (first | (with_reducible refine zg ?_) | (with_reducible refine stop_range ?_) | gi_step)
        refine za (zi (by kernel_rfl) (by rintro ⟨_,_,h⟩;exact h) ?_);go_wp2_with (first | go_skip | (with_reducible refine qv (by decide) ?_))
        refine za (zc rfl (zd (v:=.int .i64 er) (n:=1) (by kernel_rfl) (by rfl) (by rfl) HB9.out (by rfl) (by simp [Value.cells]) (by simp [Value.cells,Value.oneCell'])) ?_);intro w10 s10;simp only [Nat.reduceAdd,qn]
        have HX:Hid (Keeps (fun b=>(w8.heap.size <= b \/ Fd b \/ b=b6) /\ ¬ Book w8 b) W3 w10 /\ SwX w8 l d Fd Rd FL RL b6 L X s n ns .ret w10):=qq ⟨KF.out.trans s10.k (fun j hj e=>by
         have e:j=b6:=e
         exact ⟨.inr (.inr e),fun h=>by unfold Book at h;have:=G.out;omega⟩),rfl,er,HNE.out,HE.out.box s10.k (fun j e=>by have:=lt2.out j e;have:=G.out;omega) (by have:=G.out;omega),s10.blk⟩
        clear s10;go_wp2
        gi_wp2
        exact HX.out
      ·
       have HSW:Hid (swept L.name s n nm=false):=qq (by
        have h1:=HCS.out.1 rfl;simp only [List.mem_cons,List.not_mem_nil,or_false] at h1;unfold swept
        rcases h1 with h1 | h1 | h1 <;> rw [decide_eq_true h1] <;> simp)
       go_wp2
       gi_wp2
       exact ⟨KX.out.of_nb,HI3.out.skip HNS.out HSW.out KX.out,KX.out.nb HB3.out⟩
     ·
      have HSW:Hid (swept L.name s n nm=false):=qq (by
       unfold swept
       rw [HOU.out,decide_eq_false HA.out,decide_eq_false HS1.out,decide_eq_false hS2];rfl)
      obtain ⟨kk2,hkk2⟩:∃ q,snn L.name nm=q:=⟨_,rfl⟩
      rw [hkk2] at hS2 ⊢;clear hkk2;go_wp2
      repeat (first | (with_reducible refine zg ?_) | (with_reducible refine stop_range ?_) | gi_step)
      refine za (zi (by kernel_rfl) (by rintro ⟨_,_,h⟩;exact h) ?_);go_wp2
      gi_wp2
      exact ⟨K5.out.of_nb,HI3.out.skip HNS.out HSW.out K5.out,K5.out.nb HB3.out⟩
  case done =>
   rintro W ⟨hI,hb⟩ hD;rw [HLEN.out,List.take_length] at hI;have HI:=qq hI;have HD:=qq hD;have hb68:b6 < w8.heap.size:=by have:=G.out;omega
   clear hI hD;go_wp2_with (first | go_skip | (with_reducible refine qv (by decide) ?_))
   refine za (zc rfl (zd (v:=.int .i64 0) (n:=1) (by kernel_rfl) (by rfl) (by rfl) hb (by rfl) (by simp [Value.cells]) (by simp [Value.cells,Value.oneCell'])) ?_);intro W2 s2;simp only [Nat.reduceAdd,qn];have kp:=zw W2 w8.heap.size (.deferred none);have hb2:(W2.putObj w8.heap.size (.deferred none)).heap[b6]?=some (.cells #[.int .i64 0] 24 (0,0)):=kp.at s2.blk (fun e=>by omega);have hcb:(W2.putObj w8.heap.size (.deferred none)).cell? ⟨b6,0,none⟩=some (.int .i64 0):=(cell_of_block hb2).trans rfl;have HD2:=qq (s2.k.at HD.out (fun e=>by omega))
   have HF:Hid (OpE w l d Fd Rd FL RL L X 1 (sweepO L.name s n) (.returned (.int .i64 0)) (W2.putObj w8.heap.size (.deferred none))):=qq
    (((HI.out.box s2.k (fun j e=>by have:=lt2.out j e;have:=G.out;omega) hb68).book (kp.mono (fun j _ e=>by unfold Book;exact .inl e)) l8).fin ((K2.out.trans_nb K7.out).trans_nb K8.out) (by have:=G.out;omega) HPM.out)
   clear s2 kp hb2;go_wp2;refine ⟨by simp,.inl ⟨_,_,rfl,run_takeDeferred HD2.out,?_⟩⟩;exact ⟨.int .i64 0,by simp [results,Tryz.f79,go_sem,hcb],HF.out⟩
  case stop =>
   rintro c W ⟨rfl,er,hne,hI,hb⟩ hD;have hb68:b6 < w8.heap.size:=by have:=G.out;omega
   have kp:=zw W w8.heap.size (.deferred none);have hb2:(W.putObj w8.heap.size (.deferred none)).heap[b6]?=some (.cells #[.int .i64 er] 24 (0,0)):=kp.at hb (fun e=>by omega);have hcb:(W.putObj w8.heap.size (.deferred none)).cell? ⟨b6,0,none⟩=some (.int .i64 er):=(cell_of_block hb2).trans rfl
   have HF:Hid (OpE w l d Fd Rd FL RL L X 1 (sweepO L.name s n) (.returned (.int .i64 er)) (W.putObj w8.heap.size (.deferred none))):=qq
    ((hI.book (kp.mono (fun j _ e=>by unfold Book;exact .inl e)) l8).fin ((K2.out.trans_nb K7.out).trans_nb K8.out) (by have:=G.out;omega) HPM.out)
   gi_wp2
   refine ⟨by simp,.inl ⟨_,_,rfl,run_takeDeferred hD,?_⟩⟩;exact ⟨.int .i64 er,by simp [results,Tryz.f79,go_sem,hcb],HF.out⟩
end Go.Proofs.YtpjomdmjohjheaaGreatDoor
end
section
namespace Go.Proofs.YtpjomdmjohjheaaGreatDoor
open Go.RowKit Go.Lk Go.Vfs Go.Log
theorem zhj (l d b2 b6 b8 s n:Nat) (L:Lg) (hs:s <= 4294967296) (hn:n <= 4294967296):OpC l d L 9 ⟨71,#[],#[.pointer (some ⟨b2,0,none⟩),.pointer (some ⟨b6,0,none⟩),.pointer (some ⟨b8,0,none⟩)]⟩ (manO L.name s n) (fun w a b=>LB b2 l w a b /\ NB b6 s w a b /\ NB b8 n w a b):=by
 rintro w Fd Rd FL RL X h hv ⟨⟨hb2,o2⟩,⟨hb6,o6⟩,⟨hb8,o8⟩⟩ hp;have c2:w.cell? ⟨b2,0,none⟩=some (.pointer (some ⟨l,0,none⟩)):=(cell_of_block hb2).trans rfl;have c6:w.cell? ⟨b6,0,none⟩=some (.int .i64 (s:Nat)):=(cell_of_block hb6).trans rfl;have c8:w.cell? ⟨b8,0,none⟩=some (.int .i64 (n:Nat)):=(cell_of_block hb8).trans rfl;have MW:=qq (zgc l d Fd Rd FL RL L X s n w h hv hs hn hp);clear h hv hp hb2 hb6 hb8;show Calls Tryz.prog 71 #[.pointer (some ⟨b2,0,none⟩),.pointer (some ⟨b6,0,none⟩),.pointer (some ⟨b8,0,none⟩)] w _;go_enter Tryz.func71,Tryz.ntmps71;go_wp2_with fail;refine MW.out.mono ?_;rintro e w1 hE;obtain ⟨er,X',L',rfl,-⟩:=id hE;have F:=qq hE;clear hE MW;go_wp2;go_ret;exact F.out
theorem zeg (l d b2 b6 b8 s n:Nat) (L:Lg) (hs:s <= 4294967296) (hn:n <= 4294967296):OpC l d L 1 ⟨78,#[],#[.pointer (some ⟨b2,0,none⟩),.pointer (some ⟨b6,0,none⟩),.pointer (some ⟨b8,0,none⟩)]⟩ (sweepO L.name s n) (fun w a b=>LB b2 l w a b /\ NB b6 s w a b /\ NB b8 n w a b):=by
 rintro w Fd Rd FL RL X h hv ⟨⟨hb2,o2⟩,⟨hb6,o6⟩,⟨hb8,o8⟩⟩ hp;have c2:w.cell? ⟨b2,0,none⟩=some (.pointer (some ⟨l,0,none⟩)):=(cell_of_block hb2).trans rfl;have c6:w.cell? ⟨b6,0,none⟩=some (.int .i64 (s:Nat)):=(cell_of_block hb6).trans rfl;have c8:w.cell? ⟨b8,0,none⟩=some (.int .i64 (n:Nat)):=(cell_of_block hb8).trans rfl;have MW:=qq (zfy l d s n Fd Rd FL RL L X w h hv hs hn hp);clear h hv hp hb2 hb6 hb8;show Calls Tryz.prog 78 #[.pointer (some ⟨b2,0,none⟩),.pointer (some ⟨b6,0,none⟩),.pointer (some ⟨b8,0,none⟩)] w _;go_enter Tryz.func78,Tryz.ntmps78;go_wp2_with fail;refine MW.out.mono ?_;rintro e w1 hE;obtain ⟨er,X',L',rfl,-⟩:=id hE;have F:=qq hE;clear hE MW;go_wp2;go_ret;exact F.out
theorem zhw (l d b2 b6 b3 s:Nat) (L:Lg) (ad:Option Addr) (m c:Nat) (bs:List Nat) (hs:s <= 4294967296) (hl:bs.length <= mxr):OpC l d L 5 ⟨74,#[],#[.pointer (some ⟨b2,0,none⟩),.pointer (some ⟨b6,0,none⟩),.pointer (some ⟨b3,0,none⟩)]⟩ (putO (snf L.name s) bs) (fun w a b=>LB b2 l w a b /\ NB b6 s w a b /\ YB b3 (.slice ad m c) bs w a b):=by
 rintro w Fd Rd FL RL X h hv ⟨⟨hb2,o2⟩,⟨hb6,o6⟩,⟨⟨hb3,o3⟩,hy⟩⟩ hp;have OO:=qq (And.intro o2 (And.intro o6 o3));obtain ⟨sv,lv,hcs⟩:=h.cells;have c2:w.cell? ⟨b2,0,none⟩=some (.pointer (some ⟨l,0,none⟩)):=(cell_of_block hb2).trans rfl;have c6:w.cell? ⟨b6,0,none⟩=some (.int .i64 (s:Nat)):=(cell_of_block hb6).trans rfl;have c3:w.cell? ⟨b3,0,none⟩=some (.slice ad m c):=(cell_of_block hb3).trans rfl;have H:=qq h;have HV:=qq hv;have HY:=qq hy;have HP:=qq hp;have h16:=h.nums.n16;have SA:=qq (z40 l L.name s w.drew (hv.nb (Keeps.refl Nb w).drew) ((cell_of_block (hcs w.drew (Keeps.refl Nb w).drew)).trans rfl) (by omega) (by omega));clear h hv hb2 hb6 hb3 hcs hp hy o2 o6 o3;show Calls Tryz.prog 74 #[.pointer (some ⟨b2,0,none⟩),.pointer (some ⟨b6,0,none⟩),.pointer (some ⟨b3,0,none⟩)] w _;go_enter Tryz.func74,Tryz.ntmps74;go_wp2;refine WT.region (fun u=>u.cell? ⟨b2,0,none⟩=some (.pointer (some ⟨l,0,none⟩)) /\ u.cell? ⟨b6,0,none⟩=some (.int .i64 (s:Nat)) /\ u.cell? ⟨b3,0,none⟩=some (.slice ad m c)) 6 7 [0,1,2,4,3,5,6] (by kernel_rfl) rfl ?_
 have fac:∀ u,Keeps (fun k=>Fd k \/ FL k) w u -> (fun u:World=>u.cell? ⟨b2,0,none⟩=some (.pointer (some ⟨l,0,none⟩)) /\ u.cell? ⟨b6,0,none⟩=some (.int .i64 (s:Nat)) /\ u.cell? ⟨b3,0,none⟩=some (.slice ad m c)) u:=fun u hu =>
  ⟨(hu.cell (lt_of_cell c2) (fun e=>e.elim OO.out.1.1 OO.out.1.2)).trans c2,(hu.cell (lt_of_cell c6) (fun e=>e.elim OO.out.2.1.1 OO.out.2.1.2)).trans c6,(hu.cell (lt_of_cell c3) (fun e=>e.elim OO.out.2.2.1 OO.out.2.2.2)).trans c3⟩
 have FAC:=qq fac;have HS:=qq (fac w.drew (Keeps.refl _ w).drew);clear fac;refine WT.t 0 (v:=.pointer (some ⟨l,0,none⟩)) (y:=by rintro w ⟨C1,C2,C3⟩;exact zb (by kernel_rfl) (by rfl) C1) (s:=HS.out) (h:=?_);refine WT.t 1 (v:=.pointer (some ⟨l,0,none⟩)) (y:=by rintro w ⟨C1,C2,C3⟩;exact zb (by kernel_rfl) (by rfl) C1) (s:=HS.out) (h:=?_);refine WT.t 2 (v:=.int .i64 (s:Nat)) (y:=by rintro w ⟨C1,C2,C3⟩;exact zb (by kernel_rfl) (by rfl) C2) (s:=HS.out) (h:=?_);refine WT.t 4 (v:=.slice ad m c) (y:=by rintro w ⟨C1,C2,C3⟩;exact zb (by kernel_rfl) (by rfl) C3) (s:=HS.out) (h:=?_);refine WT.call 3 (by simp only [qi];rfl) (by kernel_rfl) (by rfl) (by go_simp;first | done | rfl | exact ⟨⟨rfl,rfl⟩,rfl⟩ | exact ⟨⟨rfl,rfl,rfl⟩,rfl⟩ | exact ⟨⟨rfl,rfl,rfl,rfl⟩,rfl⟩ | exact ⟨⟨rfl,rfl,rfl,rfl,rfl⟩,rfl⟩) SA.out ?_;rintro _ w1 ⟨rfl,k1⟩;have K1:Hid (Keeps Nb w w1):=qq (((Keeps.refl Nb w).drew).trans_nb k1);refine ⟨_,rfl,FAC.out w1 K1.out.of_nb,?_⟩;simp only [Nat.reduceAdd,qn];have PW:=qq (zgd l d Fd Rd FL RL L X (snf L.name s) (.slice ad m c) bs w1 (H.out.nb K1.out) (HV.out.nb K1.out) (by exact z5r h16 (by rw [ByteArray.size_append];have:=z47 (n:=s) (by omega);have:sS.size=1:=rfl;omega)) (((HY.out.keeps K1.out (fun _ _ e=>e)).mono (fun k hk=>⟨Nat.lt_of_lt_of_le hk.1 K1.out.size,hk.2⟩))) hl HP.out);refine WT.call 5 (by simp only [qi];rfl) (by kernel_rfl) (by rfl) (by go_simp;first | done | rfl | exact ⟨⟨rfl,rfl⟩,rfl⟩ | exact ⟨⟨rfl,rfl,rfl⟩,rfl⟩ | exact ⟨⟨rfl,rfl,rfl,rfl⟩,rfl⟩ | exact ⟨⟨rfl,rfl,rfl,rfl,rfl⟩,rfl⟩) PW.out ?_;rintro e w2 hE;obtain ⟨er,X',L',rfl,hq⟩:=id hE;have hF:=OpE.from hE K1.out;have hS2:=FAC.out w2 (by obtain ⟨er2,X2,L2,-,hnow,-⟩:=hF;obtain ⟨_,_,_,_,_,_,_,_,_,hk⟩:=hnow;exact hk);have F:=qq hF;clear hE hq PW hF SA k1 HS;refine ⟨_,rfl,hS2,?_⟩;simp only [Nat.reduceAdd,qn];refine WT.stop (by kernel_rfl) ?_;refine WP.o 6 (v:=_) (y:=by go_simp;first | with_reducible rfl | exact ⟨rfl,rfl⟩) (h:=?_);refine WP.done (by kernel_rfl) ?_;go_wp2;go_ret;exact F.out
end Go.Proofs.YtpjomdmjohjheaaGreatDoor
end
section
namespace Go.Proofs.YtpjomdmjohjheaaGreatDoor
open Go.RowKit Go.Lk Go.Vfs Go.Log
def TuP (l s n b2 b3 b6 b7 b8:Nat) (f:Int) (v:Value) (bs:List Nat):World -> (Nat -> Prop) -> (Nat -> Prop) -> Prop:=fun w a b=>LB b2 l w a b /\ NB b6 s w a b /\ NB b8 n w a b /\ EB b7 f w a b /\ YB b3 v bs w a b
theorem z1m (l s n b2 b3 b6 b7 b8:Nat) (f:Int) (v:Value) (bs:List Nat):Stable (TuP l s n b2 b3 b6 b7 b8 f v bs):=(zu _ _).and ((zu _ _).and ((zu _ _).and ((zu _ _).and (z2o _ _ _))))
def tuF (b2 b3 b6 b7 b8:Nat):List Fv:=[⟨72,#[],#[.pointer (some ⟨b2,0,none⟩)]⟩,⟨73,#[],#[.pointer (some ⟨b7,0,none⟩)]⟩,⟨74,#[],#[.pointer (some ⟨b2,0,none⟩),.pointer (some ⟨b6,0,none⟩),.pointer (some ⟨b3,0,none⟩)]⟩,
 ⟨77,#[],#[.pointer (some ⟨b2,0,none⟩),.pointer (some ⟨b8,0,none⟩)]⟩,⟨71,#[],#[.pointer (some ⟨b2,0,none⟩),.pointer (some ⟨b6,0,none⟩),.pointer (some ⟨b8,0,none⟩)]⟩,⟨78,#[],#[.pointer (some ⟨b2,0,none⟩),.pointer (some ⟨b6,0,none⟩),.pointer (some ⟨b8,0,none⟩)]⟩]
theorem tu_l (l d s n b2 b3 b6 b7 b8:Nat) (f:Int) (L:Lg) (ad:Option Addr) (m c:Nat) (bs:List Nat) (hs:s <= 4294967296) (hn:n <= 4294967296) (hl:bs.length <= mxr):OpL l d L (TuP l s n b2 b3 b6 b7 b8 f (.slice ad m c) bs) (tuF b2 b3 b6 b7 b8)
  [syO L.seg,erO f,putO (snf L.name s) bs,mkO (sgf L.name n),manO L.name s n,sweepO L.name s n] [1,0,5,3,9,1] :=
 ⟨(sy72_c l d b2 L).mono (fun _ _ _ h=>h.1),enters_of Tryz.func72 (by kernel_rfl) rfl,by omega,(zh0 l d b7 f L).mono (fun _ _ _ h=>h.2.2.2.1),enters_of Tryz.func73 (by kernel_rfl) rfl,by omega,
  (zhw l d b2 b6 b3 s L ad m c bs hs hl).mono (fun _ _ _ h=>⟨h.1,h.2.1,h.2.2.2.2⟩),enters_of Tryz.func74 (by kernel_rfl) rfl,by omega,(mk77_c l d b2 b8 n L (by omega)).mono (fun _ _ _ h=>⟨h.1,h.2.2.1⟩),enters_of Tryz.func77 (by kernel_rfl) rfl,by omega,
  (zhj l d b2 b6 b8 s n L hs hn).mono (fun _ _ _ h=>⟨h.1,h.2.1,h.2.2.1⟩),enters_of Tryz.func71 (by kernel_rfl) rfl,by omega,(zeg l d b2 b6 b8 s n L hs hn).mono (fun _ _ _ h=>⟨h.1,h.2.1,h.2.2.1⟩),enters_of Tryz.func78 (by kernel_rfl) rfl,by omega,trivial⟩
theorem zil (l d:Nat) (Fd Rd FL RL:Nat -> Prop) (L:Lg) (X:Ds) (v:Value) (bs:List Nat) (w:World) (h:LgAt w l d Fd Rd FL RL L X) (hv:Vars w) (hb:BytesO v bs w Fd FL) (hp:pot X + 19 <= 999999) :
  Calls Tryz.prog 23 #[.pointer (some ⟨l,0,none⟩),v] w (LogD w l d Fd Rd FL RL L X 19 (fun L X e L' Y=>turnR L bs X e L' Y)):=by
 obtain ⟨va,vc,rfl,hq⟩:=id hb;have H:=qq h;have HV:=qq hv;have HP:=qq hp;have HB:=qq hb;obtain ⟨m,hm⟩:∃ m,bs.length=m:=⟨_,rfl⟩
 have HM:=qq hm;rw [hm] at HB ⊢;clear h hv hp hb hq hm;go_enter Tryz.func23,Tryz.ntmps23;go_wp2_with (first | go_skip | (with_reducible refine zo (t:=40) ?_) | (with_reducible refine zo (t:=22) ?_))
 refine za (vbox1 (v:=.pointer (some ⟨l,0,none⟩)) (by rfl) rfl ?_);intro b2 w0 n0;simp only [Nat.reduceAdd,qn];go_wp2_with (first | go_skip | (with_reducible refine zo (t:=40) ?_) | (with_reducible refine zo (t:=22) ?_))
 refine za (vbox1 (v:=.slice va m vc) (by rfl) rfl ?_);intro b3 w1 n1;simp only [Nat.reduceAdd,qn];have B2:=qq (n1.k.nb n0.blk);have B3:=qq n1.blk;have G2:Hid (w.heap.size <= b2 /\ b2 < b3 /\ b3 < w1.heap.size):=qq ⟨n0.ge,by have:=n0.lt;have:=n1.ge;omega,n1.lt⟩;have K1:=qq (n0.k.trans_nb n1.k);clear n0 n1;have H1:=qq (H.out.nb K1.out);have HV1:=qq (HV.out.nb K1.out);obtain ⟨sv,lv,vs,q1,-⟩:=H1.out.ex;have MA:=qq (z9h l d sv lv L va m vc w1 q1);have c2:w1.cell? ⟨b2,0,none⟩=some (.pointer (some ⟨l,0,none⟩)):=(cell_of_block B2.out).trans rfl;have c3:w1.cell? ⟨b3,0,none⟩=some (.slice va m vc):=(cell_of_block B3.out).trans rfl;obtain ⟨f0,hf0⟩:∃ f,mayE L m=f:=⟨_,rfl⟩
 rw [hf0] at MA;have HF0:=qq hf0;clear hf0 q1;go_wp2_with fail;refine MA.out.mono ?_;rintro _ _ ⟨rfl,rfl⟩;clear MA;by_cases h0:f0=0
 ·
  subst h0;have hmx:m <= mxr:=by
   have:=HF0.out;unfold mayE at this;split at this
   ·cases this
   ·omega
  have NX:=qq (z7p l d Fd Rd FL RL L X w1 H1.out HV1.out);have hnxb:nxN L.name X <= 2147483647 /\ (nxE L.name X=0 -> nxN L.name X=nx L.name X + 1) /\ (nxE L.name X=0 \/ nxE L.name X=5):=by
   unfold nxN nxE mxn;split
   ·exact ⟨by omega,by simp,.inr rfl⟩
   ·exact ⟨by omega,by simp,.inl rfl⟩
  generalize hn:nxN L.name X=s at NX hnxb;generalize hf:nxE L.name X=f at NX hnxb;have HF:=qq hf;have HNX:=qq hnxb;have hn31:=hnxb.1;clear hn hf hnxb c3;go_wp2_with fail;refine NX.out.mono ?_;rintro _ w8 ⟨rfl,k8⟩;go_wp2_with (first | go_skip | (with_reducible refine qv (by decide) ?_))
  refine za (valloc (z:=.int .i64 0) (by kernel_rfl) ?_);intro b6 w9 n9;simp only [Nat.reduceAdd,qn];go_wp2_with (first | go_skip | (with_reducible refine qv (by decide) ?_))
  refine za (valloc (z:=.int .i64 0) (by kernel_rfl) ?_);intro b7 w10 n10;simp only [Nat.reduceAdd,qn];go_wp2_with (first | go_skip | (with_reducible refine qv (by decide) ?_))
  refine za (zc rfl (zd (v:=.int .i64 (s:Nat)) (n:=1) (by kernel_rfl) (by rfl) (by rfl) (n10.k.nb n9.blk) (by rfl) (by simp [Value.cells]) (by simp [Value.cells,Value.oneCell'])) ?_);intro w11 s11;simp only [Nat.reduceAdd,qn];go_wp2_with (first | go_skip | (with_reducible refine qv (by decide) ?_))
  refine za (zc rfl (zd (v:=.int .i64 f) (n:=1) (by kernel_rfl) (by rfl) (by rfl) (s11.k.at n10.blk (fun e=>by have:=n9.lt;have:=n10.ge;omega)) (by rfl) (by simp [Value.cells]) (by simp [Value.cells,Value.oneCell'])) ?_);intro w12 s12;simp only [Nat.reduceAdd,qn];have h34:b6 < b7:=by have:=n9.lt;have:=n10.ge;omega
  have B7:=qq s12.blk;have B6:=qq (s12.k.at s11.blk (fun e=>by omega));have hz8:=k8.size;have G6:Hid (w1.heap.size <= b6 /\ b6 < b7 /\ b7 < w12.heap.size):=qq ⟨by have:=n9.ge;omega,h34,lt_of_block s12.blk⟩;have K112:Hid (Keeps Nb w1 w12):=qq ((((k8.trans_nb n9.k).trans_nb n10.k).own (k:=b6) (by have:=n9.ge;omega) s11.k).own (k:=b7) (by have:=n9.ge;omega) s12.k);clear k8 n9 n10 s11 s12 NX c2 hz8 h34;have c6:w12.cell? ⟨b6,0,none⟩=some (.int .i64 (s:Nat)):=(cell_of_block B6.out).trans rfl;obtain ⟨n,hsn⟩:∃ n,s + 1=n:=⟨_,rfl⟩
  have HSN:=qq hsn;have iw:IntKind.i64.wrap ((s:Int) + 1)=(n:Int):=by rw [IntWalk.i64_in _ (by omega)];omega
  clear hsn;go_wp2_with (first | go_skip | (with_reducible refine qv (by decide) ?_))
  refine za (valloc (z:=.int .i64 0) (by kernel_rfl) ?_);intro b8 w13 n13;simp only [Nat.reduceAdd,qn];go_wp2_with (first | go_skip | (with_reducible refine qv (by decide) ?_))
  refine za (zc rfl (zd (v:=.int .i64 (n:Int)) (n:=1) (by kernel_rfl) (by rfl) (by rfl) n13.blk (by rfl) (by simp [Value.cells]) (by simp [Value.cells,Value.oneCell'])) ?_);intro w14 s14;simp only [Nat.reduceAdd,qn];have B8:=qq s14.blk;have G8:Hid (w12.heap.size <= b8 /\ b8 < w14.heap.size):=qq ⟨n13.ge,lt_of_block s14.blk⟩;have K1214:Hid (Keeps Nb w12 w14):=qq (n13.k.own (k:=b8) n13.ge s14.k);have B64:=qq (K1214.out.nb B6.out);have B74:=qq (K1214.out.nb B7.out);have B24:=qq (K1214.out.nb (K112.out.nb B2.out));have B34:=qq (K1214.out.nb (K112.out.nb B3.out));clear n13 s14 c6 iw B6 B7;have c7:w14.cell? ⟨b7,0,none⟩=some (.int .i64 f):=(cell_of_block B74.out).trans rfl;have c8:w14.cell? ⟨b8,0,none⟩=some (.int .i64 (n:Int)):=(cell_of_block B8.out).trans rfl;by_cases hf0:f=0
  ·
   subst hf0;have hs:=HNX.out.2.1 rfl;have HS1:=qq hs;clear hs;by_cases hov:2147483647 < n
   ·
    have i1:(2147483647:Int) < (n:Int):=by omega
    have hte:Hid (turnE L.name X=5):=qq (by unfold turnE mxn;rw [if_pos (by have:=HS1.out;have:=HSN.out;omega)]);have hs4:s <= 4294967295:=by omega
    have HS4:=qq hs4;clear hov hn31 hs4;go_wp2_with (first | go_skip | (with_reducible refine qv (by decide) ?_))
    refine za (zc rfl (zd (v:=.int .i64 5) (n:=1) (by kernel_rfl) (by rfl) (by rfl) B74.out (by rfl) (by simp [Value.cells,splice]) (by simp [Value.cells,Value.oneCell'])) ?_);intro w15 s15;simp only [Nat.reduceAdd,qn];have hne7:b8 ≠ b7 /\ b6 ≠ b7 /\ b2 ≠ b7 /\ b3 ≠ b7:=by have:=G6.out;have:=G8.out;have:=G2.out;have:=lt_of_block B74.out;omega
    have B85:=qq (s15.k.at B8.out hne7.1);have B65:=qq (s15.k.at B64.out hne7.2.1);have B25:=qq (s15.k.at B24.out hne7.2.2.1);have B35:=qq (s15.k.at B34.out hne7.2.2.2);have B75:=qq s15.blk;have K115:Hid (Keeps Nb w1 w15):=qq ((K112.out.trans_nb K1214.out).own (k:=b7) (by have:=G6.out;omega) s15.k);clear s15 hne7 c7 c8 i1;have KA:Hid (Keeps Nb w1 w15):=K115;have HA:=qq (H1.out.nb KA.out);have KW:=qq (K1.out.trans_nb KA.out)
    have NOF:Hid (((¬ Fd b2 /\ ¬ FL b2) /\ (¬ Fd b3 /\ ¬ FL b3) /\ (¬ Fd b8 /\ ¬ FL b8)) /\ (¬ Fd b6 /\ ¬ FL b6) /\ (¬ Fd b7 /\ ¬ FL b7) /\ b2 ≠ l /\ b3 ≠ l /\ b8 ≠ l):=qq (by
     have h1:=G2.out;have h2:=G6.out;have h4:=G8.out;have h3:=H.out.ltF l H.out.fl;have h5:=K112.out.size
     exact ⟨⟨zt H.out (by omega),zt H.out (by omega),zt H.out (by omega)⟩,zt H.out (by omega),zt H.out (by omega),by omega,by omega,by omega⟩)
    have hP:TuP l s n b2 b3 b6 b7 b8 (5:Int) (.slice va m vc) bs w15 Fd FL:=⟨⟨B25.out,NOF.out.1.1⟩,⟨B65.out,NOF.out.2.1⟩,⟨B85.out,NOF.out.1.2.2⟩,⟨B75.out,NOF.out.2.2.1⟩,⟨⟨B35.out,NOF.out.1.2.1⟩,(Bytes.keeps HB.out KW.out (fun _ _ e=>e)).mono (fun k hk=>⟨Nat.lt_of_lt_of_le hk.1 KW.out.size,hk.2⟩)⟩⟩
    have HP2:=qq hP;have c2:w15.cell? ⟨b2,0,none⟩=some (.pointer (some ⟨l,0,none⟩)):=(cell_of_block B25.out).trans rfl;clear hP;go_wp2_with (first | go_skip | (with_reducible refine qv (by decide) ?_))
    refine za (zj rfl (zl el138 ((tuF b2 b3 b6 b7 b8).map Fv.v) rfl (by simp [List.range'_succ];first | done | rfl | exact ⟨rfl,rfl⟩ | exact ⟨rfl,rfl,rfl⟩ | exact ⟨rfl,rfl,rfl,rfl⟩ | exact ⟨rfl,rfl,rfl,rfl,rfl⟩ | exact ⟨rfl,rfl,rfl,rfl,rfl,rfl⟩) (by simp [Value.cells,tuF,Fv.v]) (by simp [tuF])) ?_);rintro _ wS ⟨b20,rfl,nS⟩;simp only [Nat.reduceAdd,qn];have hrow:Has wS (some ⟨b20,0,none⟩) ((tuF b2 b3 b6 b7 b8).map Fv.v):=zm nS.blk;have KS:=qq nS.k;have hbl:bs.length <= mxr:=by rw [HM.out];exact hmx
    have AR:=qq (z1a (n:=6) (z1m l s n b2 b3 b6 b7 b8 (5:Int) (.slice va m vc) bs) (tu_l l d s n b2 b3 b6 b7 b8 (5:Int) L va m vc bs (by have:=HS4.out;omega) (by have:=HS4.out;have:=HSN.out;omega) hbl) (HA.out.nb nS.k) ((HV1.out.nb KA.out).nb nS.k) (z1m l s n b2 b3 b6 b7 b8 (5:Int) (.slice va m vc) bs _ _ _ _ _ _ HP2.out nS.k.of_nb (fun _ _ e=>e) (fun _ _ e=>e)) rfl (by omega) (by have:=HP.out;simpa using this) hrow (zt HA.out nS.ge));clear hrow nS c2 hbl;go_wp2_with fail;refine AR.out.mono ?_;rintro _ wT ⟨er,Y,L',rfl,hnow,hask,hL',hpot⟩;have HASK:=qq hask;have HL':=qq hL';have HPO:=qq hpot;clear AR hask hL' hpot;have he:er ≠ 0:=(z1z (l':=[]) (by decide) HASK.out).2;have HE:=qq he;have e2:L'={ L with bad:=true }:=by rw [HL'.out,if_neg he]
    subst e2;have F:Hid (LNow w wT l d Fd Rd FL RL { L with bad:=true } Y):=qq ((hnow.from KS.out).from KW.out);have t9:(er != 0)=true:=by simpa using he
    have hor:askO [syO L.seg,erO (turnE L.name X),putO (snf L.name (nx L.name X + 1)) bs,mkO (sgf L.name (nx L.name X + 2)),manO L.name (nx L.name X + 1) (nx L.name X + 2),sweepO L.name (nx L.name X + 1) (nx L.name X + 2)] X er Y:=by rw [hte.out];exact (z1z (by decide) HASK.out).1
    have HO:=qq hor;clear he hor hnow;go_wp2;go_ret;exact ⟨er,_,Y,rfl,F.out,.inr ⟨by rw [HM.out];exact HF0.out,HO.out,.inl ⟨HE.out,rfl⟩⟩,by have:=HPO.out;simpa using this⟩
   ·
    have i1:(n:Int) <= 2147483647:=by omega
    have hte:Hid (turnE L.name X=0):=qq (by unfold turnE mxn;rw [if_neg (by have:=HS1.out;have:=HSN.out;omega)]);have hs4:s <= 4294967295:=by omega
    have hn4:n <= 2147483647:=by omega
    have HS4:=qq hs4;have HN4:=qq hn4;have K114:Hid (Keeps Nb w1 w14):=qq (K112.out.trans_nb K1214.out);clear hov hn31 hs4 hn4;have KA:Hid (Keeps Nb w1 w14):=K114;have HA:=qq (H1.out.nb KA.out);have KW:=qq (K1.out.trans_nb KA.out)
    have NOF:Hid (((¬ Fd b2 /\ ¬ FL b2) /\ (¬ Fd b3 /\ ¬ FL b3) /\ (¬ Fd b8 /\ ¬ FL b8)) /\ (¬ Fd b6 /\ ¬ FL b6) /\ (¬ Fd b7 /\ ¬ FL b7) /\ b2 ≠ l /\ b3 ≠ l /\ b8 ≠ l):=qq (by
     have h1:=G2.out;have h2:=G6.out;have h4:=G8.out;have h3:=H.out.ltF l H.out.fl;have h5:=K112.out.size
     exact ⟨⟨zt H.out (by omega),zt H.out (by omega),zt H.out (by omega)⟩,zt H.out (by omega),zt H.out (by omega),by omega,by omega,by omega⟩)
    have hP:TuP l s n b2 b3 b6 b7 b8 (0:Int) (.slice va m vc) bs w14 Fd FL:=⟨⟨B24.out,NOF.out.1.1⟩,⟨B64.out,NOF.out.2.1⟩,⟨B8.out,NOF.out.1.2.2⟩,⟨B74.out,NOF.out.2.2.1⟩,⟨⟨B34.out,NOF.out.1.2.1⟩,(Bytes.keeps HB.out KW.out (fun _ _ e=>e)).mono (fun k hk=>⟨Nat.lt_of_lt_of_le hk.1 KW.out.size,hk.2⟩)⟩⟩
    have HP2:=qq hP;have c2:w14.cell? ⟨b2,0,none⟩=some (.pointer (some ⟨l,0,none⟩)):=(cell_of_block B24.out).trans rfl;clear hP;go_wp2_with (first | go_skip | (with_reducible refine qv (by decide) ?_))
    refine za (zj rfl (zl el138 ((tuF b2 b3 b6 b7 b8).map Fv.v) rfl (by simp [List.range'_succ];first | done | rfl | exact ⟨rfl,rfl⟩ | exact ⟨rfl,rfl,rfl⟩ | exact ⟨rfl,rfl,rfl,rfl⟩ | exact ⟨rfl,rfl,rfl,rfl,rfl⟩ | exact ⟨rfl,rfl,rfl,rfl,rfl,rfl⟩) (by simp [Value.cells,tuF,Fv.v]) (by simp [tuF])) ?_);rintro _ wS ⟨b20,rfl,nS⟩;simp only [Nat.reduceAdd,qn];have hrow:Has wS (some ⟨b20,0,none⟩) ((tuF b2 b3 b6 b7 b8).map Fv.v):=zm nS.blk;have KS:=qq nS.k;have hbl:bs.length <= mxr:=by rw [HM.out];exact hmx
    have AR:=qq (z1a (n:=6) (z1m l s n b2 b3 b6 b7 b8 (0:Int) (.slice va m vc) bs) (tu_l l d s n b2 b3 b6 b7 b8 (0:Int) L va m vc bs (by have:=HS4.out;omega) (by have:=HS4.out;have:=HSN.out;omega) hbl) (HA.out.nb nS.k) ((HV1.out.nb KA.out).nb nS.k) (z1m l s n b2 b3 b6 b7 b8 (0:Int) (.slice va m vc) bs _ _ _ _ _ _ HP2.out nS.k.of_nb (fun _ _ e=>e) (fun _ _ e=>e)) rfl (by omega) (by have:=HP.out;simpa using this) hrow (zt HA.out nS.ge));clear hrow nS c2 hbl;go_wp2_with fail;refine AR.out.mono ?_;rintro _ wT ⟨er,Y,L',rfl,hnow,hask,hL',hpot⟩;have HASK:=qq hask;have HL':=qq hL';have HPO:=qq hpot;clear AR hask hL' hpot;have hk14:Keeps (fun k=>Fd k \/ FL k) wS wT:=by obtain ⟨_,_,_,_,_,_,_,_,_,hk⟩:=hnow;exact hk
    have B2T:=qq (hk14.at (KS.out.nb B24.out) (fun e=>e.elim NOF.out.1.1.1 NOF.out.1.1.2));have B3T:=qq (hk14.at (KS.out.nb B34.out) (fun e=>e.elim NOF.out.1.2.1.1 NOF.out.1.2.1.2));have B8T:=qq (hk14.at (KS.out.nb B8.out) (fun e=>e.elim NOF.out.1.2.2.1 NOF.out.1.2.2.2));have HBT:Hid (Bytes wT (Out w Fd FL) (.slice va m vc) bs):=qq ((Bytes.keeps HB.out (KW.out.trans_nb KS.out) (fun _ _ e=>e)).keeps hk14 (fun k hk e=>e.elim hk.2.1 hk.2.2));have hnow1:=(hnow.from KS.out).from KW.out;obtain ⟨Fd',Rd',FL',RL',g1,g2,g3,g4,g5,g6⟩:=hnow1;obtain ⟨sv3,lv3,vs3,q1,q2,q3,q4⟩:=g1.ex;have Q1:=qq q1;have HG1:=qq g1;have HR:=qq (And.intro g2 (And.intro g3 (And.intro g4 (And.intro g5 g6))));clear g1 g2 g3 g4 g5 g6 q1 q2 q3 q4 hk14 B24 B34 B64 B74 B8 c8 c7;by_cases he:er=0
    ·
     subst he;have e2:L'=L:=by rw [HL'.out,if_pos rfl]
     subst e2
     have hor:Hid (askO [syO L'.seg,erO (turnE L'.name X),putO (snf L'.name (nx L'.name X + 1)) bs,mkO (sgf L'.name (nx L'.name X + 2)),manO L'.name (nx L'.name X + 1) (nx L'.name X + 2),sweepO L'.name (nx L'.name X + 1) (nx L'.name X + 2)] X 0 Y):=qq (by
      have e1:nx L'.name X + 1=s:=HS1.out.symm;have e2:nx L'.name X + 2=n:=by have:=HSN.out;omega
      rw [hte.out,e1,e2];exact HASK.out)
     clear hnow;go_wp2;refine WT.region (fun u=>u.cell? ⟨b2,0,none⟩=some (.pointer (some ⟨l,0,none⟩)) /\ u.cell? ⟨b3,0,none⟩=some (.slice va m vc)) 15 18 [0,1,2,3,4,5,6,7,8,9,10,11,12,13,14,15,16,17] (by kernel_rfl) rfl ?_;have K0:Hid (Keeps Nb wT wT.drew):=qq (Keeps.refl _ wT).drew;have HS:Hid ((fun u:World=>u.cell? ⟨b2,0,none⟩=some (.pointer (some ⟨l,0,none⟩)) /\ u.cell? ⟨b3,0,none⟩=some (.slice va m vc)) wT.drew):=qq ⟨(cell_of_block (w:=wT.drew) B2T.out).trans rfl,(cell_of_block (w:=wT.drew) B3T.out).trans rfl⟩;have CA:=qq (z38 (.slice va m vc) bs _ wT.drew (HBT.out.keeps K0.out (fun _ _ e=>e)) (by rw [HM.out];unfold mxr at hmx;omega));refine WT.t 0 (v:=.pointer (some ⟨l,0,none⟩)) (y:=by rintro w ⟨C1,C2⟩;exact zb (by kernel_rfl) (by rfl) C1) (s:=HS.out) (h:=?_);refine WT.t 1 (v:=.pointer (some ⟨l,0,none⟩)) (y:=by rintro w ⟨C1,C2⟩;exact zb (by kernel_rfl) (by rfl) C1) (s:=HS.out) (h:=?_);refine WT.t 2 (v:=.pointer (some ⟨l,0,none⟩)) (y:=by rintro w ⟨C1,C2⟩;exact zb (by kernel_rfl) (by rfl) C1) (s:=HS.out) (h:=?_);refine WT.t 3 (v:=.pointer (some ⟨l,0,none⟩)) (y:=by rintro w ⟨C1,C2⟩;exact zb (by kernel_rfl) (by rfl) C1) (s:=HS.out) (h:=?_);refine WT.t 4 (v:=.slice va m vc) (y:=by rintro w ⟨C1,C2⟩;exact zb (by kernel_rfl) (by rfl) C2) (s:=HS.out) (h:=?_);refine WT.call 5 (by simp only [qi];rfl) (by kernel_rfl) (by rfl) (by go_simp;first | done | rfl | exact ⟨⟨rfl,rfl⟩,rfl⟩ | exact ⟨⟨rfl,rfl,rfl⟩,rfl⟩ | exact ⟨⟨rfl,rfl,rfl,rfl⟩,rfl⟩ | exact ⟨⟨rfl,rfl,rfl,rfl,rfl⟩,rfl⟩) CA.out ?_;rintro _ wU ⟨cv,rfl,hco,kU⟩;have KU:Hid (Keeps Nb wT wU):=qq (K0.out.trans_nb kU);have HCV:Hid (Bytes wU (fun k=>(wT.heap.size <= k /\ k < wU.heap.size) /\ IsT wU 5 k) cv bs):=qq (z0k hco (by obtain ⟨_,_,_,_,_,_,hlt,_⟩:=HBT.out;exact hlt));obtain ⟨ca,cc,rfl,-⟩:=id HCV.out;rw [HM.out] at HCV ⊢;clear hco kU CA;have B2U:=qq (KU.out.nb B2T.out);have B3U:=qq (KU.out.nb B3T.out);have B8U:=qq (KU.out.nb B8T.out);have QU:=qq (KU.out.nb Q1.out);replace HS:Hid ((fun u:World=>u.cell? ⟨b2,0,none⟩=some (.pointer (some ⟨l,0,none⟩)) /\ u.cell? ⟨b3,0,none⟩=some (.slice va m vc)) wU):=qq ⟨(cell_of_block B2U.out).trans rfl,(cell_of_block B3U.out).trans rfl⟩;refine ⟨_,rfl,HS.out,?_⟩;simp only [Nat.reduceAdd,qn];refine WT.t 6 (v:=_) (y:=by rintro w ⟨C1,C2⟩;go_simp;with_reducible rfl) (s:=HS.out) (h:=?_);refine WT.t 7 (v:=_) (y:=by rintro w ⟨C1,C2⟩;go_simp;with_reducible rfl) (s:=HS.out) (h:=?_);refine WT.onlySkipE 8 (by simp only [qi];rfl) (by kernel_rfl) (by rfl) (zd (v:=.slice ca m cc) (n:=1) (by kernel_rfl) (by rfl) (by rfl) QU.out (by rfl) (by simp [Value.cells,lcs]) (by simp [Value.cells,Value.oneCell'])) ?_;intro wa sa;have B2a:=qq (sa.k.at B2U.out NOF.out.2.2.2.1);have B3a:=qq (sa.k.at B3U.out NOF.out.2.2.2.2.1);have B8a:=qq (sa.k.at B8U.out NOF.out.2.2.2.2.2);replace HS:Hid ((fun u:World=>u.cell? ⟨b2,0,none⟩=some (.pointer (some ⟨l,0,none⟩)) /\ u.cell? ⟨b3,0,none⟩=some (.slice va m vc)) wa):=qq ⟨(cell_of_block B2a.out).trans rfl,(cell_of_block B3a.out).trans rfl⟩;refine ⟨HS.out,?_⟩;simp only [Nat.reduceAdd,qn];refine WT.t 9 (v:=_) (y:=by rintro w ⟨C1,C2⟩;go_simp;with_reducible rfl) (s:=HS.out) (h:=?_);refine WT.t 10 (v:=_) (y:=by rintro w ⟨C1,C2⟩;go_simp;with_reducible rfl) (s:=HS.out) (h:=?_);refine WT.onlySkipE 11 (by simp only [qi];rfl) (by kernel_rfl) (by rfl) (zd (v:=.bool true) (n:=1) (by kernel_rfl) (by rfl) (by rfl) sa.blk (by rfl) (by simp [Value.cells,lcs,splice]) (by simp [Value.cells,Value.oneCell'])) ?_;intro wb sb;have B2b:=qq (sb.k.at B2a.out NOF.out.2.2.2.1);have B3b:=qq (sb.k.at B3a.out NOF.out.2.2.2.2.1);have B8b:=qq (sb.k.at B8a.out NOF.out.2.2.2.2.2);replace HS:Hid ((fun u:World=>u.cell? ⟨b2,0,none⟩=some (.pointer (some ⟨l,0,none⟩)) /\ u.cell? ⟨b3,0,none⟩=some (.slice va m vc)) wb):=qq ⟨(cell_of_block B2b.out).trans rfl,(cell_of_block B3b.out).trans rfl⟩;refine ⟨HS.out,?_⟩;simp only [Nat.reduceAdd,qn];refine WT.t 12 (v:=_) (y:=by rintro w ⟨C1,C2⟩;go_simp;with_reducible rfl) (s:=HS.out) (h:=?_);refine WT.t 13 (v:=_) (y:=by rintro w ⟨C1,C2⟩;go_simp;with_reducible rfl) (s:=HS.out) (h:=?_);refine WT.onlySkipE 14 (by simp only [qi];rfl) (by kernel_rfl) (by rfl) (zd (v:=.slice none 0 0) (n:=1) (by kernel_rfl) (by rfl) (by rfl) sb.blk (by rfl) (by simp [Value.cells,lcs,splice]) (by simp [Value.cells,Value.oneCell'])) ?_;intro wc sc;have B2c:=qq (sc.k.at B2b.out NOF.out.2.2.2.1);have B3c:=qq (sc.k.at B3b.out NOF.out.2.2.2.2.1);have B8c:=qq (sc.k.at B8b.out NOF.out.2.2.2.2.2);replace HS:Hid ((fun u:World=>u.cell? ⟨b2,0,none⟩=some (.pointer (some ⟨l,0,none⟩)) /\ u.cell? ⟨b3,0,none⟩=some (.slice va m vc)) wc):=qq ⟨(cell_of_block B2c.out).trans rfl,(cell_of_block B3c.out).trans rfl⟩;refine ⟨HS.out,?_⟩;simp only [Nat.reduceAdd,qn];refine WT.stop (by kernel_rfl) ?_;refine WP.o 15 (v:=_) (y:=by go_simp;first | with_reducible rfl | exact ⟨rfl,rfl⟩) (h:=?_);refine WP.o 16 (v:=_) (y:=by go_simp;first | with_reducible rfl | exact ⟨rfl,rfl⟩) (h:=?_);refine WP.onlySkipE 17 (by simp only [qi];rfl) (by kernel_rfl) (by rfl) (zd (v:=.int .i64 0) (n:=1) (by kernel_rfl) (by rfl) (by rfl) sc.blk (by rfl) (by simp [Value.cells,lcs,splice]) (by simp [Value.cells,Value.oneCell'])) ?_;intro wd sd;simp only [Nat.reduceAdd,qn];refine WP.done (by kernel_rfl) ?_;have B2d:=qq (sd.k.at B2c.out NOF.out.2.2.2.1);have B8d:=qq (sd.k.at B8c.out NOF.out.2.2.2.2.2);have SD:Hid (SetAt wU wd l (.cells (lcs d (.slice ca m cc) (.slice none 0 0) { L' with snap:=bs,has:=true,recs:=[],synced:=0 }) 78 (0,0))):=qq ⟨sd.blk,((sa.k.trans sb.k (fun _ _ e=>e)).trans sc.k (fun _ _ e=>e)).trans sd.k (fun _ _ e=>e)⟩;clear sa sb sc sd HS B2a B3a B8a B2b B3b B8b B2c B3c B8c;go_wp2;refine WT.region (fun u=>u.cell? ⟨b2,0,none⟩=some (.pointer (some ⟨l,0,none⟩)) /\ u.cell? ⟨b8,0,none⟩=some (.int .i64 (n:Nat))) 15 18 [0,1,2,3,4,5,6,7,8,9,10,11,12,13,14,15,16,17] (by kernel_rfl) rfl ?_;have HS:Hid ((fun u:World=>u.cell? ⟨b2,0,none⟩=some (.pointer (some ⟨l,0,none⟩)) /\ u.cell? ⟨b8,0,none⟩=some (.int .i64 (n:Nat))) wd.drew):=qq ⟨(cell_of_block (w:=wd.drew) B2d.out).trans rfl,(cell_of_block (w:=wd.drew) B8d.out).trans rfl⟩;refine WT.t 0 (v:=.pointer (some ⟨l,0,none⟩)) (y:=by rintro w ⟨C1,C2⟩;exact zb (by kernel_rfl) (by rfl) C1) (s:=HS.out) (h:=?_);refine WT.t 1 (v:=.pointer (some ⟨l,0,none⟩)) (y:=by rintro w ⟨C1,C2⟩;exact zb (by kernel_rfl) (by rfl) C1) (s:=HS.out) (h:=?_);refine WT.t 2 (v:=.pointer (some ⟨l,0,none⟩)) (y:=by rintro w ⟨C1,C2⟩;exact zb (by kernel_rfl) (by rfl) C1) (s:=HS.out) (h:=?_);refine WT.t 3 (v:=.pointer (some ⟨l,0,none⟩)) (y:=by rintro w ⟨C1,C2⟩;exact zb (by kernel_rfl) (by rfl) C1) (s:=HS.out) (h:=?_);refine WT.t 4 (v:=.int .i64 (n:Nat)) (y:=by rintro w ⟨C1,C2⟩;exact zb (by kernel_rfl) (by rfl) C2) (s:=HS.out) (h:=?_);refine WT.t 5 (v:=.int .i64 (n:Nat)) (y:=by rintro w ⟨C1,C2⟩;exact zb (by kernel_rfl) (by rfl) C2) (s:=HS.out) (h:=?_);refine WT.t 6 (v:=_) (y:=by rintro w ⟨C1,C2⟩;go_simp;with_reducible rfl) (s:=HS.out) (h:=?_);refine WT.t 7 (v:=_) (y:=by rintro w ⟨C1,C2⟩;go_simp;with_reducible rfl) (s:=HS.out) (h:=?_);refine WT.onlySkipE 8 (by simp only [qi];rfl) (by kernel_rfl) (by rfl) (zd (w:=wd.drew) (v:=.int .i64 (n:Nat)) (n:=1) (by kernel_rfl) (by rfl) (by rfl) SD.out.blk (by rfl) (by simp [Value.cells,lcs,splice]) (by simp [Value.cells,Value.oneCell'])) ?_;intro we swe;have B2we:=qq (swe.k.at (w:=wd.drew) B2d.out NOF.out.2.2.2.1);have B8we:=qq (swe.k.at (w:=wd.drew) B8d.out NOF.out.2.2.2.2.2);replace HS:Hid ((fun u:World=>u.cell? ⟨b2,0,none⟩=some (.pointer (some ⟨l,0,none⟩)) /\ u.cell? ⟨b8,0,none⟩=some (.int .i64 (n:Nat))) we):=qq ⟨(cell_of_block B2we.out).trans rfl,(cell_of_block B8we.out).trans rfl⟩;refine ⟨HS.out,?_⟩;simp only [Nat.reduceAdd,qn];refine WT.t 9 (v:=_) (y:=by rintro w ⟨C1,C2⟩;go_simp;with_reducible rfl) (s:=HS.out) (h:=?_);refine WT.t 10 (v:=_) (y:=by rintro w ⟨C1,C2⟩;go_simp;with_reducible rfl) (s:=HS.out) (h:=?_);refine WT.onlySkipE 11 (by simp only [qi];rfl) (by kernel_rfl) (by rfl) (zd (v:=.int .i64 (n:Nat)) (n:=1) (by kernel_rfl) (by rfl) (by rfl) swe.blk (by rfl) (by simp [Value.cells,lcs,splice]) (by simp [Value.cells,Value.oneCell'])) ?_;intro wf swf;have B2wf:=qq (swf.k.at B2we.out NOF.out.2.2.2.1);have B8wf:=qq (swf.k.at B8we.out NOF.out.2.2.2.2.2);replace HS:Hid ((fun u:World=>u.cell? ⟨b2,0,none⟩=some (.pointer (some ⟨l,0,none⟩)) /\ u.cell? ⟨b8,0,none⟩=some (.int .i64 (n:Nat))) wf):=qq ⟨(cell_of_block B2wf.out).trans rfl,(cell_of_block B8wf.out).trans rfl⟩;refine ⟨HS.out,?_⟩;simp only [Nat.reduceAdd,qn];refine WT.t 12 (v:=_) (y:=by rintro w ⟨C1,C2⟩;go_simp;with_reducible rfl) (s:=HS.out) (h:=?_);refine WT.t 13 (v:=_) (y:=by rintro w ⟨C1,C2⟩;go_simp;with_reducible rfl) (s:=HS.out) (h:=?_);refine WT.onlySkipE 14 (by simp only [qi];rfl) (by kernel_rfl) (by rfl) (zd (v:=.int .i64 1) (n:=1) (by kernel_rfl) (by rfl) (by rfl) swf.blk (by rfl) (by simp [Value.cells,lcs,splice]) (by simp [Value.cells,Value.oneCell'])) ?_;intro wg swg;have B2wg:=qq (swg.k.at B2wf.out NOF.out.2.2.2.1);have B8wg:=qq (swg.k.at B8wf.out NOF.out.2.2.2.2.2);replace HS:Hid ((fun u:World=>u.cell? ⟨b2,0,none⟩=some (.pointer (some ⟨l,0,none⟩)) /\ u.cell? ⟨b8,0,none⟩=some (.int .i64 (n:Nat))) wg):=qq ⟨(cell_of_block B2wg.out).trans rfl,(cell_of_block B8wg.out).trans rfl⟩;refine ⟨HS.out,?_⟩;simp only [Nat.reduceAdd,qn];refine WT.stop (by kernel_rfl) ?_;refine WP.o 15 (v:=_) (y:=by go_simp;first | with_reducible rfl | exact ⟨rfl,rfl⟩) (h:=?_);refine WP.o 16 (v:=_) (y:=by go_simp;first | with_reducible rfl | exact ⟨rfl,rfl⟩) (h:=?_);refine WP.onlySkipE 17 (by simp only [qi];rfl) (by kernel_rfl) (by rfl) (zd (v:=.int .i64 0) (n:=1) (by kernel_rfl) (by rfl) (by rfl) swg.blk (by rfl) (by simp [Value.cells,lcs,splice]) (by simp [Value.cells,Value.oneCell'])) ?_;intro wh swh;simp only [Nat.reduceAdd,qn];refine WP.done (by kernel_rfl) ?_;have SH:Hid (SetAt wU wh l (.cells (lcs d (.slice ca m cc) (.slice none 0 0) { L' with snap:=bs,has:=true,recs:=[],synced:=0,first:=n,segment:=n,segments:=1,size:=0 }) 78 (0,0))):=qq ⟨swh.blk,(((SD.out.k.drew.trans swe.k (fun _ _ e=>e)).trans swf.k (fun _ _ e=>e)).trans swg.k (fun _ _ e=>e)).trans swh.k (fun _ _ e=>e)⟩;clear swe swf swg swh HS;have hg:LgAt wh l d Fd' Rd' (fun k=>FL' k \/ (wT.heap.size <= k /\ k < wU.heap.size /\ IsT wU 22 k)) (fun k=>RL' k \/ (wT.heap.size <= k /\ k < wU.heap.size /\ IsT wU 5 k)) { L' with snap:=bs,has:=true,recs:=[],synced:=0,first:=n,segment:=n,segments:=1,size:=0 } Y:=by
      have hh:=HG1.out.nums;refine LgAt.put (w0:=wT) (vs:=[]) HG1.out KU.out.size (HG1.out.disk.nb KU.out) ⟨_,QU.out⟩ SH.out ?_ HG1.out.lt6 ⟨hh.name,hh.n16,hh.most,(by have:=HN4.out;show n <= _;omega),(by have:=HN4.out;show n <= _;omega),(by show 1 <= 1000000;omega),Nat.zero_le _,(fun b hb=>by cases hb),Nat.zero_le _,(by show bs.length <= _;rw [HM.out];exact hmx)⟩ ?_ (RowS.nil _ _ _ _ _) (.nil _ _)
      ·exact fun k e=>e.elim (HG1.out.disk.ltF k) fun e=>e.elim (HG1.out.disk.ltR k) fun e=>e.elim (HG1.out.ltF k) (HG1.out.ltR k)
      ·exact HCV.out.mono fun k hk=>.inr ⟨hk.1.1,hk.1.2,hk.2⟩
     have zU:=KU.out.size;have z1:w.heap.size <= wT.heap.size:=HR.out.2.2.2.2.size
     have F:Hid (LNow w wh l d Fd Rd FL RL { L' with snap:=bs,has:=true,recs:=[],synced:=0,first:=n,segment:=n,segments:=1,size:=0 } Y):=qq (by
      obtain ⟨g2,g3,g4,g5,g6⟩:=HR.out
      exact ⟨Fd',Rd',_,_,hg,g2,g3,fun k e=>e.elim (g4 k) (fun e=>.inr (by omega)),fun k e=>e.elim (g5 k) (fun e=>.inr (by omega)),(g6.trans_nb KU.out).trans SH.out.k (fun j hj e=>by
       have e:j=l:=e;subst e
       exact .inr H.out.fl)⟩)
     clear hg zU z1;go_wp2;go_ret;refine ⟨0,_,Y,rfl,F.out,.inr ⟨by rw [HM.out];exact HF0.out,hor.out,.inr ⟨rfl,?_⟩⟩,by have:=HPO.out;simpa using this⟩;have e2:nx L'.name X + 2=n:=by have:=HSN.out;have:=HS1.out;omega
     rw [e2]
    ·
     skip
     have he:er ≠ 0:=he;have HE:=qq he;have e2:L'={ L with bad:=true }:=by rw [HL'.out,if_neg he]
     subst e2;have F:Hid (LNow w wT l d Fd Rd FL RL { L with bad:=true } Y):=qq ((hnow.from KS.out).from KW.out);have t9:(er != 0)=true:=by simpa using he
     have hor:askO [syO L.seg,erO (turnE L.name X),putO (snf L.name (nx L.name X + 1)) bs,mkO (sgf L.name (nx L.name X + 2)),manO L.name (nx L.name X + 1) (nx L.name X + 2),sweepO L.name (nx L.name X + 1) (nx L.name X + 2)] X er Y:=by have e1:nx L.name X + 1=s:=HS1.out.symm;have e2:nx L.name X + 2=n:=(by have:=HSN.out;omega);rw [hte.out,e1,e2];exact HASK.out
     have HO:=qq hor;clear he hor hnow;go_wp2;go_ret;exact ⟨er,_,Y,rfl,F.out,.inr ⟨by rw [HM.out];exact HF0.out,HO.out,.inl ⟨HE.out,rfl⟩⟩,by have:=HPO.out;simpa using this⟩
  ·
   have t7:(f == 0)=false:=by simpa using hf0
   have K114:Hid (Keeps Nb w1 w14):=qq (K112.out.trans_nb K1214.out);have HFN:=qq hf0;have hs4:s <= 4294967295:=by omega
   have HS4:=qq hs4;clear hf0 c8 hn31 hs4;have KA:Hid (Keeps Nb w1 w14):=K114;have HA:=qq (H1.out.nb KA.out);have KW:=qq (K1.out.trans_nb KA.out)
   have NOF:Hid (((¬ Fd b2 /\ ¬ FL b2) /\ (¬ Fd b3 /\ ¬ FL b3) /\ (¬ Fd b8 /\ ¬ FL b8)) /\ (¬ Fd b6 /\ ¬ FL b6) /\ (¬ Fd b7 /\ ¬ FL b7) /\ b2 ≠ l /\ b3 ≠ l /\ b8 ≠ l):=qq (by
    have h1:=G2.out;have h2:=G6.out;have h4:=G8.out;have h3:=H.out.ltF l H.out.fl;have h5:=K112.out.size
    exact ⟨⟨zt H.out (by omega),zt H.out (by omega),zt H.out (by omega)⟩,zt H.out (by omega),zt H.out (by omega),by omega,by omega,by omega⟩)
   have hP:TuP l s n b2 b3 b6 b7 b8 f (.slice va m vc) bs w14 Fd FL:=⟨⟨B24.out,NOF.out.1.1⟩,⟨B64.out,NOF.out.2.1⟩,⟨B8.out,NOF.out.1.2.2⟩,⟨B74.out,NOF.out.2.2.1⟩,⟨⟨B34.out,NOF.out.1.2.1⟩,(Bytes.keeps HB.out KW.out (fun _ _ e=>e)).mono (fun k hk=>⟨Nat.lt_of_lt_of_le hk.1 KW.out.size,hk.2⟩)⟩⟩
   have HP2:=qq hP;have c2:w14.cell? ⟨b2,0,none⟩=some (.pointer (some ⟨l,0,none⟩)):=(cell_of_block B24.out).trans rfl;clear hP;go_wp2_with (first | go_skip | (with_reducible refine qv (by decide) ?_))
   refine za (zj rfl (zl el138 ((tuF b2 b3 b6 b7 b8).map Fv.v) rfl (by simp [List.range'_succ];first | done | rfl | exact ⟨rfl,rfl⟩ | exact ⟨rfl,rfl,rfl⟩ | exact ⟨rfl,rfl,rfl,rfl⟩ | exact ⟨rfl,rfl,rfl,rfl,rfl⟩ | exact ⟨rfl,rfl,rfl,rfl,rfl,rfl⟩) (by simp [Value.cells,tuF,Fv.v]) (by simp [tuF])) ?_);rintro _ wS ⟨b20,rfl,nS⟩;simp only [Nat.reduceAdd,qn];have hrow:Has wS (some ⟨b20,0,none⟩) ((tuF b2 b3 b6 b7 b8).map Fv.v):=zm nS.blk;have KS:=qq nS.k;have hbl:bs.length <= mxr:=by rw [HM.out];exact hmx
   have AR:=qq (z1a (n:=6) (z1m l s n b2 b3 b6 b7 b8 f (.slice va m vc) bs) (tu_l l d s n b2 b3 b6 b7 b8 f L va m vc bs (by have:=HS4.out;omega) (by have:=HS4.out;have:=HSN.out;omega) hbl) (HA.out.nb nS.k) ((HV1.out.nb KA.out).nb nS.k) (z1m l s n b2 b3 b6 b7 b8 f (.slice va m vc) bs _ _ _ _ _ _ HP2.out nS.k.of_nb (fun _ _ e=>e) (fun _ _ e=>e)) rfl (by omega) (by have:=HP.out;simpa using this) hrow (zt HA.out nS.ge));clear hrow nS c2 hbl;go_wp2_with fail;refine AR.out.mono ?_;rintro _ wT ⟨er,Y,L',rfl,hnow,hask,hL',hpot⟩;have HASK:=qq hask;have HL':=qq hL';have HPO:=qq hpot;clear AR hask hL' hpot
   have hte:Hid (turnE L.name X=f):=qq (by
    have h1:=HF.out;have h5:f=5:=HNX.out.2.2.resolve_left HFN.out;rw [h5] at h1 ⊢;unfold nxE at h1;split at h1
    ·unfold turnE;rw [if_pos (by omega)]
    ·cases h1)
   have he:er ≠ 0:=(z1z (l':=[]) HFN.out HASK.out).2;have HE:=qq he;have e2:L'={ L with bad:=true }:=by rw [HL'.out,if_neg he]
   subst e2;have F:Hid (LNow w wT l d Fd Rd FL RL { L with bad:=true } Y):=qq ((hnow.from KS.out).from KW.out);have t9:(er != 0)=true:=by simpa using he
   have hor:askO [syO L.seg,erO (turnE L.name X),putO (snf L.name (nx L.name X + 1)) bs,mkO (sgf L.name (nx L.name X + 2)),manO L.name (nx L.name X + 1) (nx L.name X + 2),sweepO L.name (nx L.name X + 1) (nx L.name X + 2)] X er Y:=by rw [hte.out];exact (z1z HFN.out HASK.out).1
   have HO:=qq hor;clear he hor hnow;go_wp2;go_ret;exact ⟨er,_,Y,rfl,F.out,.inr ⟨by rw [HM.out];exact HF0.out,HO.out,.inl ⟨HE.out,rfl⟩⟩,by have:=HPO.out;simpa using this⟩
 ·
  have t9:(f0 != 0)=true:=by simpa using h0
  have HE:=qq h0;have F:Hid (LNow w w1 l d Fd Rd FL RL L X):=qq (LNow.of H1.out K1.out);clear h0 c2 c3;go_wp2;go_ret;exact ⟨f0,L,X,rfl,F.out,.inl ⟨by rw [HM.out,HF0.out];exact HE.out,by rw [HM.out];exact HF0.out.symm,rfl,rfl⟩,by omega⟩
end Go.Proofs.YtpjomdmjohjheaaGreatDoor
end
section
namespace Go.Proofs.YtpjomdmjohjheaaGreatDoor
open Go.RowKit Go.Lk Go.Vfs Go.Log
def RecsAt (w:World) (R:Nat -> Prop) (g:Nat) (rs:List (List Nat)):Prop :=
 ∃ lv vs,w.heap[g]?=some (.cells #[lv] 27 (0,0)) /\ RowS w R (fun _=>False) 22 1 lv rs.length vs /\ BytesL w R vs rs /\ R g
theorem RecsAt.keeps {w w':World} {R S:Nat -> Prop} {g:Nat} {rs:List (List Nat)} (h:RecsAt w R g rs) (hk:Keeps S w w') (hn:∀ k,R k -> ¬ S k):RecsAt w' R g rs:=by
 obtain ⟨lv,vs,h1,h2,h3,h4⟩:=h;exact ⟨lv,vs,hk.at h1 (hn g h4),h2.keeps hk (fun k hk _=>hk.elim (hn k) (fun e=>e.elim)),h3.keeps hk hn,h4⟩
theorem z70 (l d:Nat) (Fd Rd FL RL:Nat -> Prop) (L:Lg) (X:Ds) (w:World) (h:LgAt w l d Fd Rd FL RL L X) :
  Calls Tryz.prog 97 #[.pointer (some ⟨l,0,none⟩)] w fun e w'=>∃ g,e=.returned (.func (.func 137) #[] #[.pointer (some ⟨g,0,none⟩)]) /\ w.heap.size <= g /\ g < w'.heap.size /\ RecsAt w' (fun k=>FL k \/ RL k \/ k=g) g L.recs /\ Keeps Nb w w':=by
 have H:=qq h;clear h;go_enter Tryz.func97,Tryz.ntmps97;go_wp2_with (first | go_skip | (with_reducible refine qv (by decide) ?_))
 refine za (valloc (z:=.slice none 0 0) (by kernel_rfl) ?_);intro g w1 n1;simp only [Nat.reduceAdd,qn];have H1:=H.out.nb n1.k;obtain ⟨sv,lv,vs,q1,q2,q3,q4⟩:=H1.ex;have Q1:=qq q1;have Q3:=qq q3;have Q4:=qq q4;have TH:=qq (z7e ((cell_of_block q1).trans rfl));have c9:w1.cell? ⟨l,9,none⟩=some lv:=(cell_of_block q1).trans rfl;have hgl:g ≠ l:=fun e=>by have:=H.out.ltF l H.out.fl;have:=n1.ge;omega
 obtain ⟨-,-,la,lc,rfl,-⟩:=id q3;clear q1 q2 q3 q4 H1;go_wp2_with fail;refine TH.out.mono ?_;rintro _ _ ⟨rfl,rfl⟩;clear TH;go_wp2_with (first | go_skip | (with_reducible refine qv (by decide) ?_))
 refine za (zc rfl (zd (v:=.slice la L.recs.length lc) (n:=1) (by kernel_rfl) (by rfl) (by rfl) n1.blk (by rfl) (by simp [Value.cells]) (by simp [Value.cells,Value.oneCell'])) ?_);intro w2 s2;simp only [Nat.reduceAdd,qn]
 have F:Hid (w.heap.size <= g /\ g < w2.heap.size /\ RecsAt w2 (fun k=>FL k \/ RL k \/ k=g) g L.recs /\ Keeps Nb w w2):=qq (by
  have hg:=n1.ge;have h1:=H.out.ltF;have h2:=H.out.ltR;refine ⟨hg,lt_of_block s2.blk,⟨_,vs,s2.blk,(Q3.out.keeps s2.k (fun k hk _ e=>?_)).mono (fun k e=>.inl e) (fun k e=>e.elim),(Q4.out.keeps s2.k (fun k hk e=>?_)).mono (fun k e=>.inr (.inl e)),.inr (.inr rfl)⟩,n1.k.own (k:=g) hg s2.k⟩
  ·have e:k=g:=e;subst e;exact hk.elim (fun hk=>by have:=h1 k hk;omega) (fun e=>e.elim)
  ·
   have e:k=g:=e;subst e
   have:=h2 k hk;omega)
 clear n1 s2 c9;go_wp2;go_ret;exact ⟨g,rfl,F.out⟩
attribute [local go_sem] Oper.semAt_some
def HandB (w:World) (rs:List (List Nat)) (i:Nat) (args:Array Value) (W:World):Prop :=
 ∃ x v,rs[i]?=some x /\ args=#[v] /\ W.ownsRow (w.heap.size + 2) 5 1 v x.length (x.map fun z=>.int .u8 (z:Nat))
theorem z8n (n:Nat) (hn:1 <= n) (g:Nat) (R S:Nat -> Prop) (rs:List (List Nat)) (w:World) (h:RecsAt w R g rs) (hR:Recs rs) (hS:∀ k,R k -> ¬ S k) :
  Iter Tryz.prog n 137 #[.pointer (some ⟨g,0,none⟩)] rs.length (HandB w rs) S w:=by
 intro l J Jx W kW hW2 hJ hJx hY h0;have HA:=qq (h.keeps kW (fun _ _ e=>e));have HKW:=qq kW;have HJ:=qq hJ;have HJX:=qq hJx;have HY:=qq hY;have H0:=qq h0;have HS:=qq hS;have HRR:=qq hR;obtain ⟨m,hm⟩:∃ m,rs.length=m:=⟨_,rfl⟩
 have HM:=qq hm;obtain ⟨lv,vs,q1,q2,q3,q4⟩:=HA.out;obtain ⟨-,-,la,lc,rfl,hlc,hlm,hh,hin,-⟩:=id q2;rw [hm] at hlc hY q1 q2 ⊢;unfold maxLen at hlm;have HH:=qq hh;have HIN:=qq hin;have HB:=qq q3;have c0:W.cell? ⟨g,0,none⟩=some (.slice la m lc):=(cell_of_block q1).trans rfl;clear h hJ hJx hY h0 hS hR q1 q2 q3 hh hin kW;refine callsIn_of_wp Tryz.func137 rfl trivial ?_ rfl;simp only [Tryz.ntmps137,List.size_toArray,List.length_cons,List.length_nil,Nat.reduceAdd,Nat.reduceSub,Array.replicate_succ,Array.replicate_zero,List.push_toArray,List.append_toArray,List.nil_append,List.cons_append]
 gi_wp2
 clear c0
 gi_loopw [7] (fun i wr=>∃ k:Nat,k <= m /\ i=.int .i64 k /\ J k wr /\ Keeps S W wr) (fun i _=>m - (intOf i).toNat)
 case atStart=>exact ⟨0,Nat.zero_le _,rfl,H0.out,Keeps.refl _ _⟩
 case round =>
  obtain ⟨k,hk,rfl,hj,kw⟩:=hrel;by_cases hlt:k < m
  ·
   have i1:(k:Int) < (m:Int):=by omega
   obtain ⟨x,hx⟩:∃ x,rs[k]?=some x:=⟨_,List.getElem?_eq_getElem (by rw [HM.out];exact hlt)⟩
   obtain ⟨v,hv⟩:∃ v,vs[k]?=some v:=⟨_,List.getElem?_eq_getElem (by rw [HB.out.1,HM.out];exact hlt)⟩
   have hxr:=HRR.out x (List.mem_of_getElem? hx);have hbv:=HB.out.2 k v x hv hx;obtain ⟨b1,o1,rfl,c1⟩:∃ b off,la=some ⟨b,off,none⟩ /\ wr.cell? ⟨b,off + k,none⟩=some v:=by
    have hne:vs ≠ []:=by rintro rfl;cases hv
    rcases HH.out with h | ⟨b,off,rfl,hc⟩
    ·exact absurd h hne
    ·have hRb:=(HIN.out b off rfl hne).1;have hc1:=hc k v hv;exact ⟨b,off,rfl,(kw.cell (lt_of_cell hc1) (HS.out b (hRb.elim id (fun e=>e.elim)))).trans hc1⟩
   have HBV:=qq (hbv.keeps kw HS.out);obtain ⟨va,vc,rfl,-⟩:=id hbv;have CA:=qq (z38 (.slice va x.length vc) x R wr HBV.out (by have:=hxr.1;unfold mxr at this;omega));have HX:=qq hx;have HJJ:=qq hj;have KW:=qq kw;clear hx hv hbv hxr hj kw
   repeat (first | (with_reducible refine zg ?_) | (with_reducible refine stop_range ?_) | gi_step)
   refine za (wpIn_wide.2 ?_);go_wp2
   repeat (first | (with_reducible refine zg ?_) | (with_reducible refine stop_range ?_) | gi_step)
   refine za ?_
   gi_wp2_with fail
   refine ⟨trivial,(callsIn_wide.2 CA.out).mono ?_⟩;rintro _ w6 ⟨v',rfl,hown,k6⟩;have q7:Keeps Nb wr w6:=k6;have hown7:w6.ownsRow (w.heap.size + 2) 5 1 v' x.length (x.map fun z=>.int .u8 (z:Nat)):=z3j hown (by have:=KW.out.size;have:=HKW.out.size;omega);obtain ⟨fn,tmps,assign,body,hy,hR⟩:=HY.out k #[v'] w6 (HJ.out _ _ _ HJJ.out q7) (by rw [HM.out];exact hlt) ⟨x,v',HX.out,rfl,hown7⟩;have HR:=qq hR;have K6:=qq q7;clear CA hown hown7 hR k6 q7 c1
   gi_wp2
   refine HR.out.mono ?_;rintro e W3 (⟨rfl,hJ3,hk3⟩ | ⟨rfl,hJx3⟩)
   ·
    have KF:Hid (Keeps S W W3):=qq ((KW.out.trans_nb K6.out).trans hk3 (fun i _ e=>e));have HF:=qq hJ3;clear hJ3 hk3
    gi_wp2
    go_roundw
    case rel=>exact ⟨k + 1,by omega,by go_num,HF.out,KF.out⟩
    case measure=>simp [intOf];omega
   ·
    have HF:=qq hJx3;clear hJx3
    gi_wp2
    refine bodyPost_ret (results_none rfl _ _ _) rfl ?_;exact ⟨⟨_,rfl⟩,.inr HF.out⟩
  ·
   have hkl:k=m:=by omega
   subst hkl;have HF:=qq hj;clear hj
   gi_wp2
   go_end0;exact ⟨⟨_,rfl⟩,.inl HF.out⟩
def GaI (w0:World) (g3:Nat) (rs:List (List Nat)) (i:Nat) (W:World):Prop :=
 ∃ lv vs,W.heap[g3]?=some (.cells #[lv] 27 (0,0)) /\ RowS W (fun b=>w0.heap.size + 2 <= b /\ b < W.heap.size) (fun _=>False) 22 1 lv i vs /\ BytesL W (fun b=>(w0.heap.size + 2 <= b /\ b < W.heap.size) /\ IsT W 5 b) vs (rs.take i) /\ Keeps (fun b=>w0.heap.size <= b \/ b=g3) w0 W
theorem GaI.nb {w0 W W':World} {g3 i:Nat} {rs:List (List Nat)} (h:GaI w0 g3 rs i W) (k:Keeps (Book w0) W W') (h3:g3 < w0.heap.size):GaI w0 g3 rs i W':=by
 obtain ⟨lv,vs,e1,e4,e5,e7⟩:=h;have kz:=k.size;have nb:∀ {b:Nat},w0.heap.size + 2 <= b -> ¬ Book w0 b:=fun h e=>by unfold Book at e;omega
 have nl:∀ {b:Nat},b < w0.heap.size -> ¬ Book w0 b:=fun h e=>by unfold Book at e;omega
 exact ⟨lv,vs,k.at e1 (nl h3),(e4.keeps k (fun b hb _=>nb (hb.elim (fun h=>h.1) (fun h=>h.elim)))).mono (fun b hb=>⟨hb.1,by omega⟩) (fun _ h=>h),(e5.keeps k (fun b hb=>nb hb.1.1)).mono (fun b hb=>⟨⟨hb.1.1,by have:=hb.1.2;omega⟩,hb.2.keeps k (nb hb.1.1)⟩),e7.trans k (fun j hj e=>by unfold Book at e;omega)⟩
def GotD (w:World) (rs:List (List Nat)) (e:Ending) (w':World):Prop :=
 ∃ lv vs,e=.returned lv /\ RowS w' (Since w w') (fun _=>False) 22 1 lv rs.length vs /\ BytesL w' (SinceB w w') vs rs /\ Keeps Nb w w'
theorem zde (l d:Nat) (Fd Rd FL RL:Nat -> Prop) (L:Lg) (X:Ds) (w:World) (h:LgAt w l d Fd Rd FL RL L X) :
  Calls Tryz.prog 35 #[.pointer (some ⟨l,0,none⟩)] w (GotD w L.recs):=by
 have H:=qq h;have q61:∀ (w:World) (fn:Fn) (a b:Array Value),(binOp .eql 122 (.func fn a b) .nilFunc).run Tryz.prog w=.ok (.bool false) w:=fun w fn a b=>by first | rfl | kernel_rfl
 clear h;refine z1b Tryz.func35 rfl ?_;simp only [Tryz.ntmps35,List.size_toArray,List.length_cons,List.length_nil,Nat.reduceAdd,Nat.reduceSub,Array.replicate_succ,Array.replicate_zero,List.push_toArray,List.append_toArray,List.nil_append,List.cons_append];go_wp2_with (first | go_skip | (with_reducible refine qv (by decide) ?_))
 refine za (valloc (z:=.slice none 0 0) (by kernel_rfl) ?_);intro g3 w1 n1;simp only [Nat.reduceAdd,qn];have B3:=qq n1.blk;have K1:=qq n1.k;have G3:Hid (w.heap.size <= g3):=qq n1.ge;have RA:=qq (z70 l d Fd Rd FL RL L X w1 (H.out.nb n1.k));clear n1;go_wp2_with fail;refine RA.out.mono ?_;rintro _ w6 ⟨g,rfl,hg1,hg2,hra,k6⟩;have K6:=qq (K1.out.trans_nb k6);have hz:=k6.size;have L3:g3 < w1.heap.size:=lt_of_block B3.out;have hrs:=H.out.nums.recs;have hrn:=H.out.nums.nrec;have W6:Hid (GaI w6 g3 L.recs 0 w6):=qq ⟨_,[],k6.nb B3.out,RowS.nil _ _ _ _ _,BytesL.nil _ _,Keeps.refl _ _⟩;have hlt1:=H.out.ltF;have hlt2:=H.out.ltR
 have OI:=qq (z8n 8 (by omega) g _ (fun b=>w6.heap.size <= b \/ b=g3) L.recs w6 hra hrs (fun k hk e=>by
  have z1:=K1.out.size;have h3:=G3.out;rcases hk with hk | hk | hk
  ·have:=hlt1 k hk;omega
  ·have:=hlt2 k hk;omega
  ·omega))
 have HRN:=qq hrn;have HRS:=qq hrs;clear hra k6 RA hrs hrn hlt1 hlt2;go_wp2_with (with_reducible refine z0z ?_)
 refine za ((wpIn_wide (n:=9)).1 ?_)
 refine z1o (gf:=137) (lb:=#[.pointer (some ⟨g,0,none⟩)]) (by rfl) (enters_of Tryz.func137 (by kernel_rfl) rfl) OI.out
  (fun b hb=>.inl (by unfold Book at hb;omega)) (fun i args W h=>by obtain ⟨x,v,-,rfl,-⟩:=h;rfl)
  (fun i W=>GaI w6 g3 L.recs i W) (fun _ _=>False)
  (fun i A B h k=>h.nb k (by omega)) (fun c A B h=>h.elim) W6.out ?round ?done (fun _ _ h=>h.elim)
 case round =>
  rintro lm i args W rfl hW2 hI hi ⟨x,v,hp,rfl,hv⟩;simp only [List.zip_toArray,List.zip_cons_cons,List.zip_nil_right,List.foldl_toArray,List.foldl_cons,List.foldl_nil,List.setIfInBounds_toArray,List.set_cons_succ,List.set_cons_zero];have hx:=HRS.out x (List.mem_of_getElem? hp);have HIH:=qq hI;have HP:=qq hp;have HV:=qq (z0k hv hx.2);clear hI hp hv hx
  repeat (first | (with_reducible refine zg ?_) | (with_reducible refine stop_range ?_) | gi_step)
  refine za (zi (by kernel_rfl) (by rintro ⟨_,_,h⟩;exact h) ?_);go_wp2;refine ⟨Keeps.refl _ _,fun W3 k3=>?_⟩;have kB:Keeps (Book w6) W W3:=k3.mono (fun i _ e=>.inr e);obtain ⟨lv,vs,e1,e4,e5,e7⟩:=HIH.out.nb kB (by omega);obtain ⟨av,cv,rfl,hv1⟩:=HV.out;have HV3:Hid (Bytes W3 (fun k=>(w6.heap.size + 2 <= k /\ k < W3.heap.size) /\ IsT W3 5 k) (.slice av x.length cv) x):=qq ((HV.out.keeps kB (fun k hk e=>by unfold Book at e;have:=hk.1;omega)).mono (fun k hk=>⟨⟨hk.1.1,by have:=hk.1.2;have:=k3.size;omega⟩,hk.2.keeps kB (fun e=>by unfold Book at e;have:=hk.1;omega)⟩));have E1:=qq e1;have E4:=qq e4;have E5:=qq e5;have E7:=qq e7;have hWz:w6.heap.size + 2 <= W3.heap.size:=by have:=k3.size;omega
  have c5:W3.cell? ⟨g3,0,none⟩=some lv:=(cell_of_block e1).trans rfl;obtain ⟨-,-,lva0,lvc0,rfl,-⟩:=id e4;clear e1 e4 e5 e7 hv1 kB k3 HIH
  repeat (first | (with_reducible refine zg ?_) | (with_reducible refine stop_range ?_) | gi_step)
  refine za (zi (by kernel_rfl) (by rintro ⟨_,_,h⟩;exact h) ?_);go_wp2_with (first | go_skip | (with_reducible refine qv (by decide) ?_))
  refine za (zj rfl (zl el27 [.slice av x.length cv] rfl (by simp [List.range'_succ];first | done | rfl | exact ⟨rfl,rfl⟩ | exact ⟨rfl,rfl,rfl⟩ | exact ⟨rfl,rfl,rfl,rfl⟩ | exact ⟨rfl,rfl,rfl,rfl,rfl⟩ | exact ⟨rfl,rfl,rfl,rfl,rfl,rfl⟩) (by simp [Value.cells]) (by simp)) ?_);rintro _ W5 ⟨g8,rfl,n8⟩;simp only [Nat.reduceAdd,qn]
  have HR5:Hid (RowS W5 (fun b=>w6.heap.size + 2 <= b /\ b < W5.heap.size) (fun _=>False) 22 1 (.slice lva0 i lvc0) i vs) :=
   qq ((E4.out.keeps n8.k (fun _ _ _ e=>e)).mono (fun k hk=>⟨hk.1,by have:=hk.2;have:=n8.k.size;omega⟩) (fun _ h=>h))
  have HH8':Hid (Has W5 (some ⟨g8,0,none⟩) [.slice av x.length cv]):=qq (zm n8.blk);have K5':=qq n8.k;have hi4:i < 4000000000000:=Nat.lt_of_lt_of_le hi HRN.out;clear n8 c5;go_wp2_with (first | go_skip | (with_reducible refine qv (by decide) ?_))
  refine za (zj rfl (z1s el27 HR5.out (by rfl) (by rfl) HH8'.out rfl (by intro u hu;rw [List.mem_singleton.1 hu];rfl) (by omega) (by unfold maxLen;omega) (by omega)) ?_);rintro lv' W6 ⟨hr6,S6,k6,hS6⟩;simp only [Nat.reduceAdd,qn];obtain ⟨hx1,hx2,lva,lvc,rfl,hx3⟩:=id hr6;have b56:W6.heap[g3]?=some (.cells #[.slice lva0 i lvc0] 27 (0,0)):=k6.at (K5'.out.nb E1.out) (fun e=>by have:=(hS6 _ e).1.1;omega)
  have q6:Keeps (fun b=>w6.heap.size + 2 <= b) W3 W6:=(K5'.out.of_nb).trans k6 (fun j _ e=>(hS6 j e).1.1);have tr:∀ k,(w6.heap.size + 2 <= k /\ k < W3.heap.size) /\ IsT W3 5 k -> (¬ S6 k) /\ ((w6.heap.size + 2 <= k /\ k < W6.heap.size) /\ IsT W6 5 k):=fun k hk=>by
   have t5:IsT W5 5 k:=hk.2.keeps K5'.out (fun e=>e);have hn:¬ S6 k:=fun e=>t5.ne (hS6 k e).2 (by decide) rfl;exact ⟨hn,⟨hk.1.1,by have:=hk.1.2;have:=K5'.out.size;have:=k6.size;omega⟩,t5.keeps k6 hn⟩
  have hbl:BytesL W6 (fun b=>(w6.heap.size + 2 <= b /\ b < W6.heap.size) /\ IsT W6 5 b) (vs ++ [.slice av x.length cv]) (L.recs.take (i + 1)):=by
   have kk:Keeps S6 W3 W6:=(K5'.out.of_nb).trans k6 (fun j _ e=>e);rw [List.take_succ_eq_append_getElem (List.getElem?_eq_some_iff.1 HP.out).1,(List.getElem?_eq_some_iff.1 HP.out).2];exact ((E5.out.keeps kk (fun k hk=>(tr k hk).1)).mono (fun k hk=>(tr k hk).2)).append (.cons ((HV3.out.keeps kk (fun k hk=>(tr k hk).1)).mono (fun k hk=>(tr k hk).2)) (.nil _ _))
  go_wp2_with (first | go_skip | (with_reducible refine qv (by decide) ?_))
  refine za (zc rfl (zd (v:=.slice lva (i + 1) lvc) (n:=1) (by kernel_rfl) (by rfl) (by rfl) b56 (by rfl) (by simp [Value.cells]) (by simp [Value.cells,Value.oneCell'])) ?_);intro W7 s7;simp only [Nat.reduceAdd,qn];have kf:Keeps (fun b=>(w6.heap.size <= b \/ b=g3) /\ ¬ Book w6 b) W3 W7:=(q6.mono (S':=fun b=>(w6.heap.size <= b \/ b=g3) /\ ¬ Book w6 b) (fun j _ e=>by unfold Book;omega)).trans s7.k (fun j _ e=>by unfold Book;omega);have hI':GaI w6 g3 L.recs (i + 1) W7:=by
   have hgn:∀ k,w6.heap.size + 2 <= k -> ¬ k=g3:=fun k hk e=>by omega
   refine ⟨.slice lva (i + 1) lvc,vs ++ [.slice av x.length cv],s7.blk,?_,?_,E7.out.trans kf (fun j _ e=>e.1)⟩
   ·
    refine (hr6.keeps s7.k (fun k hk _ e=>?_)).mono (fun k hk=>?_) (fun _ h=>h)
    ·
     rcases hk with (h | h) | h
     ·exact hgn k h.1 e
     ·have:=K5'.out.size;exact hgn k (by omega) e
     ·exact h
    ·
     have z7:=s7.k.size;rcases hk with h | h
     ·have:=h.2;have:=k6.size;exact ⟨h.1,by omega⟩
     ·have:=K5'.out.size;exact ⟨by omega,by omega⟩
   ·exact (hbl.keeps s7.k (fun k hk e=>hgn k hk.1.1 e)).mono (fun k hk=>⟨⟨hk.1.1,by have:=hk.1.2;have:=s7.k.size;omega⟩,hk.2.keeps s7.k (fun e=>hgn k hk.1.1 e)⟩)
  refine wpList_nil ?_;exact ⟨kf,hI'⟩
 case done =>
  intro W hI hD;obtain ⟨lv,vs,e1,e4,e5,e7⟩:=hI;rw [List.take_length] at e5;have HD:=qq hD;have E4:=qq e4;have E5:=qq e5;have E7:=qq e7;have c3:W.cell? ⟨g3,0,none⟩=some lv:=(cell_of_block e1).trans rfl;obtain ⟨-,-,la,lc,rfl,-⟩:=id e4;clear e1 e4 e5 e7 hD;go_wp2;have kp:=zw W w6.heap.size (.deferred none);have z6:=K6.out.size;have g3w:=G3.out;have ze:=E7.out.size;have zp:=kp.size;refine ⟨by simp,.inl ⟨_,_,rfl,run_takeDeferred (show W.heap[w6.heap.size]?=_ from HD.out),?_⟩⟩;refine ⟨.slice la L.recs.length lc,by simp [results,Tryz.f35,go_sem],_,vs,rfl,?_,?_,?_⟩
  ·exact (E4.out.keeps kp (fun k hk _ e=>by have:=hk.elim (fun h=>h.1) (fun h=>h.elim);omega)).mono (fun k hk=>⟨by have:=hk.1;omega,by have:=hk.2;omega⟩) (fun _ h=>h)
  ·exact (E5.out.keeps kp (fun k hk e=>by have:=hk.1;omega)).mono (fun k hk=>⟨⟨by have:=hk.1;omega,by have:=hk.1;omega⟩,hk.2.keeps kp (fun e=>by have:=hk.1;omega)⟩)
  ·exact (K6.out.trans E7.out (fun j hj e=>by omega)).trans kp (fun j hj e=>by omega)
end Go.Proofs.YtpjomdmjohjheaaGreatDoor
end
section
namespace Go.Vfs
open Go.Lk Go.RowKit
def bstr (l:List Nat):ByteArray:=strOfNums (l.map fun x:Nat=>(x:Int))
theorem z3d {P:Program} {w:World} {dst:Option Tmp} {x:Operand} {src t e ty:TypeId} {pos:String} {aft:Array Edge} {gd:Option (Nat × Bool)} {a:Act} {ad:Option Addr} {n c:Nat} {l:List Nat} (hs:P.underlying src=some (.slice e)) (he:P.underlying e=some (.int .u8)) (hd:P.underlying t=some .string)
  (hx:a.eval x=.slice ad n c) (hh:Has w ad (l.map fun x=>Value.int .u8 (x:Nat))) (hl:l.length=n):(execOp a.eval ⟨dst,.convert src t x,ty,pos,aft,gd⟩).run P w=.ok (.value (.string (bstr l))) w:=by
 unfold execOp;rcases hh with h | ⟨b,off,rfl,hc⟩
 ·
  have h0:l=[]:=List.map_eq_nil_iff.1 h;subst h0;simp at hl;subst hl;cases ad with
  | none=>simp only [hx,Sem.run_bind,run_convert_bytes_nil w src e hs he 0 c t hd,Result.andThen_ok,Sem.run_pure];rfl
  | some ad =>
   have hz:(convert src t (.slice (some ad) 0 c)).run P w=.ok (.string (bstr [])) w:=by
    rw [run_convert_bytes_string w src t e _ 0 c hs he hd,run_bytesToString w ad 0 c [] (by simpa using run_loadCells_list (P:=P) w ad [] (by simp))];rfl
   simp only [hx,Sem.run_bind,hz,Result.andThen_ok,Sem.run_pure]
 ·
  have:=run_convert_bytes_arg w src e hs he b off n c (l.map fun x:Nat=>(x:Int)) (by simpa using hl) (fun i hi=>by
   have h1:=hc i (.int .u8 (ntn l i:Nat)) (by rw [List.getElem?_map,List.getElem?_eq_getElem (by omega),z19 (by omega)];rfl);rw [h1]
   simp [ntn,List.getD_eq_getElem?_getD,List.getElem?_eq_getElem (show i < l.length by omega)]) t hd
  simp only [hx,Sem.run_bind,this,Result.andThen_ok,Sem.run_pure];rfl
end Go.Vfs
namespace Go.Proofs.YtpjomdmjohjheaaGreatDoor
open Go.RowKit Go.Lk Go.Vfs Go.Log
attribute [local go_sem] Oper.semAt_some
def Bts (w:World) (g n:Nat):Prop:=∃ cur:Array Value,w.heap[g]?=some (.cells cur 5 (0,0)) /\ n <= cur.size /\ ∀ i,i < n -> ∃ z:Int,cur[i]?=some (.int .u8 z)
theorem Bts.set {w w':World} {g n k:Nat} {cur:Array Value} {z:Int} (h2:n <= cur.size) (h3:∀ i,i < n -> ∃ z:Int,cur[i]?=some (.int .u8 z)) (hk:k < n) (hs:SetAt w w' g (.cells (splice cur #[.int .u8 z] k) 5 (0,0))):Bts w' g n:=by
 have hb:=hs.blk;rw [z7b (by omega)] at hb;refine ⟨_,hb,by simpa using h2,fun i hi=>?_⟩;rw [Array.getElem?_setIfInBounds];split
 ·rename_i e;subst e;rw [if_pos (by omega)];exact ⟨z,rfl⟩
 ·exact h3 i hi
def OnI (w0:World) (b6 b7:Nat) (i:Nat) (W:World):Prop :=
 W.heap[b7]?=some (.cells #[.int .i64 (i:Nat)] 3 (0,0)) /\ W.heap[b6]?=some (.cells #[.bool false] 4 (0,0)) /\ Keeps (fun b=>w0.heap.size <= b \/ b=b6 \/ b=b7) w0 W
theorem OnI.nb {w0 W W':World} {b6 b7 i:Nat} (h:OnI w0 b6 b7 i W) (k:Keeps (Book w0) W W') (h6:b6 < w0.heap.size) (h7:b7 < w0.heap.size):OnI w0 b6 b7 i W':=by
 obtain ⟨e1,e2,e3⟩:=h;have nl:∀ {b:Nat},b < w0.heap.size -> ¬ Book w0 b:=fun h e=>by unfold Book at e;omega
 exact ⟨k.at e1 (nl h7),k.at e2 (nl h6),e3.trans k (fun j hj e=>by unfold Book at e;omega)⟩
def RecsD (w0 w:World) (rs:List (List Nat)) (e:Ending) (w':World):Prop :=
 ∃ g R,e=.returned (.func (.func 137) #[] #[.pointer (some ⟨g,0,none⟩)]) /\ w.heap.size <= g /\ g < w'.heap.size /\ (∀ k,R k -> k < w0.heap.size \/ k=g) /\ RecsAt w' R g rs /\ Keeps Nb w w'
theorem zhm (v:Value) (rs:List (List Nat)) (wa:Option Addr) (wc:Nat) (vs:List Value) (w:World) (hw:RowS w (fun k=>k < w.heap.size) (fun _=>False) 22 1 (.slice wa rs.length wc) rs.length vs) (hb:BytesL w (fun k=>k < w.heap.size) vs rs) (hr:Recs rs) (hn:rs.length <= 4000000000000)
  (hRA:∀ w1,Keeps Nb w w1 -> Calls Tryz.prog 97 #[v] w1 (RecsD w w1 rs)) :
  Calls Tryz.prog 34 #[v,.slice wa rs.length wc,.int .i64 0] w fun e w'=>e=.returned (.bool true) /\ Keeps Nb w w':=by
 obtain ⟨m,hm⟩:∃ m,rs.length=m:=⟨_,rfl⟩
 have q61:∀ (w:World) (fn:Fn) (a b:Array Value),(binOp .eql 122 (.func fn a b) .nilFunc).run Tryz.prog w=.ok (.bool false) w:=fun w fn a b=>by first | rfl | kernel_rfl
 have HW:=qq hw;have HB:=qq hb;have HR:=qq hr;have HRA:=qq hRA;have HM:=qq hm;have HN:=qq hn;rw [hm];clear hw hb hr hn hRA hm;refine z1b Tryz.func34 rfl ?_;simp only [Tryz.ntmps34,List.size_toArray,List.length_cons,List.length_nil,Nat.reduceAdd,Nat.reduceSub,Array.replicate_succ,Array.replicate_zero,List.push_toArray,List.append_toArray,List.nil_append,List.cons_append];go_wp2_with (first | go_skip | (with_reducible refine qv (by decide) ?_))
 refine za (vbox1 (v:=.slice wa m wc) (by rfl) rfl ?_);intro b4 w1 n1;simp only [Nat.reduceAdd,qn];go_wp2_with (first | go_skip | (with_reducible refine qv (by decide) ?_))
 refine za (vbox1 (v:=.int .i64 0) (by rfl) rfl ?_);intro b5 w2 n2;simp only [Nat.reduceAdd,qn];go_wp2_with (first | go_skip | (with_reducible refine qv (by decide) ?_))
 refine za (valloc (z:=.bool false) (by kernel_rfl) ?_);intro b6 w3 n3;simp only [Nat.reduceAdd,qn];go_wp2_with (first | go_skip | (with_reducible refine qv (by decide) ?_))
 refine za (valloc (z:=.int .i64 0) (by kernel_rfl) ?_);intro b7 w4 n4;simp only [Nat.reduceAdd,qn];go_wp2_with (first | go_skip | (with_reducible refine qv (by decide) ?_))
 refine za (zc rfl (zd (v:=.int .i64 0) (n:=1) (by kernel_rfl) (by rfl) (by rfl) n4.blk (by rfl) (by simp [Value.cells]) (by simp [Value.cells,Value.oneCell'])) ?_);intro w5 s5;simp only [Nat.reduceAdd,qn];have L45:b4 < b5:=by have:=n1.lt;have:=n2.ge;omega
 have L56:b5 < b6:=by have:=n2.lt;have:=n3.ge;omega
 have L67:b6 < b7:=by have:=n3.lt;have:=n4.ge;omega
 have B4:Hid (w5.heap[b4]?=some (.cells #[.slice wa m wc] 27 (0,0))):=qq (s5.k.at (n4.k.nb (n3.k.nb (n2.k.nb n1.blk))) (fun e=>by omega));have B5:Hid (w5.heap[b5]?=some (.cells #[.int .i64 0] 3 (0,0))):=qq (s5.k.at (n4.k.nb (n3.k.nb n2.blk)) (fun e=>by omega));have B6:Hid (w5.heap[b6]?=some (.cells #[.bool false] 4 (0,0))):=qq (s5.k.at (n4.k.nb n3.blk) (fun e=>by omega));have B7:Hid (w5.heap[b7]?=some (.cells #[.int .i64 0] 3 (0,0))):=qq s5.blk;have G4:Hid (w.heap.size <= b4):=qq n1.ge;have K5:Hid (Keeps Nb w w5):=qq ((((n1.k.trans_nb n2.k).trans_nb n3.k).trans_nb n4.k).own (k:=b7) (by have:=n1.ge;omega) s5.k);have RA:=qq (HRA.out w5 K5.out);clear n1 n2 n3 n4 s5 HRA;go_wp2_with fail;refine RA.out.mono ?_;rintro _ w6 ⟨g,R,rfl,hg1,hg2,hR,hra,k6⟩;have K6:=qq (K5.out.trans_nb k6);have hz:=k6.size;have L5:b7 < w5.heap.size:=lt_of_block B7.out;have B46:=qq (k6.nb B4.out);have B56:=qq (k6.nb B5.out);have W6:Hid (OnI w6 b6 b7 0 w6):=qq ⟨k6.nb B7.out,k6.nb B6.out,Keeps.refl _ _⟩
 have OI:=qq (z8n 8 (by omega) g _ (fun b=>w6.heap.size <= b \/ b=b6 \/ b=b7) rs w6 hra HR.out (fun k hk e=>by
  have z1:=K5.out.size;have h3:=G4.out
  rcases hR k hk with hk | hk <;> omega))
 clear hra k6 RA hR B4 B5 B6 B7;go_wp2_with (with_reducible refine z0z ?_)
 refine za ((wpIn_wide (n:=9)).1 ?_)
 refine z1o (gf:=137) (lb:=#[.pointer (some ⟨g,0,none⟩)]) (by rfl) (enters_of Tryz.func137 (by kernel_rfl) rfl) OI.out
  (fun b hb=>.inl (by unfold Book at hb;omega)) (fun i args W h=>by obtain ⟨x,v,-,rfl,-⟩:=h;rfl)
  (fun i W=>OnI w6 b6 b7 i W) (fun _ _=>False)
  (fun i A B h k=>h.nb k (by omega) (by omega)) (fun c A B h=>h.elim) W6.out ?round ?done (fun _ _ h=>h.elim)
 case round =>
  rintro lm i args W rfl hW2 hI hi ⟨x,v',hp,rfl,hv⟩;simp only [List.zip_toArray,List.zip_cons_cons,List.zip_nil_right,List.foldl_toArray,List.foldl_cons,List.foldl_nil,List.setIfInBounds_toArray,List.set_cons_succ,List.set_cons_zero];have hx:=HR.out x (List.mem_of_getElem? hp);have him:i < m:=by rw [<- HM.out];exact hi
  have HIH:=qq hI;have HP:=qq hp;have HV:=qq hv;have HXL:=qq hx.2;clear hI hp hv hx hi
  repeat (first | (with_reducible refine zg ?_) | (with_reducible refine stop_range ?_) | gi_step)
  refine za (zi (by kernel_rfl) (by rintro ⟨_,_,h⟩;exact h) ?_);go_wp2;refine ⟨Keeps.refl _ _,fun W3 k3=>?_⟩;have kB:Keeps (Book w6) W W3:=k3.mono (fun i _ e=>.inr e);obtain ⟨e1,e2,e3⟩:=HIH.out.nb kB (by omega) (by omega);have hv3:W3.ownsRow (w6.heap.size + 2) 5 1 v' x.length (x.map fun z=>.int .u8 (z:Nat)):=z0a HV.out k3 (fun k hk e=>by have e:k=w6.heap.size + 1:=e;omega);have hbx:=z0k hv3 HXL.out;obtain ⟨av,cv,rfl,hlc,hcm,hrd,-⟩:=id hbx;obtain ⟨y,hy⟩:∃ y,vs[i]?=some y:=⟨_,List.getElem?_eq_getElem (by rw [HB.out.1,HM.out];exact him)⟩
  have hby:=HB.out.2 i y x hy HP.out;have HKW:Hid (Keeps (fun b=>w.heap.size <= b) w W3):=qq ((K6.out.of_nb).trans e3 (fun j hj e=>by have:=G4.out;have:=K6.out.size;omega));have hby3:=hby.keeps HKW.out (fun k hk e=>by omega);obtain ⟨ay,cy,rfl,hlc',hcm',hrd',-⟩:=id hby3;unfold maxLen at hcm hcm';have HX:Hid (∀ u:Sub W3,Has u.wd av (x.map fun z=>.int .u8 (z:Nat))):=qq fun u=>(hrd.nb u.k).has;have HY:Hid (∀ u:Sub W3,Has u.wd ay (x.map fun z=>.int .u8 (z:Nat))):=qq fun u=>(hrd'.nb u.k).has;obtain ⟨bw,ow,rfl,hcw⟩:∃ bw ow,wa=some ⟨bw,ow,none⟩ /\ ∀ u:Sub W3,u.wd.cell? ⟨bw,ow + i,none⟩=some (.slice ay x.length cy):=by
   obtain ⟨-,-,a',c',e,-,-,hh,hin,-⟩:=HW.out;cases e;have hne:vs ≠ []:=by rintro rfl;cases hy
   rcases hh with h | ⟨b,off,rfl,hc⟩
   ·exact absurd h hne
   ·have hb:=(hin b off rfl hne).1;have hc1:=hc i _ hy;exact ⟨b,off,rfl,fun u=>(u.k.cell (Nat.lt_of_lt_of_le (lt_of_cell hc1) HKW.out.size) (fun e=>e)).trans ((HKW.out.cell (lt_of_cell hc1) (fun e=>by have h1:=hb.elim id (fun e=>e.elim);have h2:w.heap.size <= b:=e;omega)).trans hc1)⟩
  have c4:∀ u:Sub W3,u.wd.cell? ⟨b4,0,none⟩=some (.slice (some ⟨bw,ow,none⟩) m wc):=fun u=>(cell_of_block (u.k.nb (e3.at B46.out (fun e=>by omega)))).trans rfl;have c7:∀ u:Sub W3,u.wd.cell? ⟨b7,0,none⟩=some (.int .i64 (i:Nat)):=fun u=>(cell_of_block (u.k.nb e1)).trans rfl;have t0:decide (m <= i)=false:=by simp;omega
  have i1:(i:Int) < (m:Int):=by omega
  obtain ⟨bl,hbl⟩:∃ l,bstr x=l:=⟨_,rfl⟩
  have HBL:=qq hbl;have E1:=qq e1;have E2:=qq e2;have E3:=qq e3;have HV3:=qq hv3;clear e1 e2 e3 hv3 hbx hby hby3 hrd hrd' hy hbl kB k3 HIH
  repeat (first | (with_reducible refine zg ?_) | (with_reducible refine stop_range ?_) | gi_step)
  refine za (z9u (by kernel_rfl) (by rintro ⟨_,_,h⟩;exact h) (by kernel_rfl) (by kernel_rfl) ?_)
  repeat (first | go_big_quiet_skip | (with_reducible refine stopq (op:=.convert 22 9 _) ?_) | go_big_quiet_step (fail))
  refine za (z5u (v:=.string bl) rfl (by rintro _ ⟨u,rfl⟩;rw [<- HBL.out];exact z3d Tryz.underlying22 Tryz.underlying5 Tryz.underlying9 (by rfl) (HX.out u) rfl) ?_);simp only [Nat.reduceAdd,qn]
  repeat (first | go_big_quiet_skip | (with_reducible refine stopq (op:=.convert 22 9 _) ?_) | go_big_quiet_step (fail))
  refine za (z5u (v:=.string bl) rfl (by rintro _ ⟨u,rfl⟩;rw [<- HBL.out];exact z3d Tryz.underlying22 Tryz.underlying5 Tryz.underlying9 (by rfl) (HY.out u) rfl) ?_);simp only [Nat.reduceAdd,qn]
  repeat (first | go_big_quiet_skip | (with_reducible refine stopq (op:=.convert 22 9 _) ?_) | go_big_quiet_step (fail))
  refine wpQuiet_nil ?_;rintro w8 ⟨u8,hu8⟩;have K8:Hid (Keeps Nb W3 w8):=qq (hu8 ▸ u8.k);clear hu8 u8 c4 c7 hcw;have V8:=qq (z0a HV3.out K8.out (fun _ _ e=>e));obtain ⟨n,hxn⟩:∃ n,x.length=n:=⟨_,rfl⟩
  have HXN:=qq hxn;rw [hxn] at hlc hlc' V8 ⊢;clear hxn;go_wp2
  repeat (first | (with_reducible refine zg ?_) | (with_reducible refine stop_range ?_) | gi_step)
  refine za (zi (by kernel_rfl) (by rintro ⟨_,_,h⟩;exact h) ?_);go_wp2
  gi_wp2
  gi_loopw [10] (fun j wr=>∃ k:Nat,k <= n /\ j=.int .i64 k /\ (0 < n -> ∃ g0,av=some ⟨g0,0,none⟩ /\ w6.heap.size + 2 <= g0 /\ g0 < w8.heap.size /\ Bts wr g0 n) /\ Keeps (fun b=>w6.heap.size + 2 <= b /\ b < w8.heap.size) w8 wr) (fun j _=>n - (intOf j).toNat)
  case atStart =>
   refine ⟨0,Nat.zero_le _,rfl,fun h0=>?_,Keeps.refl _ _⟩;have hne:x ≠ []:=by rintro rfl;have:=HXN.out;simp at this;omega
   have hv8:=V8.out;rw [<- HXN.out] at hv8;obtain ⟨g0,c0,e0,-,-,-,hb0,hob⟩:=zcb hv8 hne;cases e0;obtain ⟨cur,q1,q2,q3⟩:=hob;rw [HXN.out] at q2 q3;refine ⟨g0,rfl,hb0,lt_of_block q1,cur,q1,q2,fun i hi=>?_⟩;have h1:(cur.toList.take n)[i]?=(x.map fun z=>Value.int .u8 (z:Nat))[i]?:=by rw [q3]
   rw [List.getElem?_take,if_pos hi,Array.getElem?_toList,List.getElem?_map] at h1;obtain ⟨z,hz⟩:∃ z,x[i]?=some z:=⟨_,List.getElem?_eq_getElem (by rw [HXN.out];exact hi)⟩
   rw [hz] at h1;exact ⟨z,h1⟩
  case round =>
   obtain ⟨k,hk,rfl,hbt,kw⟩:=hrel;by_cases hlt:k < n
   ·
    have j1:(k:Int) < (n:Int):=by omega
    obtain ⟨g0,rfl,hg0,hg8,cur,hb1,hb2,hb3⟩:=hbt (by omega);obtain ⟨z,hz⟩:=hb3 k hlt;have cz:wr.cell? ⟨g0,k,none⟩=some (.int .u8 z):=by rw [cell_of_block hb1];exact hz
    have KW:=qq kw;have B1:=qq hb1;have B2:=qq hb2;have B3:=qq hb3;clear hz hbt hb1 hb2 hb3 kw
    repeat (first | (with_reducible refine zg ?_) | (with_reducible refine stop_range ?_) | gi_step)
    refine za (zi (by kernel_rfl) (by rintro ⟨_,_,h⟩;exact h) ?_);go_wp2
    repeat (first | (with_reducible refine zg ?_) | (with_reducible refine stop_range ?_) | gi_step)
    refine za (zi (by kernel_rfl) (by rintro ⟨_,_,h⟩;exact h) ?_);go_wp2_with (first | go_skip | (with_reducible refine qv (by decide) ?_))
    refine za (zc rfl (zd (v:=.int .u8 (IntKind.u8.wrap (z + 1))) (n:=1) (by kernel_rfl) (by rfl) (by rfl) B1.out (by rfl) (by have:=B2.out;simp [Value.cells];omega) (by simp [Value.cells,Value.oneCell'])) ?_);intro wn sn;simp only [Nat.reduceAdd,qn];have HBT:Hid (Bts wn g0 n):=qq (Bts.set (z:=IntKind.u8.wrap (z + 1)) B2.out B3.out hlt (by simpa [Value.cells] using sn));have KN:Hid (Keeps (fun b=>w6.heap.size + 2 <= b /\ b < w8.heap.size) w8 wn):=qq (KW.out.trans sn.k (fun j hj e=>by have e:j=g0:=e;subst e;exact ⟨hg0,hg8⟩));clear sn cz;go_wp2
    repeat (first | (with_reducible refine zg ?_) | (with_reducible refine stop_range ?_) | gi_step)
    refine za (zi (by kernel_rfl) (by rintro ⟨_,_,h⟩;exact h) ?_);go_wp2;go_roundw
    case rel=>exact ⟨k + 1,by omega,by go_num,fun _=>⟨g0,rfl,hg0,hg8,HBT.out⟩,KN.out⟩
    case measure=>simp [intOf];omega
   ·
    have hkl:k=n:=by omega
    subst hkl;have KW:=qq kw;clear kw hbt
    repeat (first | (with_reducible refine zg ?_) | (with_reducible refine stop_range ?_) | gi_step)
    refine za (zi (by kernel_rfl) (by rintro ⟨_,_,h⟩;exact h) ?_);go_wp2
    repeat (first | (with_reducible refine zg ?_) | (with_reducible refine stop_range ?_) | gi_step)
    refine za (zi (by kernel_rfl) (by rintro ⟨_,_,h⟩;exact h) ?_);have hE:∀ {b:Nat} {o:Obj},b < w6.heap.size -> W3.heap[b]?=some o -> wr.heap[b]?=some o:=fun {b o} hb h=>KW.out.at (K8.out.nb h) (fun e=>by have:=e.1;omega)
    have e1:=hE (by omega) E1.out;have e2:=hE (by omega) E2.out;have e5:=hE (by omega) (E3.out.at B56.out (fun e=>by omega));have E1':=qq e1;have E2':=qq e2;have E5':=qq e5;have c7:wr.cell? ⟨b7,0,none⟩=some (.int .i64 (i:Nat)):=(cell_of_block e1).trans rfl;have iw:IntKind.i64.wrap ((i:Int) + 1)=((i + 1:Nat):Int):=by rw [IntWalk.i64_in _ (by have:=HN.out;rw [HM.out] at this;omega)];rfl
    clear hE e1 e2 e5;go_wp2_with (first | go_skip | (with_reducible refine qv (by decide) ?_))
    refine za (zc rfl (zd (v:=.int .i64 ((i + 1:Nat):Int)) (n:=1) (by kernel_rfl) (by rfl) (by rfl) E1'.out (by rfl) (by simp [Value.cells]) (by simp [Value.cells,Value.oneCell'])) ?_);intro wn sn;simp only [Nat.reduceAdd,qn];have kn5:b5 ≠ b7 /\ b6 ≠ b7:=by omega
    have c7':wn.cell? ⟨b7,0,none⟩=some (.int .i64 ((i + 1:Nat):Int)):=(cell_of_block sn.blk).trans rfl;have c5:wn.cell? ⟨b5,0,none⟩=some (.int .i64 0):=(cell_of_block (sn.k.at E5'.out kn5.1)).trans rfl;have tq:(((i + 1:Nat):Int) == 0)=false:=by rw [beq_eq_false_iff_ne];omega
    have F:Hid (Keeps (fun b=>(w6.heap.size <= b \/ b=b6 \/ b=b7) /\ ¬ Book w6 b) W3 wn /\ OnI w6 b6 b7 (i + 1) wn):=qq (by
     have kf:Keeps (fun b=>(w6.heap.size <= b \/ b=b6 \/ b=b7) /\ ¬ Book w6 b) W3 wn:=((K8.out.of_nb).trans KW.out (fun j hj e=>⟨.inl (by omega),fun h=>by unfold Book at h;omega⟩)).trans sn.k (fun j hj e=>by have e:j=b7:=e;exact ⟨.inr (.inr e),fun h=>by unfold Book at h;omega⟩)
     exact ⟨kf,sn.blk,sn.k.at E2'.out kn5.2,E3.out.trans kf (fun j _ e=>e.1)⟩)
    clear sn c7;go_wp2
    repeat (first | (with_reducible refine zg ?_) | (with_reducible refine stop_range ?_) | gi_step)
    refine za (zi (by kernel_rfl) (by rintro ⟨_,_,h⟩;exact h) ?_);go_wp2
    gi_wp2
    exact F.out
 case done =>
  rintro W ⟨e1,e2,e3⟩ hD;have HD:=qq hD;have c7:W.cell? ⟨b7,0,none⟩=some (.int .i64 (rs.length:Nat)):=(cell_of_block e1).trans rfl;rw [HM.out] at c7;have c4:W.cell? ⟨b4,0,none⟩=some (.slice wa m wc):=(cell_of_block (e3.at B46.out (fun e=>by omega))).trans rfl;have E2:=qq e2;have E3:=qq e3;clear e1 e2 e3 hD;go_wp2_with (first | go_skip | (with_reducible refine qv (by decide) ?_))
  refine za (zc rfl (zd (v:=.bool true) (n:=1) (by kernel_rfl) (by rfl) (by rfl) E2.out (by rfl) (by simp [Value.cells]) (by simp [Value.cells,Value.oneCell'])) ?_);intro wn sn;simp only [Nat.reduceAdd,qn];have c6:wn.cell? ⟨b6,0,none⟩=some (.bool true):=(cell_of_block sn.blk).trans rfl;have HDn:Hid (wn.heap[w6.heap.size]?=some (.deferred (some []))):=qq (sn.k.at HD.out (fun e=>by omega));have KN:=qq sn.k;clear sn c4 c7;go_wp2;have kp:=zw wn w6.heap.size (.deferred none);have z6:=K6.out.size;have g4:=G4.out;have ze:=E3.out.size;have zp:=kp.size;refine ⟨by simp,.inl ⟨_,_,rfl,run_takeDeferred (show wn.heap[w6.heap.size]?=_ from HDn.out),?_⟩⟩;have c6p:(wn.putObj w6.heap.size (.deferred none)).cell? ⟨b6,0,none⟩=some (.bool true):=(kp.cell (lt_of_cell c6) (fun e=>by have e:b6=w6.heap.size:=e;omega)).trans c6;refine ⟨.bool true,by simp [results,Tryz.f34,go_sem,asAddr,c6p],rfl,?_⟩;exact ((K6.out.trans E3.out (fun j hj e=>by omega)).trans KN.out (fun j hj e=>by have e:j=b7 \/ j=b6:=.inr e;omega)).trans kp (fun j hj e=>by omega)
end Go.Proofs.YtpjomdmjohjheaaGreatDoor
end
section
namespace Go.Log
open Go.Lk Go.RowKit Go.Vfs
variable {W0 w w' w2:World} {l d:Nat} {L L':Lg} {X Y:Ds} {O O' S N:Nat -> Prop}
structure DO (W0 w:World) (d:Nat) (X:Ds) (O:Nat -> Prop):Prop where
 ex:∃ F R,DiskAt w d F R X.D X.fc /\ (∀ k,O k -> k < w.heap.size /\ ¬ F k /\ ¬ R k) /\ ∀ k,F k -> W0.heap.size <= k
 k:Keeps Nb W0 w
 v:Vars W0
 six:6 <= W0.heap.size
structure LS (W0 w:World) (l d:Nat) (L:Lg) (X:Ds) (O:Nat -> Prop):Prop where
 ex:∃ Fd Rd FL RL,LgAt w l d Fd Rd FL RL L X /\ (∀ k,O k -> k < w.heap.size /\ ¬ Fd k /\ ¬ Rd k /\ ¬ FL k /\ ¬ RL k) /\ (∀ k,Fd k -> W0.heap.size <= k) /\ ∀ k,FL k -> W0.heap.size <= k
 k:Keeps Nb W0 w
 v:Vars W0
 six:6 <= W0.heap.size
def Oth (W0:World) (O:Nat -> Prop):Nat -> Prop:=fun k=>W0.heap.size <= k /\ ¬ O k
theorem DO.vars (h:DO W0 w d X O):Vars w:=h.v.nb h.k
theorem LS.vars (h:LS W0 w l d L X O):Vars w:=h.v.nb h.k
theorem DO.nb (h:DO W0 w d X O) (hk:Keeps Nb w w'):DO W0 w' d X O:=by
 obtain ⟨⟨F,R,h1,h2,h3⟩,h4,h5,h6⟩:=h;exact ⟨⟨F,R,h1.nb hk,fun k e=>⟨Nat.lt_of_lt_of_le (h2 k e).1 hk.size,(h2 k e).2⟩,h3⟩,h4.trans_nb hk,h5,h6⟩
theorem LS.nb (h:LS W0 w l d L X O) (hk:Keeps Nb w w'):LS W0 w' l d L X O:=by
 obtain ⟨⟨Fd,Rd,FL,RL,h1,h2,h3,h3'⟩,h4,h5,h6⟩:=h;exact ⟨⟨Fd,Rd,FL,RL,h1.nb hk,fun k e=>⟨Nat.lt_of_lt_of_le (h2 k e).1 hk.size,(h2 k e).2⟩,h3,h3'⟩,h4.trans_nb hk,h5,h6⟩
theorem LS.mono (h:LS W0 w l d L X O) (hO:∀ k,O' k -> O k):LS W0 w l d L X O':=by
 obtain ⟨⟨Fd,Rd,FL,RL,h1,h2,h3,h3'⟩,h4,h5,h6⟩:=h;exact ⟨⟨Fd,Rd,FL,RL,h1,fun k e=>h2 k (hO k e),h3,h3'⟩,h4,h5,h6⟩
theorem DO.add (h:DO W0 w d X O) (hk:Keeps Nb w w') (hN:∀ k,N k -> w.heap.size <= k /\ k < w'.heap.size):DO W0 w' d X fun k=>O k \/ N k:=by
 obtain ⟨⟨F,R,h1,h2,h3⟩,h4,h5,h6⟩:=h;refine ⟨⟨F,R,h1.nb hk,fun k e=>?_,h3⟩,h4.trans_nb hk,h5,h6⟩;rcases e with e | e
 ·exact ⟨Nat.lt_of_lt_of_le (h2 k e).1 hk.size,(h2 k e).2⟩
 ·have:=hN k e;exact ⟨this.2,fun f=>by have:=h1.ltF k f;omega,fun f=>by have:=h1.ltR k f;omega⟩
theorem LS.add (h:LS W0 w l d L X O) (hk:Keeps Nb w w') (hN:∀ k,N k -> w.heap.size <= k /\ k < w'.heap.size):LS W0 w' l d L X fun k=>O k \/ N k:=by
 obtain ⟨⟨Fd,Rd,FL,RL,h1,h2,h3,h3'⟩,h4,h5,h6⟩:=h;refine ⟨⟨Fd,Rd,FL,RL,h1.nb hk,fun k e=>?_,h3,h3'⟩,h4.trans_nb hk,h5,h6⟩;rcases e with e | e
 ·exact ⟨Nat.lt_of_lt_of_le (h2 k e).1 hk.size,(h2 k e).2⟩
 ·have:=hN k e;exact ⟨this.2,fun f=>by have:=h1.disk.ltF k f;omega,fun f=>by have:=h1.disk.ltR k f;omega,fun f=>by have:=h1.ltF k f;omega,fun f=>by have:=h1.ltR k f;omega⟩
theorem DO.set (h:DO W0 w d X O) (hk:Keeps S w w') (hS:∀ k,S k -> O k /\ W0.heap.size <= k):DO W0 w' d X O:=by
 obtain ⟨⟨F,R,h1,h2,h3⟩,h4,h5,h6⟩:=h;exact ⟨⟨F,R,h1.keeps hk (fun k f s=>(h2 k (hS k s).1).2.1 f) (fun k f s=>(h2 k (hS k s).1).2.2 f),fun k e=>⟨Nat.lt_of_lt_of_le (h2 k e).1 hk.size,(h2 k e).2⟩,h3⟩,h4.trans hk (fun j hj s=>by have:=(hS j s).2;omega),h5,h6⟩
theorem LS.set (h:LS W0 w l d L X O) (hk:Keeps S w w') (hS:∀ k,S k -> O k /\ W0.heap.size <= k):LS W0 w' l d L X O:=by
 obtain ⟨⟨Fd,Rd,FL,RL,h1,h2,h3,h3'⟩,h4,h5,h6⟩:=h;exact ⟨⟨Fd,Rd,FL,RL,h1.keeps hk (fun k f s=>(h2 k (hS k s).1).2.1 f) (fun k f s=>(h2 k (hS k s).1).2.2.1 f) (fun k f s=>(h2 k (hS k s).1).2.2.2.1 f) (fun k f s=>(h2 k (hS k s).1).2.2.2.2 f),fun k e=>⟨Nat.lt_of_lt_of_le (h2 k e).1 hk.size,(h2 k e).2⟩,h3,h3'⟩,h4.trans hk (fun j hj s=>by have:=(hS j s).2;omega),h5,h6⟩
theorem LS.disk (h:LS W0 w l d L X O):DO W0 w d X O:=by
 obtain ⟨⟨Fd,Rd,FL,RL,h1,h2,h3,h3'⟩,h4,h5,h6⟩:=h;exact ⟨⟨Fd,Rd,h1.disk,fun k e=>⟨(h2 k e).1,(h2 k e).2.1,(h2 k e).2.2.1⟩,h3⟩,h4,h5,h6⟩
theorem DO.now (h:DO W0 w d X O) {F R:Nat -> Prop} (h1:∀ k,O k -> k < w.heap.size /\ ¬ F k /\ ¬ R k) (h2:∀ k,F k -> W0.heap.size <= k) (hn:Now w w' d F R Y.D Y.fc):DO W0 w' d Y O /\ Keeps (Oth W0 O) w w':=by
 obtain ⟨F',R',n1,n2,n3,n4⟩:=hn;have z0:=h.k.size;have z:=n4.size;refine ⟨⟨⟨F',R',n1,fun k e=>?_,fun k f=>(n2 k f).elim (h2 k) (fun _=>by omega)⟩,h.k.trans n4 (fun j hj e=>by have:=h2 j e;omega),h.v,h.six⟩,n4.mono fun k _ f=>⟨h2 k f,fun e=>(h1 k e).2.1 f⟩⟩;have:=h1 k e;exact ⟨by omega,fun f=>(n2 k f).elim this.2.1 (fun _=>by omega),fun f=>(n3 k f).elim this.2.2 (fun _=>by omega)⟩
theorem LS.now (h:LS W0 w l d L X O) {Fd Rd FL RL:Nat -> Prop} (h1:∀ k,O k -> k < w.heap.size /\ ¬ Fd k /\ ¬ Rd k /\ ¬ FL k /\ ¬ RL k) (h2:∀ k,Fd k -> W0.heap.size <= k) (h3:∀ k,FL k -> W0.heap.size <= k) (hn:LNow w w' l d Fd Rd FL RL L' Y):LS W0 w' l d L' Y O /\ Keeps (Oth W0 O) w w':=by
 obtain ⟨Fd',Rd',FL',RL',n1,n2,n3,n4,n5,n6⟩:=hn;have z0:=h.k.size;have z:=n6.size;refine ⟨⟨⟨Fd',Rd',FL',RL',n1,fun k e=>?_,fun k f=>(n2 k f).elim (h2 k) (fun _=>by omega),fun k f=>(n4 k f).elim (h3 k) (fun _=>by omega)⟩,h.k.trans n6 (fun j hj e=>e.elim (fun e=>by have:=h2 j e;omega) (fun e=>by have:=h3 j e;omega)),h.v,h.six⟩,n6.mono fun k _ f=>⟨f.elim (h2 k) (h3 k),fun e=>f.elim (h1 k e).2.1 (h1 k e).2.2.2.1⟩⟩;have:=h1 k e;exact ⟨by omega,fun f=>(n2 k f).elim this.2.1 (fun _=>by omega),fun f=>(n3 k f).elim this.2.2.1 (fun _=>by omega),fun f=>(n4 k f).elim this.2.2.2.1 (fun _=>by omega),fun f=>(n5 k f).elim this.2.2.2.2 (fun _=>by omega)⟩
theorem Oth.at {b:Nat} {o:Obj} (hk:Keeps (Oth W0 O) w w') (h:w.heap[b]?=some o) (hO:O b):w'.heap[b]?=some o:=hk.at h fun e=>e.2 hO
end Go.Log
namespace Go.Proofs.YtpjomdmjohjheaaGreatDoor
open Go.RowKit Go.Lk Go.Vfs Go.Log
variable {W0 w w' w2:World} {l d:Nat} {L L':Lg} {X Y:Ds} {O O' S N:Nat -> Prop}
def LsD (W0:World) (l d:Nat) (O:Nat -> Prop) (L:Lg) (X:Ds) (k:Int) (r:Lg -> Ds -> Int -> Lg -> Ds -> Prop) (w:World) (e:Ending) (w':World):Prop :=
 ∃ er L' Y,e=.returned (.int .i64 er) /\ LS W0 w' l d L' Y O /\ r L X er L' Y /\ pot Y <= pot X + k /\ Keeps (Oth W0 O) w w'
theorem z7n (h:LS W0 w l d L X O) (hp:pot X + 1 <= 999999):Calls Tryz.prog 22 #[.pointer (some ⟨l,0,none⟩)] w (LsD W0 l d O L X 1 synR w):=by
 obtain ⟨Fd,Rd,FL,RL,h1,h2,h3,h4⟩:=h.ex;refine (zfc l d Fd Rd FL RL L X w h1 h.vars hp).mono ?_;rintro e w' ⟨er,L',Y,rfl,hn,hr,hp'⟩;obtain ⟨a,b⟩:=h.now h2 h3 h4 hn;exact ⟨er,L',Y,rfl,a,hr,hp',b⟩
def Own (W0:World) (O:Nat -> Prop):Nat -> Prop:=fun k=>k < W0.heap.size \/ O k
theorem z86 (h:LS W0 w l d L X O) {Fd Rd FL RL:Nat -> Prop} (h1:∀ k,O k -> k < w.heap.size /\ ¬ Fd k /\ ¬ Rd k /\ ¬ FL k /\ ¬ RL k) (h2:∀ k,Fd k -> W0.heap.size <= k) (h3:∀ k,FL k -> W0.heap.size <= k) {v:Value} {bs:List Nat} (hb:Bytes w (Own W0 O) v bs):BytesO v bs w Fd FL:=by
 refine Bytes.mono hb fun k e=>?_;have z:=h.k.size;rcases e with e | e
 ·exact ⟨by omega,fun f=>by have:=h2 k f;omega,fun f=>by have:=h3 k f;omega⟩
 ·exact ⟨(h1 k e).1,(h1 k e).2.1,(h1 k e).2.2.2.1⟩
theorem z2n (h:LS W0 w l d L X O) {v:Value} {bs:List Nat} (hb:Bytes w (Own W0 O) v bs) (hp:pot X + 6 <= 999999) (hsg:L.segments < 1000000) (hrc:L.recs.length < 4000000000000) (hsz:L.size <= 16777216) :
  Calls Tryz.prog 21 #[.pointer (some ⟨l,0,none⟩),v] w (LsD W0 l d O L X 6 (fun L X e L' Y=>appR L bs X e L' Y) w):=by
 obtain ⟨Fd,Rd,FL,RL,h1,h2,h3,h4⟩:=h.ex;refine (zcx l d Fd Rd FL RL L X v bs w h1 h.vars (z86 h h2 h3 h4 hb) hp hsg hrc hsz).mono ?_;rintro e w' ⟨er,L',Y,rfl,hn,hr,hp'⟩;obtain ⟨a,b⟩:=h.now h2 h3 h4 hn;exact ⟨er,L',Y,rfl,a,hr,hp',b⟩
theorem zb3 (h:LS W0 w l d L X O) {v:Value} {bs:List Nat} (hb:Bytes w (Own W0 O) v bs) (hp:pot X + 19 <= 999999) :
  Calls Tryz.prog 23 #[.pointer (some ⟨l,0,none⟩),v] w (LsD W0 l d O L X 19 (fun L X e L' Y=>turnR L bs X e L' Y) w):=by
 obtain ⟨Fd,Rd,FL,RL,h1,h2,h3,h4⟩:=h.ex;refine (zil l d Fd Rd FL RL L X v bs w h1 h.vars (z86 h h2 h3 h4 hb) hp).mono ?_;rintro e w' ⟨er,L',Y,rfl,hn,hr,hp'⟩;obtain ⟨a,b⟩:=h.now h2 h3 h4 hn;exact ⟨er,L',Y,rfl,a,hr,hp',b⟩
theorem z3w (h:DO W0 w d X O) (nm:ByteArray) (m:Nat) (hm1:mnB nm=true) (h16:nm.size <= 16) (hs1:1 <= m) (hs2:m <= 1048576) (hp:pot X + 12 <= 999999) :
  Calls Tryz.prog 19 #[.pointer (some ⟨d,0,none⟩),.string nm,.int .i64 m] w fun e w'=>∃ er L Y,openR nm m X er L Y /\ pot Y <= pot X + 12 /\ Keeps (Oth W0 O) w w' /\
   ((er=0 /\ ∃ l,e=.returned (.tuple #[.pointer (some ⟨l,0,none⟩),.int .i64 0]) /\ LS W0 w' l d L Y O) \/ (er ≠ 0 /\ e=.returned (.tuple #[.pointer none,.int .i64 er]) /\ DO W0 w' d Y O)):=by
 obtain ⟨F,R,h1,h2,h3⟩:=h.ex;have h6:=h.six;refine (zhn d F R X nm m w h1 h.vars (fun k f=>by have:=h3 k f;omega) hm1 h16 hs1 hs2 hp).mono ?_;rintro e w' ⟨er,L,Y,hr,hp',⟨h0,l,Fd',Rd',FL,RL,rfl,g1,g2,g3,g4,g5,g6⟩ | ⟨h0,rfl,hn⟩⟩
 ·have z0:=h.k.size;have z:=g6.size;refine ⟨er,L,Y,hr,hp',g6.mono fun k _ f=>⟨h3 k f,fun e=>(h2 k e).2.1 f⟩,.inl ⟨h0,l,rfl,⟨⟨Fd',Rd',FL,RL,g1,fun k e=>?_,fun k f=>(g2 k f).elim (h3 k) (fun _=>by omega),fun k f=>by have:=g4 k f;omega⟩,h.k.trans g6 (fun j hj e=>by have:=h3 j e;omega),h.v,h.six⟩⟩⟩;have:=h2 k e;exact ⟨by omega,fun f=>(g2 k f).elim this.2.1 (fun _=>by omega),fun f=>(g3 k f).elim this.2.2 (fun _=>by omega),fun f=>by have:=g4 k f;omega,fun f=>by have:=g5 k f;omega⟩
 ·obtain ⟨a,b⟩:=h.now h2 h3 hn;exact ⟨er,L,Y,hr,hp',b,.inr ⟨h0,rfl,a⟩⟩
theorem ls_ro (h:LS W0 w l d L X O):Calls Tryz.prog 25 #[.pointer (some ⟨l,0,none⟩)] w fun e w'=>e=.returned (.bool L.bad) /\ w=w':=by
 obtain ⟨Fd,Rd,FL,RL,h1,-⟩:=h.ex;obtain ⟨sv,lv,hc⟩:=h1.cells;exact ro_at (hc w (Keeps.refl _ _))
theorem zdl (h:LS W0 w l d L X O):Calls Tryz.prog 30 #[.pointer (some ⟨l,0,none⟩)] w fun e w'=>e=.returned (.int .i64 (L.recs.length:Nat)) /\ w=w':=by
 obtain ⟨Fd,Rd,FL,RL,h1,-⟩:=h.ex;obtain ⟨sv,lv,vs,q1,-,q3,-⟩:=h1.ex;obtain ⟨-,-,la,lc,rfl,-⟩:=id q3;exact len_at q1
theorem zdm (h:LS W0 w l d L X O):Calls Tryz.prog 20 #[.pointer (some ⟨l,0,none⟩)] w fun e w'=>e=.returned (.int .i64 (L.segment:Nat)) /\ w=w':=by
 obtain ⟨Fd,Rd,FL,RL,h1,-⟩:=h.ex;obtain ⟨sv,lv,hc⟩:=h1.cells;exact zcg (hc w (Keeps.refl _ _))
theorem z8g (h:LS W0 w l d L X O):Calls Tryz.prog 93 #[.pointer (some ⟨l,0,none⟩)] w fun e w'=>e=.returned (.int .i64 (L.synced:Nat)) /\ w=w':=by
 obtain ⟨Fd,Rd,FL,RL,h1,-⟩:=h.ex;obtain ⟨sv,lv,hc⟩:=h1.cells;exact zeh (hc w (Keeps.refl _ _))
theorem zb2 (h:LS W0 w l d L X O):Calls Tryz.prog 29 #[.pointer (some ⟨l,0,none⟩)] w fun e w'=>∃ v,e=.returned (.tuple #[v,.bool L.has]) /\ Bytes w' (SinceB w w') v (if L.has=true then L.snap else []) /\ Keeps Nb w w':=by
 obtain ⟨Fd,Rd,FL,RL,h1,-⟩:=h.ex;exact zai h1
theorem z8f (h:LS W0 w l d L X O):Calls Tryz.prog 35 #[.pointer (some ⟨l,0,none⟩)] w (GotD w L.recs):=by
 obtain ⟨Fd,Rd,FL,RL,h1,-⟩:=h.ex;exact zde l d Fd Rd FL RL L X w h1
theorem zhh (h:LS W0 w l d L X O) {wa:Option Addr} {wc:Nat} {vs:List Value} (hw:RowS w (fun k=>k < w.heap.size) (fun _=>False) 22 1 (.slice wa L.recs.length wc) L.recs.length vs) (hb:BytesL w (fun k=>k < w.heap.size) vs L.recs) :
  Calls Tryz.prog 34 #[.pointer (some ⟨l,0,none⟩),.slice wa L.recs.length wc,.int .i64 0] w fun e w'=>e=.returned (.bool true) /\ Keeps Nb w w':=by
 obtain ⟨Fd,Rd,FL,RL,h1,-⟩:=h.ex;refine zhm _ _ wa wc vs w hw hb h1.nums.recs h1.nums.nrec fun w1 k1=>?_;refine (z70 l d Fd Rd FL RL L X w1 (h1.nb k1)).mono ?_;rintro e w' ⟨g,rfl,g1,g2,g3,g4⟩;exact ⟨g,_,rfl,g1,g2,fun k e=>e.elim (fun e=>.inl (h1.ltF k e)) fun e=>e.elim (fun e=>.inl (h1.ltR k e)) .inr,g3,g4⟩
end Go.Proofs.YtpjomdmjohjheaaGreatDoor
end
section
namespace Go.Log
open Go.Lk Go.RowKit Go.Vfs
def RB (w:World) (R:Nat -> Prop) (v:Value) (ls:List (List Nat)):Prop :=
 ∃ a c vs,v=.slice a ls.length c /\ ls.length <= c /\ c <= maxLen /\ Has w a vs /\ (∀ b off,a=some ⟨b,off,none⟩ -> vs ≠ [] -> R b) /\ BytesL w R vs ls
theorem RB.keeps {w w':World} {R S:Nat -> Prop} {v:Value} {ls:List (List Nat)} (h:RB w R v ls) (hk:Keeps S w w') (hn:∀ k,R k -> ¬ S k):RB w' R v ls:=by
 obtain ⟨a,c,vs,h1,h2,h3,h4,h5,h6⟩:=h;exact ⟨a,c,vs,h1,h2,h3,h4.keeps hk (fun b off e hz=>hn b (h5 b off e hz)),h5,h6.keeps hk hn⟩
theorem RB.mono {w:World} {R R':Nat -> Prop} {v:Value} {ls:List (List Nat)} (h:RB w R v ls) (hn:∀ k,R k -> R' k):RB w R' v ls:=by
 obtain ⟨a,c,vs,h1,h2,h3,h4,h5,h6⟩:=h;exact ⟨a,c,vs,h1,h2,h3,h4,fun b off e hz=>hn b (h5 b off e hz),h6.mono hn⟩
theorem RB.of {w:World} {F R R':Nat -> Prop} {v:Value} {ls:List (List Nat)} {vs:List Value} (h:RowS w F (fun _=>False) 22 1 v ls.length vs) (hb:BytesL w R vs ls) (h1:∀ k,F k -> R' k) (h2:∀ k,R k -> R' k):RB w R' v ls:=by
 obtain ⟨-,-,a,c,e1,e2,e3,e4,e5,-⟩:=h;exact ⟨a,c,vs,e1,e2,e3,e4,fun b off e hz=>(e5 b off e hz).1.elim (h1 b) (fun e=>e.elim),hb.mono h2⟩
theorem RB.get {w:World} {R:Nat -> Prop} {a:Option Addr} {n c:Nat} {ls:List (List Nat)} (h:RB w R (.slice a n c) ls) {i:Nat} {x:List Nat} (hx:ls[i]?=some x) :
  ∃ b off ax cx,a=some ⟨b,off,none⟩ /\ R b /\ w.cell? ⟨b,off + i,none⟩=some (.slice ax x.length cx) /\ Bytes w R (.slice ax x.length cx) x:=by
 obtain ⟨a',c',vs,e,-,-,h4,h5,h6⟩:=h;cases e;have hi:=(List.getElem?_eq_some_iff.1 hx).1;obtain ⟨v,hv⟩:∃ v,vs[i]?=some v:=⟨_,List.getElem?_eq_getElem (by rw [h6.1];exact hi)⟩
 have hb:=h6.2 i v x hv hx;have hne:vs ≠ []:=by rintro rfl;cases hv
 obtain ⟨ax,cx,rfl,-⟩:=id hb;rcases h4 with h | ⟨b,off,rfl,hc⟩
 ·exact absurd h hne
 ·exact ⟨b,off,ax,cx,rfl,h5 b off rfl hne,hc i _ hv,hb⟩
theorem RB.take {w:World} {R:Nat -> Prop} {a:Option Addr} {n c:Nat} {ls:List (List Nat)} (h:RB w R (.slice a n c) ls) {k:Nat} (hk:k <= ls.length):RB w R (.slice a k c) (ls.take k):=by
 obtain ⟨a',c',vs,e,h2,h3,h4,h5,h6⟩:=h;cases e;have hl:(ls.take k).length=k:=by rw [List.length_take];omega
 refine ⟨a,c,vs.take k,by rw [hl],by omega,h3,?_,fun b off e hz=>h5 b off e (fun h=>by rw [h] at hz;simp at hz),by rw [List.length_take,List.length_take,h6.1],fun i v l hv hl=>?_⟩
 ·
  rcases h4 with h | ⟨b,off,rfl,hc⟩
  ·exact .inl (by rw [h];simp)
  ·
   refine .inr ⟨b,off,rfl,fun i v hv=>?_⟩;rw [List.getElem?_take] at hv;split at hv
   ·exact hc i v hv
   ·cases hv
 ·
  rw [List.getElem?_take] at hv hl;split at hv
  ·rename_i hik;rw [if_pos hik] at hl;exact h6.2 i v l hv hl
  ·cases hv
end Go.Log
namespace Go.Proofs.YtpjomdmjohjheaaGreatDoor
open Go.RowKit Go.Lk Go.Vfs Go.Log
theorem ba_tl {a b:ByteArray} (h:a.toList=b.toList):a=b:=by
 rw [ByteArray.toList_eq,ByteArray.toList_eq] at h;exact z34 h
def BoolD (w:World) (p:Prop) (e:Ending) (w':World):Prop:=∃ r,e=.returned (.bool r) /\ (p -> r=true) /\ Keeps Nb w w'
theorem zi9 (v1 v2:Value) (l1 l2:List (List Nat)) (R:Nat -> Prop) (w:World) (h1:RB w R v1 l1) (h2:RB w R v2 l2) :
  Calls Tryz.prog 16 #[v1,v2] w (BoolD w (l1=l2)):=by
 have H1:=qq h1;have H2:=qq h2;obtain ⟨a1,c1,vs1,rfl,hc1,hm1,-⟩:=id h1;obtain ⟨a2,c2,vs2,rfl,hc2,hm2,-⟩:=id h2;obtain ⟨n1,hn1⟩:∃ n,l1.length=n:=⟨_,rfl⟩
 obtain ⟨n2,hn2⟩:∃ n,l2.length=n:=⟨_,rfl⟩
 have N1:=qq hn1;have N2:=qq hn2;rw [hn1] at hc1 H1 ⊢;rw [hn2] at hc2 H2 ⊢;unfold maxLen at hm1 hm2;clear h1 h2 hn1 hn2;go_enter Tryz.func16,Tryz.ntmps16;by_cases hnn:n1=n2
 ·
  subst hnn;go_wp2
  go_loopw [5,6] (fun sv kv wr=>∃ (k:Nat) (r:Bool),k <= n1 /\ sv=.bool r /\ kv=.int .i64 k /\ Hid (l1=l2 -> r=true) /\ Keeps Nb w wr) (fun sv kv _=>n1 - (intOf kv).toNat)
  case atStart=>exact ⟨0,true,Nat.zero_le _,by simp,rfl,qq (fun _=>rfl),Keeps.refl _ _⟩
  case round =>
   obtain ⟨k,r,hk,rfl,rfl,HRR,kw⟩:=hrel;have KW:=qq kw;clear kw;cases r with
   | false =>
    go_wp2;go_ret;exact ⟨false,rfl,HRR.out,KW.out⟩
   | true =>
    by_cases hlt:k < n1
    ·
     have i1:(k:Int) < (n1:Int):=by omega
     obtain ⟨x,hx⟩:∃ x,l1[k]?=some x:=⟨_,List.getElem?_eq_getElem (by rw [N1.out];exact hlt)⟩
     obtain ⟨y,hy⟩:∃ y,l2[k]?=some y:=⟨_,List.getElem?_eq_getElem (by rw [N2.out];exact hlt)⟩
     obtain ⟨b1,o1,ax,cx,rfl,-,q1,q2⟩:=(H1.out.keeps KW.out (fun _ _ e=>e)).get hx;obtain ⟨b2,o2,ay,cy,rfl,-,q3,q4⟩:=(H2.out.keeps KW.out (fun _ _ e=>e)).get hy;have t1:∀ u:Sub wr,u.wd.cell? ⟨b1,o1 + k,none⟩=some (.slice ax x.length cx):=fun u=>(u.k.cell (lt_of_cell q1) (fun e=>e)).trans q1;have t2:∀ u:Sub wr,u.wd.cell? ⟨b2,o2 + k,none⟩=some (.slice ay y.length cy):=fun u=>(u.k.cell (lt_of_cell q3) (fun e=>e)).trans q3;have HX:Hid (∀ u:Sub wr,Has u.wd ax (x.map fun z=>.int .u8 (z:Nat))):=qq fun u=>by
      obtain ⟨a',c',e,_,_,hr,_⟩:=q2;cases e;exact (hr.nb u.k).has
     have HY:Hid (∀ u:Sub wr,Has u.wd ay (y.map fun z=>.int .u8 (z:Nat))):=qq fun u=>by
      obtain ⟨a',c',e,_,_,hr,_⟩:=q4;cases e;exact (hr.nb u.k).has
     have HXY:Hid (l1=l2 -> x=y):=qq fun e=>by rw [e,hy] at hx;exact (Option.some.inj hx).symm
     clear q1 q2 q3 q4 hx hy;go_wp2;refine z1v (by kernel_rfl) (by kernel_rfl) ?_
     repeat (first | go_big_quiet_skip | (with_reducible refine stopq (op:=.convert 22 9 _) ?_) | go_big_quiet_step (fail))
     refine za (z5u (v:=.string (bstr x)) rfl (by rintro _ ⟨u,rfl⟩;exact z3d Tryz.underlying22 Tryz.underlying5 Tryz.underlying9 (by rfl) (HX.out u) rfl) ?_);simp only [Nat.reduceAdd,qn]
     repeat (first | go_big_quiet_skip | (with_reducible refine stopq (op:=.convert 22 9 _) ?_) | go_big_quiet_step (fail))
     refine za (z5u (v:=.string (bstr y)) rfl (by rintro _ ⟨u,rfl⟩;exact z3d Tryz.underlying22 Tryz.underlying5 Tryz.underlying9 (by rfl) (HY.out u) rfl) ?_);simp only [Nat.reduceAdd,qn]
     repeat (first | go_big_quiet_skip | (with_reducible refine stopq (op:=.convert 22 9 _) ?_) | go_big_quiet_step (fail))
     refine wpQuiet_nil ?_;rintro w3 ⟨u3,hu3⟩;have K3:Hid (Keeps Nb w w3):=qq (KW.out.trans_nb (hu3 ▸ u3.k));clear hu3 u3 t1 t2;go_wp2;go_roundw
     case rel=>exact ⟨k + 1,_,by omega,rfl,by go_num,qq (fun e=>by rw [HXY.out e];simp [z7x]),K3.out⟩
     case measure=>simp [intOf];omega
    ·go_wp2;go_ret;exact ⟨true,rfl,fun _=>rfl,KW.out⟩
 ·
  have t0:((n1:Int) == (n2:Int))=false:=by rw [beq_eq_false_iff_ne];omega
  have HNE:Hid (l1=l2 -> False):=qq fun e=>hnn (by rw [<- N1.out,<- N2.out,e]);go_wp2
  go_loopw [5,6] (fun sv kv wr=>sv=.bool false /\ wr=w) (fun sv kv _=>0)
  case atStart=>exact ⟨by simp [hnn],rfl⟩
  case round =>
   obtain ⟨rfl,rfl⟩:=hrel;go_wp2;go_ret;exact ⟨false,rfl,fun e=>(HNE.out e).elim,Keeps.refl _ _⟩
theorem zd2 (v1 v2:Value) (l1 l2:List (List Nat)) (R:Nat -> Prop) (w:World) (h1:RB w R v1 l1) (h2:RB w R v2 l2) :
  Calls Tryz.prog 96 #[v1,v2] w (BoolD w (l2 <+: l1)):=by
 have H1:=qq h1;have H2:=qq h2;obtain ⟨a1,c1,vs1,rfl,hc1,hm1,-⟩:=id h1;obtain ⟨a2,c2,vs2,rfl,hc2,hm2,-⟩:=id h2;obtain ⟨n1,hn1⟩:∃ n,l1.length=n:=⟨_,rfl⟩
 obtain ⟨n2,hn2⟩:∃ n,l2.length=n:=⟨_,rfl⟩
 have N1:=qq hn1;have N2:=qq hn2;rw [hn1] at hc1 H1 ⊢;rw [hn2] at hc2 H2 ⊢;unfold maxLen at hm1 hm2;clear h1 h2 hn1 hn2;go_enter Tryz.func96,Tryz.ntmps96;by_cases hlt:n1 < n2
 ·
  have i1:(n1:Int) < (n2:Int):=by omega
  have HF:Hid (¬ l2 <+: l1):=qq fun e=>by have:=e.length_le;rw [N1.out,N2.out] at this;omega
  go_wp2;go_ret;exact ⟨false,rfl,fun e=>absurd e HF.out,Keeps.refl _ _⟩
 ·
  have i1:¬ (n1:Int) < (n2:Int):=by omega
  have k1:n2 <= c1:=by omega
  have SA:=qq (zi9 (.slice a1 n2 c1) (.slice a2 n2 c2) (l1.take n2) l2 R w (H1.out.take (by rw [N1.out];omega)) H2.out);have HP:Hid (l2 <+: l1 -> l1.take n2=l2):=qq fun e=>by rw [<- N2.out];exact (List.prefix_iff_eq_take.1 e).symm
  clear hlt;by_cases hz:c1=0
  ·
   subst hz;obtain rfl:n1=0:=by omega
   obtain rfl:n2=0:=by omega
   clear i1;go_wp2_with fail;refine SA.out.mono ?_;rintro _ w' ⟨r,rfl,hr,hk⟩;have HR:=qq hr;have HK:=qq hk;clear hr hk SA;go_wp2;go_ret;exact ⟨r,rfl,fun e=>HR.out (HP.out e),HK.out⟩
  ·go_wp2_with fail;refine SA.out.mono ?_;rintro _ w' ⟨r,rfl,hr,hk⟩;have HR:=qq hr;have HK:=qq hk;clear hr hk SA;go_wp2;go_ret;exact ⟨r,rfl,fun e=>HR.out (HP.out e),HK.out⟩
structure Ks where
 s:ByteArray
 has:Bool
 all:List (List Nat)
 sure:Int
def Ks.v (k:Ks) (av:Value):Value:=.agg #[.string k.s,.bool k.has,av,.int .i64 k.sure]
def snapOf (L:Lg):List Nat:=if L.has=true then L.snap else []
structure Ks.Is (k:Ks) (L:Lg):Prop where
 s:bstr (snapOf L)=k.s
 has:L.has=k.has
 sure:k.sure <= (L.recs.length:Int)
 pre:L.recs <+: k.all
def IsD (w:World) (k:Ks) (L:Lg) (e:Ending) (w':World):Prop:=∃ r,e=.returned (.bool r) /\ (k.Is L -> r=true) /\ (r=true -> bstr (snapOf L)=k.s /\ L.has=k.has) /\ Keeps Nb w w'
theorem z4a {W0 w:World} {l d:Nat} {L:Lg} {X:Ds} {O:Nat -> Prop} (h:LS W0 w l d L X O) (k:Ks) (av:Value) (R:Nat -> Prop) (hav:RB w R av k.all) :
  Calls Tryz.prog 33 #[k.v av,.pointer (some ⟨l,0,none⟩)] w (IsD w k L):=by
 obtain ⟨ks,kh,ka,kr⟩:=k;have H:=qq h;have HA:=qq hav;obtain ⟨a1,c1,vs1,rfl,-⟩:=id hav;obtain ⟨n1,hn1⟩:∃ n,ka.length=n:=⟨_,rfl⟩
 have N1:=qq hn1;simp only [Ks.v];rw [hn1] at HA ⊢;clear h hav hn1;go_enter Tryz.func33,Tryz.ntmps33;go_wp2_with (first | go_skip | (with_reducible refine qv (by decide) ?_))
 refine za (vbox rfl ?_);intro b2 w1 nb;simp only [Nat.reduceAdd,qn];have B2:=qq nb.blk;have K1:=qq nb.k;have SN:=qq (zb2 (H.out.nb nb.k));clear nb;go_wp2_with fail;refine SN.out.mono ?_;rintro _ w2 ⟨sv,rfl,hsv,k2⟩;have K2:=qq (K1.out.trans_nb k2);have B22:=qq (k2.nb B2.out);obtain ⟨sa,sc,rfl,hsr⟩:=id hsv;have HSV:=qq hsv;have GA:=qq (z8f (H.out.nb K2.out));obtain ⟨sl,hsl⟩:∃ n,(if L.has=true then L.snap else []).length=n:=⟨_,rfl⟩
 have HSL:Hid ((snapOf L).length=sl):=qq hsl;obtain ⟨lh,hlh⟩:∃ h,L.has=h:=⟨_,rfl⟩
 have HLH:=qq hlh;rw [hsl,hlh];clear hsv hsr k2 SN B2 hsl hlh;go_wp2_with fail;refine GA.out.mono ?_;rintro _ w3 ⟨gv,gvs,rfl,hg1,hg2,k3⟩;obtain ⟨-,-,ga,gc,rfl,-⟩:=id hg1;obtain ⟨bl,hbl⟩:∃ b,bstr (snapOf L)=b:=⟨_,rfl⟩
 have HBL:=qq hbl
 have HHas:Hid (Has w3 sa ((snapOf L).map fun z=>.int .u8 (z:Nat))):=qq (by
  obtain ⟨a',c',e,_,_,hr,_⟩:=HSV.out
  cases e;exact (hr.nb k3).has)
 have K3:=qq (K2.out.trans_nb k3);have hb3:=k3.nb B22.out;have t0:w3.cell? ⟨b2,0,none⟩=some (.string ks):=(cell_of_block hb3).trans rfl;have t1:w3.cell? ⟨b2,1,none⟩=some (.bool kh):=(cell_of_block hb3).trans rfl;have t2:w3.cell? ⟨b2,2,none⟩=some (.slice a1 n1 c1):=(cell_of_block hb3).trans rfl;have t3:w3.cell? ⟨b2,3,none⟩=some (.int .i64 kr):=(cell_of_block hb3).trans rfl;have BA:=qq (zd2 (.slice a1 n1 c1) (.slice ga L.recs.length gc) ka L.recs (fun k=>R k \/ k < w3.heap.size) w3 ((HA.out.keeps K3.out (fun _ _ e=>e)).mono fun k e=>.inl e) (RB.of hg1 hg2 (fun k e=>.inr e.2) (fun k e=>.inr e.1.2)));obtain ⟨m,hm⟩:∃ m,L.recs.length=m:=⟨_,rfl⟩
 have HM:=qq hm;rw [hm] at BA ⊢;clear hg1 hg2 hbl hm GA B22 hb3 k3;go_wp2_with (first | go_skip | (with_reducible refine zx (s:=22) ?_))
 refine za (zn (v:=.string bl) rfl (by rw [<- HBL.out];exact z3d Tryz.underlying22 Tryz.underlying5 Tryz.underlying9 (by rfl) HHas.out HSL.out) ?_);simp only [Nat.reduceAdd,qn];have HS0:Hid (∀ ks' kh' kr',(Ks.Is ⟨ks',kh',ka,kr'⟩ L ↔ (bl=ks' /\ lh=kh' /\ kr' <= (m:Int) /\ L.recs <+: ka))):=qq fun ks' kh' kr'=>by
  rw [<- HBL.out,<- HLH.out,<- HM.out];exact ⟨fun h=>⟨h.s,h.has,h.sure,h.pre⟩,fun h=>⟨h.1,h.2.1,h.2.2.1,h.2.2.2⟩⟩
 by_cases s1:bl=ks
 ·
  subst s1;by_cases s2:lh=kh
  ·
   subst s2;by_cases s3:kr <= (m:Int)
   ·go_wp2_with fail;refine BA.out.mono ?_;rintro _ w4 ⟨r,rfl,hr,k4⟩;have HR:Hid ((Ks.Is ⟨bl,lh,ka,kr⟩ L -> r=true) /\ (r=true -> bstr (snapOf L)=bl /\ L.has=lh)):=qq ⟨fun h=>hr ((HS0.out _ _ _).1 h).2.2.2,fun _=>⟨HBL.out,HLH.out⟩⟩;have K4:Hid (Keeps Nb w w4):=qq (K3.out.trans_nb k4);clear hr k4 BA t0 t1 t2 t3;go_wp2;go_ret;exact ⟨r,rfl,HR.out.1,HR.out.2,K4.out⟩
   ·
    have i3:(m:Int) < kr:=by omega
    have HN:Hid (Ks.Is ⟨bl,lh,ka,kr⟩ L -> false=true):=qq fun h=>absurd ((HS0.out _ _ _).1 h).2.2.1 s3;clear BA s3;go_wp2;go_ret;exact ⟨false,rfl,HN.out,(fun e=>by cases e),K3.out⟩
  ·
   have q2:(lh == kh)=false:=by cases lh <;> cases kh <;> first | rfl | exact absurd rfl s2
   have HN:Hid (Ks.Is ⟨bl,kh,ka,kr⟩ L -> false=true):=qq fun h=>absurd ((HS0.out _ _ _).1 h).2.1 s2;clear BA s2;go_wp2;go_ret;exact ⟨false,rfl,HN.out,(fun e=>by cases e),K3.out⟩
 ·have q1:¬ bl.toList=ks.toList:=fun e=>s1 (ba_tl e);have HN:Hid (Ks.Is ⟨ks,kh,ka,kr⟩ L -> false=true):=qq fun h=>absurd ((HS0.out _ _ _).1 h).1 s1;clear BA s1;go_wp2;go_ret;exact ⟨false,rfl,HN.out,(fun e=>by cases e),K3.out⟩
end Go.Proofs.YtpjomdmjohjheaaGreatDoor
end
section
namespace Go.Proofs.YtpjomdmjohjheaaGreatDoor
open Go.RowKit Go.Lk Go.Vfs Go.Log
def turnedK (b:List Nat):Ks:=⟨bstr b,true,[],0⟩
def playR:List StepD -> Lg -> Ds -> Ks -> Lg -> Ds -> Ks -> Ks -> Prop
 | [],L,X,k,L',Y,a,b=>L'=L /\ Y=X /\ a=k /\ b=k
 | s :: l,L,X,k,L',Y,a,b =>
  (L.bad=true /\ L'=L /\ Y=X /\ a=k /\ b=k) \/
  (L.bad=false /\ s.kind=1 /\ ∃ e L1 Z,appR L s.b X e L1 Z /\ playR l L1 Z { k with all:=k.all ++ [s.b],sure:=max k.sure (L1.synced:Int) } L' Y a b) \/
  (L.bad=false /\ s.kind=2 /\ ∃ e L1 Z,synR L X e L1 Z /\ playR l L1 Z (if e=0 then { k with sure:=(k.all.length:Int) } else k) L' Y a b) \/
  (L.bad=false /\ s.kind=3 /\ ∃ e L1 Z,turnR L s.b X e L1 Z /\ ((e ≠ 0 /\ L'=L1 /\ Y=Z /\ a=k /\ b=turnedK s.b) \/ (e=0 /\ playR l L1 Z (turnedK s.b) L' Y a b))) \/
  (L.bad=false /\ s.kind ≠ 1 /\ s.kind ≠ 2 /\ s.kind ≠ 3 /\ playR l L X k L' Y a b)
theorem ze2 {l:List StepD} {L:Lg} {X:Ds} {k:Ks} (h:L.bad=true):playR l L X k L X k k:=by
 cases l with
 | nil=>exact ⟨rfl,rfl,rfl,rfl⟩
 | cons s l=>exact .inl ⟨h,rfl,rfl,rfl,rfl⟩
structure PB (L0:Lg) (X0:Ds) (k t:Nat) (L:Lg) (X:Ds):Prop where
 pot:pot X <= Go.Log.pot X0 + 19 * (k:Int)
 segs:L.segments <= L0.segments + k + 1
 recs:L.recs.length <= L0.recs.length + k
 size:L.size <= L0.size + 8 * k + t
theorem PB.refl (L:Lg) (X:Ds):PB L X 0 0 L X:=⟨by omega,by omega,by omega,by omega⟩
variable {L0 L L':Lg} {X0 X Y:Ds} {k t:Nat} {e:Int} {b:List Nat}
theorem PB.same (h:PB L0 X0 k t L X) (u:Nat):PB L0 X0 (k + 1) (t + u) L X:=by
 obtain ⟨h1,h2,h3,h4⟩:=h;exact ⟨by omega,by omega,by omega,by omega⟩
theorem on_bd (h:onR L X e L' Y):L'.segments <= L.segments + 1 /\ L'.recs.length <= L.recs.length /\ L'.size <= L.size:=by
 obtain ⟨-,⟨-,rfl⟩ | ⟨-,rfl⟩⟩:=h
 ·exact ⟨Nat.le_succ _,Nat.le_refl _,Nat.le_refl _⟩
 ·exact ⟨Nat.le_refl _,Nat.le_refl _,Nat.zero_le _⟩
theorem PB.app (h:PB L0 X0 k t L X) (hr:appR L b X e L' Y) (hp:Go.Log.pot Y <= Go.Log.pot X + 6):PB L0 X0 (k + 1) (t + b.length) L' Y:=by
 obtain ⟨h1,h2,h3,h4⟩:=h;have key:L'.segments <= L.segments + 1 /\ L'.recs.length <= L.recs.length + 1 /\ L'.size <= L.size + (8 + b.length):=by
  rcases hr with ⟨-,-,rfl,-⟩ | ⟨-,e1,Z,-,⟨-,-,rfl,-⟩ | ⟨-,-,-,rfl,-⟩ | ⟨-,-,hr⟩⟩
  ·omega
  ·exact ⟨by show L.segments <= _;omega,by show L.recs.length <= _;omega,by show L.size <= _;omega⟩
  ·exact ⟨by show L.segments <= _;omega,by simp,Nat.le_refl _⟩
  ·obtain ⟨a1,a2,a3⟩:=on_bd hr;exact ⟨a1,by simpa using a2,a3⟩
 exact ⟨by omega,by omega,by omega,by omega⟩
theorem PB.syn (h:PB L0 X0 k t L X) (hr:synR L X e L' Y) (hp:Go.Log.pot Y <= Go.Log.pot X + 1) (u:Nat):PB L0 X0 (k + 1) (t + u) L' Y:=by
 obtain ⟨h1,h2,h3,h4⟩:=h;have key:L'.segments=L.segments /\ L'.recs=L.recs /\ L'.size=L.size:=by
  rcases hr with ⟨-,-,rfl,-⟩ | ⟨-,-,⟨-,rfl⟩ | ⟨-,rfl⟩⟩ <;> exact ⟨rfl,rfl,rfl⟩
 obtain ⟨k1,k2,k3⟩:=key;exact ⟨by omega,by omega,by rw [k2];omega,by omega⟩
theorem PB.turn (h:PB L0 X0 k t L X) (hr:turnR L b X e L' Y) (hp:Go.Log.pot Y <= Go.Log.pot X + 19) (u:Nat):PB L0 X0 (k + 1) (t + u) L' Y:=by
 obtain ⟨h1,h2,h3,h4⟩:=h;have key:(L'.segments=L.segments /\ L'.recs=L.recs /\ L'.size=L.size) \/ (L'.segments=1 /\ L'.recs=[] /\ L'.size=0):=by
  rcases hr with ⟨-,-,rfl,-⟩ | ⟨-,-,⟨-,rfl⟩ | ⟨-,rfl⟩⟩
  ·exact .inl ⟨rfl,rfl,rfl⟩
  ·exact .inl ⟨rfl,rfl,rfl⟩
  ·exact .inr ⟨rfl,rfl,rfl⟩
 rcases key with ⟨k1,k2,k3⟩ | ⟨k1,k2,k3⟩
 ·exact ⟨by omega,by omega,by rw [k2];omega,by omega⟩
 ·exact ⟨by omega,by omega,by rw [k2];simp,by omega⟩
structure PlayOk (L:Lg) (X:Ds) (n:Nat):Prop where
 pot:Go.Log.pot X + 19 * (n:Int) <= 900000
 segs:L.segments + n <= 900000
 recs:L.recs.length + n <= 3000000000000
 size:L.size + 8 * n + 20000 <= 16000000
end Go.Proofs.YtpjomdmjohjheaaGreatDoor
end
section
namespace Go.Proofs.YtpjomdmjohjheaaGreatDoor
open Go.Vfs Go.Log
variable {A B A' B' L L':Lg} {X Y X' Y':Ds} {e:Int} {x:List Nat} {n:Nat}
end Go.Proofs.YtpjomdmjohjheaaGreatDoor
end
section
namespace Go.Proofs.YtpjomdmjohjheaaGreatDoor
open Go.Vfs Go.Log
variable {nm:ByteArray} {L L':Lg} {X Y Z:Ds} {e:Int} {x:List Nat} {g h:Sh} {k a b:Ks} {most:Nat} {n q K:Nat} {c:Int}
structure KF (k:Ks) (h:Sh):Prop where
 s:bstr (h.sn.getD [])=k.s
 has:h.sn.isSome=k.has
 pre:h.closed ++ h.rs <+: k.all
 sure:k.sure <= ((h.closed.length + h.du:Nat):Int)
structure KW (k:Ks) (L:Lg) (g:Sh):Prop where
 s:bstr (g.sn.getD [])=k.s
 has:g.sn.isSome=k.has
 all:k.all=L.recs
 sure:k.sure <= ((g.closed.length + g.du:Nat):Int)
theorem KW.kf (h:KW k L g) (hl:LI nm L X g):KF k g:=⟨h.s,h.has,by rw [h.all,hl.recs];exact List.prefix_rfl,h.sure⟩
theorem zf6:Trims fun h=>KF a h \/ KF b h:=fun h j hp _ hj _=>by
 have key:∀ {k},KF k h -> KF k (h.trim j):=fun hk=>⟨hk.s,hk.has,List.IsPrefix.trans (show h.closed ++ h.rs.take j <+: h.closed ++ h.rs from List.prefix_append_right_inj _ |>.2 (List.take_prefix _ _)) hk.pre,hk.sure⟩
 exact hp.imp key key
theorem zhb (v:Nat -> Nat) (n:Nat) (hp:KF a h \/ KF b h):KF a (h.move v n) \/ KF b (h.move v n):=by
 have key:∀ {k},KF k h -> KF k (h.move v n):=fun hk=>⟨hk.s,hk.has,by rw [z3o];exact hk.pre,by rw [z3o];exact hk.sure⟩
 exact hp.imp key key
theorem zb1 (hl:LI nm L X g):snapOf L=g.sn.getD [] /\ L.has=g.sn.isSome:=by
 unfold snapOf;rcases hl.snap with ⟨h1,h2,h3⟩ | ⟨x,h1,h2,h3⟩
 ·rw [h1,h2];exact ⟨rfl,rfl⟩
 ·rw [h1,h2,h3];exact ⟨rfl,rfl⟩
theorem zga {j:Nat} (hk:KF k h) (h1:h.du <= j) (h2:j <= h.rs.length) (hl:LI nm L Y { h.trim j with du:=j }):k.Is L:=by
 obtain ⟨h3,h4⟩:=zb1 hl;have hr:L.recs=h.closed ++ h.rs.take j:=hl.recs;refine ⟨by rw [h3];exact hk.s,by rw [h4];exact hk.has,?_,?_⟩
 ·have:=hk.sure;rw [hr,List.length_append,List.length_take];omega
 ·rw [hr];exact List.IsPrefix.trans (List.prefix_append_right_inj _ |>.2 (List.take_prefix _ _)) hk.pre
theorem zhc (hl:LI nm L Y g) (hs:L.synced=L.recs.length) (h1:bstr (snapOf L)=k.s) (h2:L.has=k.has):KW { k with all:=L.recs,sure:=(L.recs.length:Int) } L g:=by
 obtain ⟨h3,h4⟩:=zb1 hl;refine ⟨by rw [<- h3];exact h1,by rw [<- h4];exact h2,rfl,?_⟩;have:=hl.syn;show (L.recs.length:Int) <= _;omega
theorem z8k {l:List StepD} (h:L.bad=true) (hr:playR l L X k L' Y a b):L'=L /\ Y=X /\ a=k /\ b=k:=by
 cases l with
 | nil=>exact hr
 | cons s l =>
  rcases hr with ⟨-,h1⟩ | ⟨h0,-⟩ | ⟨h0,-⟩ | ⟨h0,-⟩ | ⟨h0,-⟩
  ·exact h1
  all_goals exact absurd (h0.symm.trans h) (by decide)
theorem zha {y:Nat} (hk:KW k L g) (hl:LI nm L X g) (hy:y=L.synced) (hf:Log.Left g (L.recs ++ [x]) h):KF { k with all:=k.all ++ [x],sure:=max k.sure (y:Int) } h:=by
 obtain ⟨h1,h2,h3⟩:=hf;have:=hk.sure;have:=hl.syn;refine ⟨by rw [h1];exact hk.s,by rw [h1];exact hk.has,by rw [hk.all];exact h2,?_⟩;show max k.sure (y:Int) <= _;omega
theorem kf_left' (hk:KW k L g) (hf:Log.Left g L.recs h):KF k h:=by
 obtain ⟨h1,h2,h3⟩:=hf;have:=hk.sure;exact ⟨by rw [h1];exact hk.s,by rw [h1];exact hk.has,by rw [hk.all];exact h2,by omega⟩
theorem zdj (h1:h.sn=some x) (h2:h.closed=[]) (h3:h.rs=[]):KF (turnedK x) h:=by
 refine ⟨by rw [h1];rfl,by rw [h1];rfl,by rw [h2,h3];exact List.nil_prefix,?_⟩;show (0:Int) <= _;omega
theorem kw_app {g':Sh} (hk:KW k L g) (hr:L'.recs=L.recs ++ [x]) (hs:g'.sn=g.sn) (hd:g.closed.length + g.du <= g'.closed.length + g'.du) (hl:LI nm L' Y g'):KW { k with all:=k.all ++ [x],sure:=max k.sure (L'.synced:Int) } L' g':=by
 have:=hk.sure;have:=hl.syn;refine ⟨by rw [hs];exact hk.s,by rw [hs];exact hk.has,by rw [hr,<- hk.all],?_⟩;show max k.sure (L'.synced:Int) <= _;omega
theorem kw_syn (hk:KW k L g) (hl:LI nm L X g):KW { k with sure:=(k.all.length:Int) } { L with synced:=L.recs.length } { g with du:=g.rs.length }:=by
 refine ⟨hk.s,hk.has,hk.all,?_⟩;show (k.all.length:Int) <= ((g.closed.length + g.rs.length:Nat):Int)
 rw [hk.all,hl.recs,List.length_append];omega
theorem zhs {l:List StepD}:∀ {L:Lg} {X:Ds} {g:Sh} {k:Ks},LI nm L X g -> KW k L g -> (∀ s ∈ l,Recs [s.b]) -> playR l L X k L' Y a b ->
  (L'.bad=false /\ a=b /\ ∃ g',LI nm L' Y g' /\ KW b L' g') \/ (L'.bad=true /\ In nm Y fun h=>KF a h \/ KF b h):=by
 induction l with
 | nil=>intro L X g k hl hk _ hr;obtain ⟨rfl,rfl,rfl,rfl⟩:=hr;exact .inl ⟨hl.nob,rfl,g,hl,hk⟩
 | cons s l ih =>
  intro L X g k hl hk hs hr;have hx:Recs [s.b]:=hs s (by simp);have ht:∀ t ∈ l,Recs [t.b]:=fun t e=>hs t (by simp [e]);rcases hr with ⟨h0,-⟩ | ⟨-,-,e,L1,Z,r1,p1⟩ | ⟨-,-,e,L1,Z,r1,p1⟩ | ⟨-,-,e,L1,Z,r1,p1⟩ | ⟨-,-,-,-,p1⟩
  ·rw [hl.nob] at h0;cases h0
  ·
   rcases z7z hl hx r1 with ⟨-,-,-,h4,g',h5,h6,h7⟩ | ⟨h1,-,-,h4,h5⟩
   ·exact ih h5 (kw_app hk h4 h6 h7 h5) ht p1
   ·obtain ⟨rfl,rfl,rfl,rfl⟩:=z8k h1 p1;exact .inr ⟨h1,h5.mono fun h hf=>.inl (zha hk hl h4 hf)⟩
  ·
   rcases z7d hl r1 with ⟨e0,rfl,h2⟩ | ⟨e0,rfl,h2⟩
   ·rw [if_pos e0] at p1;exact ih h2 (kw_syn hk hl) ht p1
   ·rw [if_neg e0] at p1;obtain ⟨rfl,rfl,rfl,rfl⟩:=z8k rfl p1;exact .inr ⟨rfl,h2.mono fun h hf=>.inl (by subst hf;exact hk.kf hl)⟩
  ·
   rcases z7g hl hx r1 with ⟨e0,s',n',bm,bs,b',rfl,h3,-⟩ | ⟨e0,rfl,h3⟩
   ·
    rcases p1 with ⟨h0,-⟩ | ⟨-,p1⟩
    ·exact absurd e0 h0
    ·exact ih h3 ⟨rfl,rfl,rfl,by show (0:Int) <= _;omega⟩ ht p1
   ·
    rcases p1 with ⟨-,rfl,rfl,rfl,rfl⟩ | ⟨h0,-⟩
    ·
     refine .inr ⟨rfl,h3.mono fun h hf=>?_⟩;rcases hf with hf | ⟨h1,h2,h4⟩
     ·exact .inl (kf_left' hk hf)
     ·exact .inr (zdj h1 h2 h4)
    ·exact absurd h0 e0
  ·exact ih hl hk ht p1
theorem z7c {w0 w:World} {sa:Option Addr} {sn sc:Nat} {steps:List StepD} {mst:Int} (hs:StepsAt w0 w sa sn sc steps) (hf:Few steps mst):∀ s ∈ steps,Recs [s.b]:=by
 intro s hm y hy;obtain ⟨i,hi⟩:=List.mem_iff_getElem?.1 hm;obtain ⟨b,off,cs,-,⟨vb,vp,-,⟨a,c,-,-,-,-,hz,-⟩,-⟩,-⟩:=hs.2.2.2 i s hi;rw [List.mem_singleton.1 hy];refine ⟨Nat.le_trans ?_ (show 20000 <= mxr by decide),hz⟩;have key:∀ (l:List StepD),(l.map wgt).sum <= 20000 -> ∀ s ∈ l,s.b.length <= 20000:=by
  intro l
  induction l with
  | nil=>intro _ s hs;cases hs
  | cons a l ih =>
   intro hl s hs;simp only [List.map_cons,List.sum_cons] at hl;rcases List.mem_cons.1 hs with rfl | hs
   ·unfold wgt at hl;omega
   ·exact ih (by omega) s hs
 exact key steps hf.2 s hm
end Go.Proofs.YtpjomdmjohjheaaGreatDoor
end
section
namespace Go.Log
open Go.Vfs
variable {nm ot:ByteArray} {L L':Lg} {X Y Z:Ds} {e:Int} {x:List Nat} {g h:Sh} {n q K:Nat} {c:Int} {s t:ByteArray}
theorem zdu {α:Type} [DecidableEq α] {l:List α} (hn:l.Nodup):∀ {m:List α},(∀ x ∈ l,x ∈ m) -> l.length <= m.length:=by
 induction l with
 | nil=>intro m _;exact Nat.zero_le _
 | cons a l ih =>
  intro m h;rw [List.nodup_cons] at hn;have ha:a ∈ m:=h a (by simp);have h1:l.length <= (m.erase a).length:=ih hn.2 fun x hx=>(List.mem_erase_of_ne (fun e:x=a=>hn.1 (e ▸ hx))).2 (h x (by simp [hx]));rw [List.length_erase_of_mem ha] at h1;have:0 < m.length:=List.length_pos_of_mem ha;simp only [List.length_cons];omega
def NM (ot nm:ByteArray) (t:ByteArray):Prop:=t=ot \/ t=manf nm \/ ours nm t=true
theorem nm_seg (k:Nat) (h1:1 <= k) (h2:k <= mxn):NM ot nm (sgf nm k):=.inr (.inr (by unfold ours;rw [z1l nm h1 h2];simp;omega))
theorem nm_man:NM ot nm (manf nm):=.inr (.inl rfl)
end Go.Log
namespace Go.Proofs.YtpjomdmjohjheaaGreatDoor
open Go.Vfs Go.Log
variable {ot:ByteArray} {L L':Lg} {X Y:Ds} {g:Sh} {k a b:Ks} {n q K:Nat} {nm:ByteArray} {x:List Nat} {c:Int}
end Go.Proofs.YtpjomdmjohjheaaGreatDoor
end
section
namespace Go.Proofs.YtpjomdmjohjheaaGreatDoor
open Go.RowKit Go.Lk Go.Vfs Go.Log
theorem agg53:AggT Tryz.prog 53 4:=⟨by kernel_rfl,by kernel_rfl⟩
def Ks.cs (k:Ks) (av:Value):Array Value:=#[.string k.s,.bool k.has,av,.int .i64 k.sure]
theorem Ks.one (k:Ks) {a:Option Addr} {n c:Nat}:∀ u ∈ (k.cs (.slice a n c)).toList,u.oneCell'=true:=by
 intro u hu;simp only [Ks.cs,List.mem_cons,List.not_mem_nil,or_false] at hu;rcases hu with rfl | rfl | rfl | rfl <;> rfl
theorem z5e (l:List StepD) (k:Nat):((l.take k).map wgt).sum <= (l.map wgt).sum:=by
 have e:l.map wgt=(l.take k).map wgt ++ (l.drop k).map wgt:=by rw [<- List.map_append,List.take_append_drop]
 rw [e,List.sum_append];omega
theorem hb53 (s:ByteArray) (w:World):(Instr.build 53 #[(0,.string s),(1,.bool true)]).run Tryz.prog w=.ok (.agg #[.string s,.bool true,.slice none 0 0,.int .i64 0]) w:=by kernel_rfl
def OwnE (E:Nat -> Prop) (W0:World) (O:Nat -> Prop):Nat -> Prop:=fun k=>k < W0.heap.size \/ (O k /\ ¬ E k)
def PlayE (E:Nat -> Prop) (W0 w:World) (l d:Nat) (O:Nat -> Prop) (steps:List StepD) (L:Lg) (X:Ds) (K:Ks) (e:Ending) (w':World):Prop :=
 ∃ Ka Kb va vb L' Y O' t,e=.returned (.tuple #[Ka.v va,Kb.v vb]) /\ LS W0 w' l d L' Y O' /\ (∀ k,O k -> O' k) /\ RB w' (OwnE E W0 O') va Ka.all /\ RB w' (OwnE E W0 O') vb Kb.all /\ playR steps L X K L' Y Ka Kb /\ PB L X steps.length t L' Y /\ t <= 20000 /\ Keeps (Oth W0 O) w w'
def PlayD (W0 w:World) (l d:Nat) (O:Nat -> Prop) (steps:List StepD) (L:Lg) (X:Ds) (K:Ks) (e:Ending) (w':World):Prop :=
 ∃ Ka Kb va vb L' Y O' t,e=.returned (.tuple #[Ka.v va,Kb.v vb]) /\ LS W0 w' l d L' Y O' /\ (∀ k,O k -> O' k) /\ RB w' (Own W0 O') va Ka.all /\ RB w' (Own W0 O') vb Kb.all /\ playR steps L X K L' Y Ka Kb /\ PB L X steps.length t L' Y /\ t <= 20000 /\ Keeps (Oth W0 O) w w'
def OwnK (E:Nat -> Prop) (W0:World) (O:Nat -> Prop) (b4 b6 b7:Nat):Nat -> Prop:=fun k=>k < W0.heap.size \/ (O k /\ k ≠ b4 /\ k ≠ b6 /\ k ≠ b7 /\ ¬ E k)
def PlI (E:Nat -> Prop) (W0 w:World) (l d:Nat) (O:Nat -> Prop) (steps:List StepD) (L:Lg) (X:Ds) (K:Ks) (b4 b6 b7:Nat) (i:Nat) (wr:World):Prop :=
 ∃ Li Xi Ki O1 a c,LS W0 wr l d Li Xi O1 /\ (∀ k,O k \/ k=b4 \/ k=b6 \/ k=b7 -> O1 k) /\ wr.heap[b4]?=some (.cells (Ki.cs (.slice a Ki.all.length c)) 53 (0,0)) /\ (∃ z6,wr.heap[b6]?=some (.cells z6 53 (0,0)) /\ z6.size=4) /\ (∃ z7,wr.heap[b7]?=some (.cells z7 53 (0,0)) /\ z7.size=4) /\
  RB wr (OwnK E W0 O1 b4 b6 b7) (.slice a Ki.all.length c) Ki.all /\ (∀ L' Y Ka Kb,playR (steps.drop i) Li Xi Ki L' Y Ka Kb -> playR steps L X K L' Y Ka Kb) /\ PB L X i ((steps.take i).map wgt).sum Li Xi /\ Ki.all.length <= K.all.length + i /\ Keeps (Oth W0 O) w wr
theorem _root_.Go.Log.LS.lt {W0 w:World} {l d:Nat} {L:Lg} {X:Ds} {O:Nat -> Prop} (h:LS W0 w l d L X O) {k:Nat} (hk:O k):k < w.heap.size:=by obtain ⟨_,_,_,_,-,h2,-⟩:=h.ex;exact (h2 k hk).1
theorem z4f {E:Nat -> Prop} {W0 w w':World} {O:Nat -> Prop} {b4 b6 b7:Nat} (hk:Keeps (Oth W0 O) w w'):∀ k,OwnK E W0 O b4 b6 b7 k -> ¬ Oth W0 O k:=fun k e f=>by
 rcases e with e | e
 ·have:=f.1;omega
 ·exact f.2 e.1
theorem z65 {E:Nat -> Prop} {W0 w wr wd:World} {l d b4 b6 b7 k t:Nat} {L Li:Lg} {X Xi:Ds} {O O1:Nat -> Prop} {K Ka Kb:Ks} {steps:List StepD} {va vb:Value} (h1:LS W0 wr l d Li Xi O1) (h2:∀ k,O k \/ k=b4 \/ k=b6 \/ k=b7 -> O1 k) (ha:RB wr (OwnK E W0 O1 b4 b6 b7) va Ka.all) (hb:RB wr (OwnK E W0 O1 b4 b6 b7) vb Kb.all)
  (hR:playR steps L X K Li Xi Ka Kb) (hp:PB L X k t Li Xi) (hk:k <= steps.length) (ht:t <= 20000) (kw:Keeps (Oth W0 O) w wr) (kd:Keeps (fun b=>b=b6 \/ b=b7) wr wd) (hO6:¬ O b6 /\ ¬ O b7) (h6:W0.heap.size <= b6 /\ W0.heap.size <= b7):PlayE E W0 w l d O steps L X K (.returned (.tuple #[Ka.v va,Kb.v vb])) wd:=by
 have hn:∀ k,OwnK E W0 O1 b4 b6 b7 k -> ¬ (k=b6 \/ k=b7):=fun k e f=>by
  rcases e with e | e
  ·omega
  ·exact f.elim e.2.2.1 e.2.2.2.1
 have ho:∀ k,OwnK E W0 O1 b4 b6 b7 k -> OwnE E W0 O1 k:=fun k e=>e.imp id fun e=>⟨e.1,e.2.2.2.2⟩
 obtain ⟨p1,p2,p3,p4⟩:=hp;refine ⟨Ka,Kb,va,vb,Li,Xi,O1,t,rfl,h1.set kd (fun k e=>⟨h2 k (.inr (.inr e)),by omega⟩),fun k e=>h2 k (.inl e),(ha.keeps kd hn).mono ho,(hb.keeps kd hn).mono ho,hR,⟨by omega,by omega,by omega,by omega⟩,ht,kw.trans kd fun j hj e=>⟨by omega,fun f=>?_⟩⟩;rcases e with rfl | rfl
 ·exact hO6.1 f
 ·exact hO6.2 f
theorem z3r {P:Program} {fn:Func} {p q:Tmp} {ty T T':TypeId} {g g' n:Nat} {cs cs':Array Value} {fr fr':Nat × Nat} {w:World} (A:AggT P ty n) (h:fn.results=#[.cell p ty,.cell q ty]) (tmps:Array Value) (hp:tmps.getD p undef=.pointer (some ⟨g,0,none⟩)) (hq:tmps.getD q undef=.pointer (some ⟨g',0,none⟩))
  (hg:w.heap[g]?=some (.cells cs T fr)) (hn:cs.size=n) (hg':w.heap[g']?=some (.cells cs' T' fr')) (hn':cs'.size=n):(results fn tmps).run P w=.ok (.tuple #[.agg cs,.agg cs']) w:=by
 have hp':tmps[p]?.getD undef=.pointer (some ⟨g,0,none⟩):=by simpa using hp
 have hq':tmps[q]?.getD undef=.pointer (some ⟨g',0,none⟩):=by simpa using hq
 have hl:=z2j (w:=w) (off:=0) A hg (by omega);rw [Nat.zero_add,<- hn,Array.extract_size] at hl;have hl':=z2j (w:=w) (off:=0) A hg' (by omega);rw [Nat.zero_add,<- hn',Array.extract_size] at hl';simp [results,h,hp',hq',asAddr,hl,hl',Sem.run_bind,Result.andThen_ok,Sem.run_pure]
theorem z9r {E:Nat -> Prop} {W0 w:World} {l d:Nat} {L:Lg} {X:Ds} {O:Nat -> Prop} (h:LS W0 w l d L X O) (hE:∀ k,E k -> k < w.heap.size) (K:Ks) (kv:Value) (hk:RB w (OwnE E W0 O) kv K.all) (sa:Option Addr) (sc:Nat) (steps:List StepD) (hs:StepsAt W0 W0 sa steps.length sc steps) (hfew:(steps.map wgt).sum <= 20000) (hok:PlayOk L X steps.length) (hka:K.all.length + steps.length <= 3000000000000) :
  Calls Tryz.prog 28 #[.pointer (some ⟨l,0,none⟩),K.v kv,.slice sa steps.length sc] w (PlayE E W0 w l d O steps L X K):=by
 obtain ⟨m,hm⟩:∃ m,steps.length=m:=⟨_,rfl⟩
 have H:=qq h;have HE:=qq hE;have HK:=qq hk;have HST:=qq hs;have HF:=qq hfew;have HO:=qq hok;have HM:=qq hm;have HKA:=qq hka;obtain ⟨ka,kc,kvs,rfl,-⟩:=id hk;have hmc:m <= sc /\ sc <= 9223372036854775807:=by have h1:=hs.2.1;have h2:=hs.2.2.1;unfold maxLen at h2;omega
 rw [hm];clear h hE hk hs hfew hok hm hka;show Calls Tryz.prog 28 #[.pointer (some ⟨l,0,none⟩),.agg (K.cs (.slice ka K.all.length kc)),.slice sa m sc] w _;go_enter Tryz.func28,Tryz.ntmps28;go_wp2_with (first | go_skip | (with_reducible refine qv (by decide) ?_))
 refine za (vbox rfl ?_);intro b4 w1 n4;simp only [Nat.reduceAdd,qn];go_wp2_with (first | go_skip | (with_reducible refine qv (by decide) ?_))
 refine za (valloc (z:=.agg #[.string ByteArray.empty,.bool false,.slice none 0 0,.int .i64 0]) (by kernel_rfl) ?_);intro b6 w2 n6;simp only [Nat.reduceAdd,qn];go_wp2_with (first | go_skip | (with_reducible refine qv (by decide) ?_))
 refine za (valloc (z:=.agg #[.string ByteArray.empty,.bool false,.slice none 0 0,.int .i64 0]) (by kernel_rfl) ?_);intro b7 w3 n7;simp only [Nat.reduceAdd,qn];have L46:b4 < b6:=by have:=n4.lt;have:=n6.ge;omega
 have L67:b6 < b7:=by have:=n6.lt;have:=n7.ge;omega
 have G4:Hid (w.heap.size <= b4):=qq n4.ge
 have I0:Hid (PlI E W0 w l d O steps L X K b4 b6 b7 0 w3):=qq (by
  have k3:=(n4.k.trans_nb n6.k).trans_nb n7.k;have hlt7:b7 < w3.heap.size:=n7.lt;have hge:=n4.ge
  refine ⟨L,X,K,fun k=>O k \/ (k=b4 \/ k=b6 \/ k=b7),ka,kc,H.out.add k3 (fun k e=>by omega),fun k e=>e,n7.k.nb (n6.k.nb n4.blk),⟨_,n7.k.nb n6.blk,rfl⟩,⟨_,n7.blk,rfl⟩,(HK.out.keeps k3 (fun _ _ e=>e)).mono (fun k e=>e.imp id fun e=>⟨.inl e.1,by have:=H.out.lt e.1;omega,by have:=H.out.lt e.1;omega,by have:=H.out.lt e.1;omega,e.2⟩),fun L' Y Ka Kb h=>by rw [List.drop_zero] at h;exact h,by simpa using PB.refl L X,Nat.le_refl _,k3.of_nb⟩)
 clear n4 n6 n7;go_wp2
 go_loopw [8] (fun i wr=>∃ k:Nat,k <= m /\ i=.int .i64 k /\ PlI E W0 w l d O steps L X K b4 b6 b7 k wr) (fun i _=>m - (intOf i).toNat)
 case atStart=>exact ⟨0,Nat.zero_le _,rfl,I0.out⟩
 case round =>
  obtain ⟨k,hk,rfl,Li,Xi,Ki,O1,a,c,q1,q2,q3,q4,q5,q6,q7,q8,q8a,q9⟩:=hrel;have H1:=qq q1;have H2:=qq q2;have H3:=qq q3;have H4:=qq q4;have H5:=qq q5;have H6:=qq q6;have H7:=qq q7;have H8:=qq q8;have HA8:=qq q8a;have H9:=qq q9;clear q1 q2 q3 q4 q5 q6 q7 q8 q8a q9 I0;have RO:=qq (ls_ro H1.out);by_cases hlt:k < m
  ·
   have i1:(k:Int) < (m:Int):=by omega
   obtain ⟨bd,hbd⟩:∃ b,Li.bad=b:=⟨_,rfl⟩
   have HBD:=qq hbd;rw [hbd] at RO;clear hbd;go_wp2_with fail;refine RO.out.mono ?_;rintro _ _ ⟨rfl,rfl⟩;clear RO;cases bd with
   | true =>
    go_wp2;obtain ⟨z6,hz6,hs6⟩:=H4.out;obtain ⟨z7,hz7,hs7⟩:=H5.out;have HZ6:=qq hz6;have HZ7:=qq hz7;have HS6:=qq hs6;have HS7:=qq hs7;clear hz6 hz7 hs6 hs7;refine WT.region (fun u=>u.heap[b4]?=some (.cells (Ki.cs (.slice a Ki.all.length c)) 53 (0,0))) 3 4 [0,1,2,3] (by kernel_rfl) rfl ?_;have HS:Hid ((fun u:World=>u.heap[b4]?=some (.cells (Ki.cs (.slice a Ki.all.length c)) 53 (0,0))) wr.drew):=qq H3.out;refine WT.t 0 (v:=(.agg (Ki.cs (.slice a Ki.all.length c)))) (y:=by rintro w C1;exact zy agg53 (by rfl) (zm C1) rfl) (s:=HS.out) (h:=?_);refine WT.t 1 (v:=(.agg (Ki.cs (.slice a Ki.all.length c)))) (y:=by rintro w C1;exact zy agg53 (by rfl) (zm C1) rfl) (s:=HS.out) (h:=?_);refine WT.onlySkipE 2 (by simp only [qi];rfl) (by kernel_rfl) (by rfl) (zd (w:=wr.drew) (v:=.agg (Ki.cs (.slice a Ki.all.length c))) (n:=4) (by kernel_rfl) (by rfl) (by rfl) HZ6.out (by rfl) (by rw [HS6.out];exact Nat.le_refl _) (Ki.one)) ?_;intro wa s6;replace HS:Hid ((fun u:World=>u.heap[b4]?=some (.cells (Ki.cs (.slice a Ki.all.length c)) 53 (0,0))) wa):=qq (s6.k.at (w:=wr.drew) H3.out (fun e=>by omega));refine ⟨HS.out,?_⟩;simp only [Nat.reduceAdd,qn];refine WT.stop (by kernel_rfl) ?_;refine WP.onlySkipE 3 (by simp only [qi];rfl) (by kernel_rfl) (by rfl) (zd (v:=.agg (Ki.cs (.slice a Ki.all.length c))) (n:=4) (by kernel_rfl) (by rfl) (by rfl) (s6.k.at (w:=wr.drew) HZ7.out (fun e=>by omega)) (by rfl) (by rw [HS7.out];exact Nat.le_refl _) (Ki.one)) ?_;intro wb s7;simp only [Nat.reduceAdd,qn];refine WP.done (by kernel_rfl) ?_;have Z6:Hid (wb.heap[b6]?=some (.cells (Ki.cs (.slice a Ki.all.length c)) 53 (0,0))):=qq (s7.k.at (by have:=s6.blk;rw [show splice z6 (Value.agg (Ki.cs (.slice a Ki.all.length c))).cells 0=Ki.cs (.slice a Ki.all.length c) from z01 (by rw [HS6.out];rfl)] at this;exact this) (fun e=>by omega));have Z7:Hid (wb.heap[b7]?=some (.cells (Ki.cs (.slice a Ki.all.length c)) 53 (0,0))):=qq (by have:=s7.blk;rw [show splice z7 (Value.agg (Ki.cs (.slice a Ki.all.length c))).cells 0=Ki.cs (.slice a Ki.all.length c) from z01 (by rw [HS7.out];rfl)] at this;exact this);have KD:Hid (Keeps (fun b=>b=b6 \/ b=b7) wr wb):=qq ((((Keeps.refl (fun b=>b=b6 \/ b=b7) wr).drew).trans s6.k (fun _ _ e=>.inl e)).trans s7.k (fun _ _ e=>.inr e));clear s6 s7 HS;go_wp2;refine bodyPost_ret (z3r agg53 rfl _ rfl rfl Z6.out rfl Z7.out rfl) rfl ?_;have hz:=H.out.k.size;have htk:((steps.take k).map wgt).sum <= 20000:=Nat.le_trans (z5e steps k) HF.out;exact z65 (b4:=b4) H1.out H2.out H6.out H6.out (H7.out _ _ _ _ (ze2 HBD.out)) H8.out (by rw [HM.out];omega) htk H9.out KD.out (by have:=G4.out;exact ⟨fun e=>by have:=H.out.lt e;omega,fun e=>by have:=H.out.lt e;omega⟩) (by have:=G4.out;omega)
   | false =>
    obtain ⟨s,hs⟩:∃ s,steps[k]?=some s:=⟨_,List.getElem?_eq_getElem (by rw [HM.out];exact hlt)⟩
    have HSK:=qq hs;have hdrop:steps.drop k=s :: steps.drop (k + 1):=by
     rw [List.drop_eq_getElem_cons (List.getElem?_eq_some_iff.1 hs).1,(List.getElem?_eq_some_iff.1 hs).2]
    have htake:((steps.take (k + 1)).map wgt).sum=((steps.take k).map wgt).sum + wgt s:=by
     rw [List.take_succ_eq_append_getElem (List.getElem?_eq_some_iff.1 hs).1,(List.getElem?_eq_some_iff.1 hs).2];simp
    have HDR:=qq hdrop;have HTK:=qq htake;have HWG:Hid (((steps.take (k + 1)).map wgt).sum <= 20000):=qq (Nat.le_trans (z5e steps (k + 1)) HF.out);obtain ⟨sb,so,cs,rfl,⟨vb,vp,rfl,hvb,-⟩,hh⟩:=HST.out.2.2.2 k s hs;have HVB:=qq hvb;have HHS:=qq hh;obtain ⟨ba,bc,rfl,-⟩:=hvb.rows;have cs0:∀ j u,(stc s (.slice ba s.b.length bc) vp)[j]?=some u -> ∀ wx,Keeps Nb W0 wx -> wx.cell? ⟨sb,so + k * 6 + j,none⟩=some u:=fun j u hj wx kx=>by
     rcases hh with h | ⟨b',o',e,hc⟩
     ·cases h
     ·cases e;exact (kx.cell (lt_of_cell (hc j u hj)) (fun e=>e)).trans (hc j u hj)
    have CS:=qq cs0;have c0:wr.cell? ⟨sb,so + k * 6,none⟩=some (.int .i64 s.kind):=cs0 0 _ rfl wr H1.out.k;have i64:IntKind.i64.wrap ((k:Int) + 1)=((k + 1:Nat):Int):=by rw [IntWalk.i64_in _ (by omega)];rfl
    obtain ⟨kd,hkd⟩:∃ n,s.kind=n:=⟨_,rfl⟩
    rw [hkd] at c0;have HKD:=qq hkd;clear hs hdrop htake hh hvb cs0 hkd;by_cases hk1:kd=1
    ·
     subst hk1;have HCELLS:Hid (∀ wx,Keeps Nb wr wx -> wx.cell? ⟨sb,so + k * 6 + 4,none⟩=some (.slice ba s.b.length bc)):=qq fun wx kx=>CS.out 4 _ rfl wx (H1.out.k.trans_nb kx);obtain ⟨bn,hbn⟩:∃ n,s.b.length=n:=⟨_,rfl⟩
     have HBN:=qq hbn;rw [hbn] at HCELLS;obtain ⟨a',c',vs,e',g1,g2,g3,g4,g5⟩:=id H6.out;cases e';have hone:∀ u ∈ vs,u.oneCell'=true:=fun u hu=>by
      obtain ⟨i,hi⟩:=List.getElem?_of_mem hu;obtain ⟨x,hx⟩:∃ x,Ki.all[i]?=some x:=⟨_,List.getElem?_eq_getElem (by rw [<- g5.1];exact (List.getElem?_eq_some_iff.1 hi).1)⟩
      obtain ⟨_,_,rfl,-⟩:=g5.2 i u x hi hx;rfl
     obtain ⟨n,hn⟩:∃ n,Ki.all.length=n:=⟨_,rfl⟩
     have HNA:=qq hn;have hvl:vs.length=n * 1:=by rw [g5.1,hn];omega
     have HVL:=qq hvl;have HONE:=qq hone;have HG3:=qq g3;have HG5:=qq g5;have HG4:=qq g4;have hnb:n <= 3000000000000:=by have h1:=HA8.out;have h2:=HKA.out;rw [HM.out] at h2;omega
     have H3':Hid (wr.heap[b4]?=some (.cells (Ki.cs (.slice a n c)) 53 (0,0))):=qq (by rw [<- hn];exact H3.out);clear hbn hn hvl hone g1 g2 g3 g4 g5;go_wp2;refine WT.region (fun u:World=>u.heap[b4]?=some (.cells (Ki.cs (.slice a n c)) 53 (0,0)) /\ u.cell? ⟨sb,so + k * 6 + 4,none⟩=some (.slice ba bn bc)) 10 12 [0,1,3,4,5,6,7,2,8,9,10,11] (by kernel_rfl) rfl ?_;obtain ⟨x0,hx0⟩:∃ u,u=wr.drew:=⟨_,rfl⟩
     have K_x0:Hid (Keeps Nb wr x0):=qq (by rw [hx0];exact (Keeps.refl _ wr).drew);rw [<- hx0];clear hx0;have HS:Hid ((fun u:World=>u.heap[b4]?=some (.cells (Ki.cs (.slice a n c)) 53 (0,0)) /\ u.cell? ⟨sb,so + k * 6 + 4,none⟩=some (.slice ba bn bc)) x0):=qq ⟨K_x0.out.nb H3'.out,HCELLS.out _ K_x0.out⟩;refine WT.t 0 (v:=_) (y:=by rintro w ⟨C1,C2⟩;go_simp;with_reducible rfl) (s:=HS.out) (h:=?_);refine WT.t 1 (v:=.slice a n c) (y:=by rintro w ⟨C1,C2⟩;exact zb (by kernel_rfl) (by rfl) ((cell_of_block C1).trans rfl)) (s:=HS.out) (h:=?_);refine WT.t 3 (v:=_) (y:=by rintro w ⟨C1,C2⟩;go_simp;with_reducible rfl) (s:=HS.out) (h:=?_);refine WT.t 4 (v:=_) (y:=by rintro w ⟨C1,C2⟩;go_simp;with_reducible rfl) (s:=HS.out) (h:=?_);refine WT.t 5 (v:=_) (y:=by rintro w ⟨C1,C2⟩;go_simp;with_reducible rfl) (s:=HS.out) (h:=?_);refine WT.t 6 (v:=_) (y:=by rintro w ⟨C1,C2⟩;go_simp;with_reducible rfl) (s:=HS.out) (h:=?_);refine WT.t 7 (v:=.slice ba bn bc) (y:=by rintro w ⟨C1,C2⟩;exact zb (by kernel_rfl) (by rfl) C2) (s:=HS.out) (h:=?_);refine WT.forkE 2 8 [0,1,3,4,5,6,7,8,2,9,10,11] (by simp only [qi];rfl) (by simp only [qi];rfl) (by kernel_rfl) (by rfl) (by rfl) (re_push' el27 (RowS.nil x0 (fun _=>False) (fun _=>False) 22 1) (by rfl) (by rfl) (HG3.out.nb K_x0.out) HVL.out HONE.out (by unfold maxLen;omega) (by omega)) (zl el27 [.slice ba bn bc] rfl (by simp [List.range'_succ];first | done | rfl | exact ⟨rfl,rfl⟩ | exact ⟨rfl,rfl,rfl⟩ | exact ⟨rfl,rfl,rfl,rfl⟩ | exact ⟨rfl,rfl,rfl,rfl,rfl⟩ | exact ⟨rfl,rfl,rfl,rfl,rfl,rfl⟩) (by simp [Value.cells]) (by simp)) ?_ ?_
     ·
      rintro v2 x1 ⟨hr2,S2,k2,hS2⟩;have K_x1:Hid (Keeps Nb wr x1):=qq (K_x0.out.trans_nb (k2.mono fun j _ e=>(hS2 j e).1.elim))
      have HR2:Hid (RowS x1 (fun k=>wr.heap.size <= k /\ k < x1.heap.size) (fun _=>False) 22 1 v2 n vs):=qq (by
       have z:=K_x0.out.size;have:=hr2.mono (F':=fun k=>wr.heap.size <= k /\ k < x1.heap.size) (fun k e=>e.elim (fun e=>e.elim) (fun e=>⟨by omega,e.2⟩)) (fun _ e=>e)
       rw [Nat.zero_add,List.nil_append] at this;exact this)
      clear hr2 k2 hS2;replace HS:Hid ((fun u:World=>u.heap[b4]?=some (.cells (Ki.cs (.slice a n c)) 53 (0,0)) /\ u.cell? ⟨sb,so + k * 6 + 4,none⟩=some (.slice ba bn bc)) x1):=qq ⟨K_x1.out.nb H3'.out,HCELLS.out _ K_x1.out⟩;refine ⟨HS.out,?_⟩;simp only [Nat.reduceAdd,qn];refine WT.o 8 (y:=zl el27 [.slice ba bn bc] rfl (by simp [List.range'_succ];first | done | rfl | exact ⟨rfl,rfl⟩ | exact ⟨rfl,rfl,rfl⟩ | exact ⟨rfl,rfl,rfl,rfl⟩ | exact ⟨rfl,rfl,rfl,rfl,rfl⟩ | exact ⟨rfl,rfl,rfl,rfl,rfl,rfl⟩) (by simp [Value.cells]) (by simp)) (h:=?_);rintro _ x2 ⟨g8,rfl,n8⟩;have K_x2:Hid (Keeps Nb wr x2):=qq (K_x1.out.trans_nb n8.k);have HH8:Hid (Has x2 (some ⟨g8,0,none⟩) [.slice ba bn bc]):=qq (zm n8.blk);replace HR2:Hid (RowS x2 (fun k=>wr.heap.size <= k /\ k < x2.heap.size) (fun _=>False) 22 1 v2 n vs):=qq ((HR2.out.keeps n8.k (fun _ _ _ e=>e)).mono (fun k e=>⟨e.1,by have:=e.2;have:=n8.k.size;omega⟩) (fun _ e=>e));clear n8;replace HS:Hid ((fun u:World=>u.heap[b4]?=some (.cells (Ki.cs (.slice a n c)) 53 (0,0)) /\ u.cell? ⟨sb,so + k * 6 + 4,none⟩=some (.slice ba bn bc)) x2):=qq ⟨K_x2.out.nb H3'.out,HCELLS.out _ K_x2.out⟩;refine ⟨HS.out,?_⟩;simp only [Nat.reduceAdd,qn];refine WT.o 9 (y:=re_push' el27 HR2.out (by rfl) (by rfl) HH8.out rfl (by intro u hu;rw [List.mem_singleton.1 hu];rfl) (by unfold maxLen;omega) (by omega)) (h:=?_);rintro v3 x3 ⟨hr3,S3,k3,hS3⟩;have K_x3:Hid (Keeps Nb wr x3):=qq (K_x2.out.trans k3 fun j hj e=>by have:=(hS3 j e).1.1;omega)
      have HR3:Hid (RowS x3 (fun k=>wr.heap.size <= k /\ k < x3.heap.size) (fun _=>False) 22 1 v3 (n + 1) (vs ++ [.slice ba bn bc])):=qq (by
       have z:=K_x2.out.size;have z3:=k3.size
       exact hr3.mono (fun k e=>e.elim (fun e=>⟨e.1,by have:=e.2;omega⟩) (fun e=>⟨by omega,e.2⟩)) (fun _ e=>e))
      obtain ⟨-,-,a3,c3,rfl,-⟩:=id hr3;clear hr3 k3 hS3 HR2 HH8;replace HS:Hid ((fun u:World=>u.heap[b4]?=some (.cells (Ki.cs (.slice a n c)) 53 (0,0)) /\ u.cell? ⟨sb,so + k * 6 + 4,none⟩=some (.slice ba bn bc)) x3):=qq ⟨K_x3.out.nb H3'.out,HCELLS.out _ K_x3.out⟩;refine ⟨HS.out,?_⟩;simp only [Nat.reduceAdd,qn];refine WT.stop (by kernel_rfl) ?_;refine WP.o 10 (v:=_) (y:=by go_simp;first | with_reducible rfl | exact ⟨rfl,rfl⟩) (h:=?_);refine WP.onlySkipE 11 (by simp only [qi];rfl) (by kernel_rfl) (by rfl) (zd (v:=.slice a3 (n + 1) c3) (n:=1) (by kernel_rfl) (by rfl) (by rfl) (K_x3.out.nb H3'.out) (by rfl) (by simp [Value.cells,Ks.cs]) (by simp [Value.cells,Value.oneCell'])) ?_;intro x4 s4;simp only [Nat.reduceAdd,qn];refine WP.done (by kernel_rfl) ?_;have hz:=H.out.k.size;have hg4:=G4.out;have hb4r:b4 < wr.heap.size:=H1.out.lt (H2.out b4 (.inr (.inl rfl)));have HL4:Hid (LS W0 x4 l d Li Xi fun k=>O1 k \/ (wr.heap.size <= k /\ k < x3.heap.size)):=qq ((H1.out.add K_x3.out (N:=fun k=>wr.heap.size <= k /\ k < x3.heap.size) (fun k e=>e)).set s4.k (fun k e=>by have e:k=b4:=e;subst e;exact ⟨.inl (H2.out _ (.inr (.inl rfl))),by omega⟩));have B44:Hid (x4.heap[b4]?=some (.cells (Ks.cs { Ki with all:=Ki.all ++ [s.b] } (.slice a3 (n + 1) c3)) 53 (0,0))):=qq s4.blk;have K4:Hid (Keeps (·=b4) wr x4):=qq (K_x3.out.of_nb.trans s4.k (fun _ _ e=>e))
      have RB4:Hid (RB x4 (OwnK E W0 (fun k=>O1 k \/ (wr.heap.size <= k /\ k < x3.heap.size)) b4 b6 b7) (.slice a3 (n + 1) c3) (Ki.all ++ [s.b])):=qq (by
       have hl:(Ki.all ++ [s.b]).length=n + 1:=by rw [List.length_append,HNA.out];rfl
       have h6:=H1.out.lt (H2.out b6 (.inr (.inr (.inl rfl))));have h7:=H1.out.lt (H2.out b7 (.inr (.inr (.inr rfl))));have h1:RB x3 (OwnK E W0 (fun k=>O1 k \/ (wr.heap.size <= k /\ k < x3.heap.size)) b4 b6 b7) (.slice a3 (n + 1) c3) (Ki.all ++ [s.b]):=by
        refine RB.of (vs:=vs ++ [.slice ba bn bc]) (by rw [hl];exact HR3.out) (((HG5.out.keeps K_x3.out (fun _ _ e=>e)).mono fun k e=>e.imp id fun e=>⟨.inl e.1,e.2⟩).append (.cons ?_ (.nil _ _))) (fun k e=>.inr ⟨.inr e,by omega,by omega,by omega,fun f=>by have:=HE.out k f;have:=H9.out.size;omega⟩) (fun _ e=>e);rw [<- HBN.out];exact (HVB.out.keeps (H1.out.k.trans_nb K_x3.out) (fun _ _ e=>e)).mono (fun k e=>.inl e)
       refine h1.keeps s4.k (fun k e f=>?_);have f:k=b4:=f;subst f;rcases e with e | e
       ·omega
       ·exact e.2.1 rfl)
      have c4:x4.cell? ⟨sb,so + k * 6 + 4,none⟩=some (.slice ba bn bc):=by rw [<- HBN.out];exact CS.out 4 _ rfl x4 HL4.out.k
      have hp0:=HO.out;have hp8:=H8.out;have AP:=qq (z2n HL4.out (v:=.slice ba bn bc) (bs:=s.b) (by rw [<- HBN.out];exact (HVB.out.keeps HL4.out.k (fun _ _ e=>e)).mono (fun k e=>.inl e)) (by have h1:=hp0.pot;have h2:=hp8.pot;rw [HM.out] at h1;omega) (by have h1:=hp0.segs;have h2:=hp8.segs;rw [HM.out] at h1;omega) (by have h1:=hp0.recs;have h2:=hp8.recs;rw [HM.out] at h1;omega) (by have h1:=hp0.size;have h2:=hp8.size;have h3:=HWG.out;have h4:=HTK.out;rw [HM.out] at h1;omega));clear s4 HS hp0 hp8 hz hg4 hb4r;go_wp2_with fail;refine AP.out.mono ?_;rintro _ w7 ⟨er,L7,X7,rfl,hl7,hr7,hp7,hk7⟩;have H7':=qq hl7;have HR7:=qq hr7
      have HPB:Hid (PB L X (k + 1) ((steps.take (k + 1)).map wgt).sum L7 X7):=qq (by
       obtain ⟨p1,p2,p3,p4⟩:=H8.out.app hr7 hp7;rw [HTK.out];have hw:wgt s=s.b.length + s.name.size + s.picks.length:=rfl
       exact ⟨p1,p2,p3,by omega⟩)
      have B4:=qq (Oth.at hk7 B44.out (.inl (H2.out b4 (.inr (.inl rfl)))));have B6:Hid (∃ z6,w7.heap[b6]?=some (.cells z6 53 (0,0)) /\ z6.size=4):=qq (by obtain ⟨z,h1,h2⟩:=H4.out;exact ⟨z,Oth.at hk7 (K4.out.at h1 (fun e=>by omega)) (.inl (H2.out b6 (.inr (.inr (.inl rfl))))),h2⟩);have B7:Hid (∃ z7,w7.heap[b7]?=some (.cells z7 53 (0,0)) /\ z7.size=4):=qq (by obtain ⟨z,h1,h2⟩:=H5.out;exact ⟨z,Oth.at hk7 (K4.out.at h1 (fun e=>by omega)) (.inl (H2.out b7 (.inr (.inr (.inr rfl))))),h2⟩);have RB7:=qq (RB4.out.keeps hk7 (z4f hk7));have KW7:Hid (Keeps (Oth W0 O) w w7):=qq ((H9.out.trans K4.out (fun j hj e=>by have e:j=b4:=e;subst e;have:=H.out.k.size;have:=G4.out;exact ⟨by omega,fun f=>by have:=H.out.lt f;omega⟩)).trans hk7 (fun j hj e=>⟨e.1,fun f=>e.2 (.inl (H2.out j (.inl f)))⟩));have HSUB:Hid (∀ k,O k \/ k=b4 \/ k=b6 \/ k=b7 -> O1 k \/ (wr.heap.size <= k /\ k < x3.heap.size)):=qq fun k e=>.inl (H2.out k e);clear hl7 hr7 hp7 hk7 AP c4 B44;go_wp2;refine WT.region (fun u=>u.heap[b4]?=some (.cells (Ks.cs { Ki with all:=Ki.all ++ [s.b] } (.slice a3 (n + 1) c3)) 53 (0,0))) 5 7 [0,1,2,3,4,5,6] (by kernel_rfl) rfl ?_;have HS:Hid ((fun u:World=>u.heap[b4]?=some (.cells (Ks.cs { Ki with all:=Ki.all ++ [s.b] } (.slice a3 (n + 1) c3)) 53 (0,0))) w7.drew):=qq B4.out;have SQ:=qq (z8g (H7'.out.nb (Keeps.refl Nb w7).drew));refine WT.t 0 (v:=_) (y:=by rintro w C1;go_simp;with_reducible rfl) (s:=HS.out) (h:=?_);refine WT.t 1 (v:=.int .i64 Ki.sure) (y:=by rintro w C1;exact zb (by kernel_rfl) (by rfl) ((cell_of_block C1).trans rfl)) (s:=HS.out) (h:=?_);refine WT.t 2 (v:=_) (y:=by rintro w C1;go_simp;with_reducible rfl) (s:=HS.out) (h:=?_);refine WT.call 3 (by simp only [qi];rfl) (by kernel_rfl) (by rfl) (by go_simp;first | done | rfl | exact ⟨⟨rfl,rfl⟩,rfl⟩ | exact ⟨⟨rfl,rfl,rfl⟩,rfl⟩ | exact ⟨⟨rfl,rfl,rfl,rfl⟩,rfl⟩ | exact ⟨⟨rfl,rfl,rfl,rfl,rfl⟩,rfl⟩) SQ.out ?_;rintro _ _ ⟨rfl,rfl⟩;refine ⟨_,rfl,HS.out,?_⟩;simp only [Nat.reduceAdd,qn];refine WT.t 4 (v:=.int .i64 (max Ki.sure (L7.synced:Int))) (y:=by rintro w C1;go_simp;first | done | rfl | with_reducible rfl) (s:=HS.out) (h:=?_);refine WT.stop (by kernel_rfl) ?_;refine WP.o 5 (v:=_) (y:=by go_simp;first | with_reducible rfl | exact ⟨rfl,rfl⟩) (h:=?_);refine WP.onlySkipE 6 (by simp only [qi];rfl) (by kernel_rfl) (by rfl) (zd (w:=w7.drew) (v:=.int .i64 (max Ki.sure (L7.synced:Int))) (n:=1) (by kernel_rfl) (by rfl) (by rfl) B4.out (by rfl) (by simp [Value.cells,Ks.cs]) (by simp [Value.cells,Value.oneCell'])) ?_;intro w8 s8;simp only [Nat.reduceAdd,qn];refine WP.done (by kernel_rfl) ?_
      have HI:Hid (PlI E W0 w l d O steps L X K b4 b6 b7 (k + 1) w8):=qq (by
       have hz:=H.out.k.size;have hg4:=G4.out;have hl:(Ki.all ++ [s.b]).length=n + 1:=by rw [List.length_append,HNA.out];rfl
       have hk8:Keeps (·=b4) w7 w8:=((Keeps.refl (·=b4) w7).drew).trans s8.k (fun _ _ e=>e);refine ⟨L7,X7,{ Ki with all:=Ki.all ++ [s.b],sure:=max Ki.sure (L7.synced:Int) },_,a3,c3,H7'.out.set hk8 (fun k e=>by have e:k=b4:=e;subst e;exact ⟨HSUB.out _ (.inr (.inl rfl)),by omega⟩),HSUB.out,?_,?_,?_,?_,fun L' Y Ka Kb h=>H7.out _ _ _ _ (by rw [HDR.out];exact .inr (.inl ⟨HBD.out,HKD.out,er,L7,X7,HR7.out,h⟩)),HPB.out,(by show (Ki.all ++ [s.b]).length <= _;rw [hl];have:=HA8.out;rw [HNA.out] at this;omega),KW7.out.trans hk8 (fun j hj e=>by have e:j=b4:=e;subst e;exact ⟨by omega,fun f=>by have:=H.out.lt f;omega⟩)⟩
       ·show w8.heap[b4]?=some (.cells (Ks.cs _ (.slice a3 (Ki.all ++ [s.b]).length c3)) 53 (0,0));rw [hl];exact s8.blk
       ·obtain ⟨z,h1,h2⟩:=B6.out;exact ⟨z,hk8.at h1 (fun e=>by have e:b6=b4:=e;omega),h2⟩
       ·obtain ⟨z,h1,h2⟩:=B7.out;exact ⟨z,hk8.at h1 (fun e=>by have e:b7=b4:=e;omega),h2⟩
       ·
        show RB w8 _ (.slice a3 (Ki.all ++ [s.b]).length c3) (Ki.all ++ [s.b]);rw [hl];refine RB7.out.keeps hk8 (fun k e f=>?_);have f:k=b4:=f;subst f;rcases e with e | e
        ·omega
        ·exact e.2.1 rfl)
      clear s8 HS SQ;go_wp2;go_roundw
      case rel=>exact ⟨k + 1,by omega,by go_num,HI.out⟩
      case measure=>simp [intOf];omega
     ·
      rintro _ x1 ⟨g8,rfl,n8⟩;have K_x1:Hid (Keeps Nb wr x1):=qq (K_x0.out.trans_nb n8.k);have HH8:Hid (Has x1 (some ⟨g8,0,none⟩) [.slice ba bn bc]):=qq (zm n8.blk);clear n8;replace HS:Hid ((fun u:World=>u.heap[b4]?=some (.cells (Ki.cs (.slice a n c)) 53 (0,0)) /\ u.cell? ⟨sb,so + k * 6 + 4,none⟩=some (.slice ba bn bc)) x1):=qq ⟨K_x1.out.nb H3'.out,HCELLS.out _ K_x1.out⟩;refine ⟨HS.out,?_⟩;simp only [Nat.reduceAdd,qn];refine WT.o 2 (y:=re_push' el27 (RowS.nil x1 (fun _=>False) (fun _=>False) 22 1) (by rfl) (by rfl) (HG3.out.nb K_x1.out) HVL.out HONE.out (by unfold maxLen;omega) (by omega)) (h:=?_);rintro v2 x2 ⟨hr2,S2,k2,hS2⟩;have k12:Keeps Nb x1 x2:=k2.mono fun j _ e=>(hS2 j e).1.elim;have K_x2:Hid (Keeps Nb wr x2):=qq (K_x1.out.trans_nb k12)
      have HR2:Hid (RowS x2 (fun k=>wr.heap.size <= k /\ k < x2.heap.size) (fun _=>False) 22 1 v2 n vs):=qq (by
       have z:=K_x1.out.size;have:=hr2.mono (F':=fun k=>wr.heap.size <= k /\ k < x2.heap.size) (fun k e=>e.elim (fun e=>e.elim) (fun e=>⟨by omega,e.2⟩)) (fun _ e=>e)
       rw [Nat.zero_add,List.nil_append] at this;exact this)
      replace HH8:=qq (HH8.out.nb k12);clear hr2 k2 hS2 k12;replace HS:Hid ((fun u:World=>u.heap[b4]?=some (.cells (Ki.cs (.slice a n c)) 53 (0,0)) /\ u.cell? ⟨sb,so + k * 6 + 4,none⟩=some (.slice ba bn bc)) x2):=qq ⟨K_x2.out.nb H3'.out,HCELLS.out _ K_x2.out⟩;refine ⟨HS.out,?_⟩;simp only [Nat.reduceAdd,qn];refine WT.o 9 (y:=re_push' el27 HR2.out (by rfl) (by rfl) HH8.out rfl (by intro u hu;rw [List.mem_singleton.1 hu];rfl) (by unfold maxLen;omega) (by omega)) (h:=?_);rintro v3 x3 ⟨hr3,S3,k3,hS3⟩;have K_x3:Hid (Keeps Nb wr x3):=qq (K_x2.out.trans k3 fun j hj e=>by have:=(hS3 j e).1.1;omega)
      have HR3:Hid (RowS x3 (fun k=>wr.heap.size <= k /\ k < x3.heap.size) (fun _=>False) 22 1 v3 (n + 1) (vs ++ [.slice ba bn bc])):=qq (by
       have z:=K_x2.out.size;have z3:=k3.size
       exact hr3.mono (fun k e=>e.elim (fun e=>⟨e.1,by have:=e.2;omega⟩) (fun e=>⟨by omega,e.2⟩)) (fun _ e=>e))
      obtain ⟨-,-,a3,c3,rfl,-⟩:=id hr3;clear hr3 k3 hS3 HR2 HH8;replace HS:Hid ((fun u:World=>u.heap[b4]?=some (.cells (Ki.cs (.slice a n c)) 53 (0,0)) /\ u.cell? ⟨sb,so + k * 6 + 4,none⟩=some (.slice ba bn bc)) x3):=qq ⟨K_x3.out.nb H3'.out,HCELLS.out _ K_x3.out⟩;refine ⟨HS.out,?_⟩;simp only [Nat.reduceAdd,qn];refine WT.stop (by kernel_rfl) ?_;refine WP.o 10 (v:=_) (y:=by go_simp;first | with_reducible rfl | exact ⟨rfl,rfl⟩) (h:=?_);refine WP.onlySkipE 11 (by simp only [qi];rfl) (by kernel_rfl) (by rfl) (zd (v:=.slice a3 (n + 1) c3) (n:=1) (by kernel_rfl) (by rfl) (by rfl) (K_x3.out.nb H3'.out) (by rfl) (by simp [Value.cells,Ks.cs]) (by simp [Value.cells,Value.oneCell'])) ?_;intro x4 s4;simp only [Nat.reduceAdd,qn];refine WP.done (by kernel_rfl) ?_;have hz:=H.out.k.size;have hg4:=G4.out;have hb4r:b4 < wr.heap.size:=H1.out.lt (H2.out b4 (.inr (.inl rfl)));have HL4:Hid (LS W0 x4 l d Li Xi fun k=>O1 k \/ (wr.heap.size <= k /\ k < x3.heap.size)):=qq ((H1.out.add K_x3.out (N:=fun k=>wr.heap.size <= k /\ k < x3.heap.size) (fun k e=>e)).set s4.k (fun k e=>by have e:k=b4:=e;subst e;exact ⟨.inl (H2.out _ (.inr (.inl rfl))),by omega⟩));have B44:Hid (x4.heap[b4]?=some (.cells (Ks.cs { Ki with all:=Ki.all ++ [s.b] } (.slice a3 (n + 1) c3)) 53 (0,0))):=qq s4.blk;have K4:Hid (Keeps (·=b4) wr x4):=qq (K_x3.out.of_nb.trans s4.k (fun _ _ e=>e))
      have RB4:Hid (RB x4 (OwnK E W0 (fun k=>O1 k \/ (wr.heap.size <= k /\ k < x3.heap.size)) b4 b6 b7) (.slice a3 (n + 1) c3) (Ki.all ++ [s.b])):=qq (by
       have hl:(Ki.all ++ [s.b]).length=n + 1:=by rw [List.length_append,HNA.out];rfl
       have h6:=H1.out.lt (H2.out b6 (.inr (.inr (.inl rfl))));have h7:=H1.out.lt (H2.out b7 (.inr (.inr (.inr rfl))));have h1:RB x3 (OwnK E W0 (fun k=>O1 k \/ (wr.heap.size <= k /\ k < x3.heap.size)) b4 b6 b7) (.slice a3 (n + 1) c3) (Ki.all ++ [s.b]):=by
        refine RB.of (vs:=vs ++ [.slice ba bn bc]) (by rw [hl];exact HR3.out) (((HG5.out.keeps K_x3.out (fun _ _ e=>e)).mono fun k e=>e.imp id fun e=>⟨.inl e.1,e.2⟩).append (.cons ?_ (.nil _ _))) (fun k e=>.inr ⟨.inr e,by omega,by omega,by omega,fun f=>by have:=HE.out k f;have:=H9.out.size;omega⟩) (fun _ e=>e);rw [<- HBN.out];exact (HVB.out.keeps (H1.out.k.trans_nb K_x3.out) (fun _ _ e=>e)).mono (fun k e=>.inl e)
       refine h1.keeps s4.k (fun k e f=>?_);have f:k=b4:=f;subst f;rcases e with e | e
       ·omega
       ·exact e.2.1 rfl)
      have c4:x4.cell? ⟨sb,so + k * 6 + 4,none⟩=some (.slice ba bn bc):=by rw [<- HBN.out];exact CS.out 4 _ rfl x4 HL4.out.k
      have hp0:=HO.out;have hp8:=H8.out;have AP:=qq (z2n HL4.out (v:=.slice ba bn bc) (bs:=s.b) (by rw [<- HBN.out];exact (HVB.out.keeps HL4.out.k (fun _ _ e=>e)).mono (fun k e=>.inl e)) (by have h1:=hp0.pot;have h2:=hp8.pot;rw [HM.out] at h1;omega) (by have h1:=hp0.segs;have h2:=hp8.segs;rw [HM.out] at h1;omega) (by have h1:=hp0.recs;have h2:=hp8.recs;rw [HM.out] at h1;omega) (by have h1:=hp0.size;have h2:=hp8.size;have h3:=HWG.out;have h4:=HTK.out;rw [HM.out] at h1;omega));clear s4 HS hp0 hp8 hz hg4 hb4r;go_wp2_with fail;refine AP.out.mono ?_;rintro _ w7 ⟨er,L7,X7,rfl,hl7,hr7,hp7,hk7⟩;have H7':=qq hl7;have HR7:=qq hr7
      have HPB:Hid (PB L X (k + 1) ((steps.take (k + 1)).map wgt).sum L7 X7):=qq (by
       obtain ⟨p1,p2,p3,p4⟩:=H8.out.app hr7 hp7;rw [HTK.out];have hw:wgt s=s.b.length + s.name.size + s.picks.length:=rfl
       exact ⟨p1,p2,p3,by omega⟩)
      have B4:=qq (Oth.at hk7 B44.out (.inl (H2.out b4 (.inr (.inl rfl)))));have B6:Hid (∃ z6,w7.heap[b6]?=some (.cells z6 53 (0,0)) /\ z6.size=4):=qq (by obtain ⟨z,h1,h2⟩:=H4.out;exact ⟨z,Oth.at hk7 (K4.out.at h1 (fun e=>by omega)) (.inl (H2.out b6 (.inr (.inr (.inl rfl))))),h2⟩);have B7:Hid (∃ z7,w7.heap[b7]?=some (.cells z7 53 (0,0)) /\ z7.size=4):=qq (by obtain ⟨z,h1,h2⟩:=H5.out;exact ⟨z,Oth.at hk7 (K4.out.at h1 (fun e=>by omega)) (.inl (H2.out b7 (.inr (.inr (.inr rfl))))),h2⟩);have RB7:=qq (RB4.out.keeps hk7 (z4f hk7));have KW7:Hid (Keeps (Oth W0 O) w w7):=qq ((H9.out.trans K4.out (fun j hj e=>by have e:j=b4:=e;subst e;have:=H.out.k.size;have:=G4.out;exact ⟨by omega,fun f=>by have:=H.out.lt f;omega⟩)).trans hk7 (fun j hj e=>⟨e.1,fun f=>e.2 (.inl (H2.out j (.inl f)))⟩));have HSUB:Hid (∀ k,O k \/ k=b4 \/ k=b6 \/ k=b7 -> O1 k \/ (wr.heap.size <= k /\ k < x3.heap.size)):=qq fun k e=>.inl (H2.out k e);clear hl7 hr7 hp7 hk7 AP c4 B44;go_wp2;refine WT.region (fun u=>u.heap[b4]?=some (.cells (Ks.cs { Ki with all:=Ki.all ++ [s.b] } (.slice a3 (n + 1) c3)) 53 (0,0))) 5 7 [0,1,2,3,4,5,6] (by kernel_rfl) rfl ?_;have HS:Hid ((fun u:World=>u.heap[b4]?=some (.cells (Ks.cs { Ki with all:=Ki.all ++ [s.b] } (.slice a3 (n + 1) c3)) 53 (0,0))) w7.drew):=qq B4.out;have SQ:=qq (z8g (H7'.out.nb (Keeps.refl Nb w7).drew));refine WT.t 0 (v:=_) (y:=by rintro w C1;go_simp;with_reducible rfl) (s:=HS.out) (h:=?_);refine WT.t 1 (v:=.int .i64 Ki.sure) (y:=by rintro w C1;exact zb (by kernel_rfl) (by rfl) ((cell_of_block C1).trans rfl)) (s:=HS.out) (h:=?_);refine WT.t 2 (v:=_) (y:=by rintro w C1;go_simp;with_reducible rfl) (s:=HS.out) (h:=?_);refine WT.call 3 (by simp only [qi];rfl) (by kernel_rfl) (by rfl) (by go_simp;first | done | rfl | exact ⟨⟨rfl,rfl⟩,rfl⟩ | exact ⟨⟨rfl,rfl,rfl⟩,rfl⟩ | exact ⟨⟨rfl,rfl,rfl,rfl⟩,rfl⟩ | exact ⟨⟨rfl,rfl,rfl,rfl,rfl⟩,rfl⟩) SQ.out ?_;rintro _ _ ⟨rfl,rfl⟩;refine ⟨_,rfl,HS.out,?_⟩;simp only [Nat.reduceAdd,qn];refine WT.t 4 (v:=.int .i64 (max Ki.sure (L7.synced:Int))) (y:=by rintro w C1;go_simp;first | done | rfl | with_reducible rfl) (s:=HS.out) (h:=?_);refine WT.stop (by kernel_rfl) ?_;refine WP.o 5 (v:=_) (y:=by go_simp;first | with_reducible rfl | exact ⟨rfl,rfl⟩) (h:=?_);refine WP.onlySkipE 6 (by simp only [qi];rfl) (by kernel_rfl) (by rfl) (zd (w:=w7.drew) (v:=.int .i64 (max Ki.sure (L7.synced:Int))) (n:=1) (by kernel_rfl) (by rfl) (by rfl) B4.out (by rfl) (by simp [Value.cells,Ks.cs]) (by simp [Value.cells,Value.oneCell'])) ?_;intro w8 s8;simp only [Nat.reduceAdd,qn];refine WP.done (by kernel_rfl) ?_
      have HI:Hid (PlI E W0 w l d O steps L X K b4 b6 b7 (k + 1) w8):=qq (by
       have hz:=H.out.k.size;have hg4:=G4.out;have hl:(Ki.all ++ [s.b]).length=n + 1:=by rw [List.length_append,HNA.out];rfl
       have hk8:Keeps (·=b4) w7 w8:=((Keeps.refl (·=b4) w7).drew).trans s8.k (fun _ _ e=>e);refine ⟨L7,X7,{ Ki with all:=Ki.all ++ [s.b],sure:=max Ki.sure (L7.synced:Int) },_,a3,c3,H7'.out.set hk8 (fun k e=>by have e:k=b4:=e;subst e;exact ⟨HSUB.out _ (.inr (.inl rfl)),by omega⟩),HSUB.out,?_,?_,?_,?_,fun L' Y Ka Kb h=>H7.out _ _ _ _ (by rw [HDR.out];exact .inr (.inl ⟨HBD.out,HKD.out,er,L7,X7,HR7.out,h⟩)),HPB.out,(by show (Ki.all ++ [s.b]).length <= _;rw [hl];have:=HA8.out;rw [HNA.out] at this;omega),KW7.out.trans hk8 (fun j hj e=>by have e:j=b4:=e;subst e;exact ⟨by omega,fun f=>by have:=H.out.lt f;omega⟩)⟩
       ·show w8.heap[b4]?=some (.cells (Ks.cs _ (.slice a3 (Ki.all ++ [s.b]).length c3)) 53 (0,0));rw [hl];exact s8.blk
       ·obtain ⟨z,h1,h2⟩:=B6.out;exact ⟨z,hk8.at h1 (fun e=>by have e:b6=b4:=e;omega),h2⟩
       ·obtain ⟨z,h1,h2⟩:=B7.out;exact ⟨z,hk8.at h1 (fun e=>by have e:b7=b4:=e;omega),h2⟩
       ·
        show RB w8 _ (.slice a3 (Ki.all ++ [s.b]).length c3) (Ki.all ++ [s.b]);rw [hl];refine RB7.out.keeps hk8 (fun k e f=>?_);have f:k=b4:=f;subst f;rcases e with e | e
        ·omega
        ·exact e.2.1 rfl)
      clear s8 HS SQ;go_wp2;go_roundw
      case rel=>exact ⟨k + 1,by omega,by go_num,HI.out⟩
      case measure=>simp [intOf];omega
    ·
     by_cases hk2:kd=2
     ·
      subst hk2;have hp8:=H8.out.pot;have hp0:=HO.out.pot;have SY:=qq (z7n H1.out (by rw [HM.out] at hp0;omega));clear hp8 hp0 hk1;go_wp2_with fail;refine SY.out.mono ?_;rintro _ w5 ⟨er,L5,X5,rfl,hl5,hr5,hp5,hk5⟩;have H5':=qq hl5;have B4:=qq (Oth.at hk5 H3.out (H2.out b4 (.inr (.inl rfl))));have B6:Hid (∃ z6,w5.heap[b6]?=some (.cells z6 53 (0,0)) /\ z6.size=4):=qq (by obtain ⟨z,h1,h2⟩:=H4.out;exact ⟨z,Oth.at hk5 h1 (H2.out b6 (.inr (.inr (.inl rfl)))),h2⟩);have B7:Hid (∃ z7,w5.heap[b7]?=some (.cells z7 53 (0,0)) /\ z7.size=4):=qq (by obtain ⟨z,h1,h2⟩:=H5.out;exact ⟨z,Oth.at hk5 h1 (H2.out b7 (.inr (.inr (.inr rfl)))),h2⟩);have RB5:=qq (H6.out.keeps hk5 (z4f hk5));have KW5:Hid (Keeps (Oth W0 O) w w5):=qq (H9.out.trans hk5 (fun j hj e=>⟨e.1,fun f=>e.2 (H2.out j (.inl f))⟩));clear hl5 hk5;have HPB:Hid (PB L X (k + 1) ((steps.take (k + 1)).map wgt).sum L5 X5):=qq (by rw [HTK.out];exact H8.out.syn hr5 hp5 _);have HR5:=qq hr5;clear hr5 hp5 SY;go_wp2_with fail;refine (z0r er w5).mono ?_;rintro _ _ ⟨rfl,rfl⟩;by_cases her:er=0
      ·
       subst her;have c2:w5.cell? ⟨b4,2,none⟩=some (.slice a Ki.all.length c):=(cell_of_block B4.out).trans rfl;go_wp2_with (first | go_skip | (with_reducible refine qv (by decide) ?_))
       refine za (zc rfl (zd (v:=.int .i64 (Ki.all.length:Nat)) (n:=1) (by kernel_rfl) (by rfl) (by rfl) B4.out (by rfl) (by simp [Value.cells,Ks.cs]) (by simp [Value.cells,Value.oneCell'])) ?_);intro w6 s6;simp only [Nat.reduceAdd,qn]
       have HN:Hid (LS W0 w6 l d L5 X5 O1 /\ w6.heap[b4]?=some (.cells (Ks.cs { Ki with sure:=(Ki.all.length:Int) } (.slice a Ki.all.length c)) 53 (0,0)) /\ (∃ z6,w6.heap[b6]?=some (.cells z6 53 (0,0)) /\ z6.size=4) /\ (∃ z7,w6.heap[b7]?=some (.cells z7 53 (0,0)) /\ z7.size=4) /\ RB w6 (OwnK E W0 O1 b4 b6 b7) (.slice a Ki.all.length c) (Ks.all { Ki with sure:=(Ki.all.length:Int) }) /\ Keeps (Oth W0 O) w w6):=qq (by
        have hz:=H.out.k.size;have hg4:=G4.out;refine ⟨H5'.out.set s6.k (fun k e=>by have e:k=b4:=e;subst e;exact ⟨H2.out _ (.inr (.inl rfl)),by omega⟩),s6.blk,?_,?_,RB5.out.keeps s6.k (fun k e f=>?_),KW5.out.trans s6.k (fun j hj e=>by have e:j=b4:=e;subst e;exact ⟨by omega,fun f=>by have:=H.out.lt f;omega⟩)⟩
        ·obtain ⟨z,h1,h2⟩:=B6.out;exact ⟨z,s6.k.at h1 (fun e=>by have e:b6=b4:=e;omega),h2⟩
        ·obtain ⟨z,h1,h2⟩:=B7.out;exact ⟨z,s6.k.at h1 (fun e=>by have e:b7=b4:=e;omega),h2⟩
        ·
         have f:k=b4:=f;subst f;rcases e with e | e
         ·omega
         ·exact e.2.1 rfl)
       have HI:Hid (PlI E W0 w l d O steps L X K b4 b6 b7 (k + 1) w6):=qq ⟨L5,X5,{ Ki with sure:=(Ki.all.length:Int) },O1,a,c,HN.out.1,H2.out,HN.out.2.1,HN.out.2.2.1,HN.out.2.2.2.1,HN.out.2.2.2.2.1,fun L' Y Ka Kb h=>H7.out _ _ _ _ (by rw [HDR.out];exact .inr (.inr (.inl ⟨HBD.out,HKD.out,0,L5,X5,HR5.out,by rw [if_pos rfl];exact h⟩))),HPB.out,(by have:=HA8.out;show Ki.all.length <= _;omega),HN.out.2.2.2.2.2⟩;clear s6 c2;go_wp2;go_roundw
       case rel=>exact ⟨k + 1,by omega,by go_num,HI.out⟩
       case measure=>simp [intOf];omega
      ·
       have t0:(er == 0)=false:=by simpa using her
       have HI:Hid (PlI E W0 w l d O steps L X K b4 b6 b7 (k + 1) w5):=qq ⟨L5,X5,Ki,O1,a,c,H5'.out,H2.out,B4.out,B6.out,B7.out,RB5.out,fun L' Y Ka Kb h=>H7.out _ _ _ _ (by rw [HDR.out];exact .inr (.inr (.inl ⟨HBD.out,HKD.out,er,L5,X5,HR5.out,by rw [if_neg her];exact h⟩))),HPB.out,(by have:=HA8.out;omega),KW5.out⟩;clear her;go_wp2;go_roundw
       case rel=>exact ⟨k + 1,by omega,by go_num,HI.out⟩
       case measure=>simp [intOf];omega
     ·
      by_cases hk3:kd=3
      ·
       subst hk3;have n1:((3:Int) == 1)=false:=rfl;have c4:wr.cell? ⟨sb,so + k * 6 + 4,none⟩=some (.slice ba s.b.length bc):=CS.out 4 _ rfl wr H1.out.k;have HB53:=qq hb53;obtain ⟨bn,hbn⟩:∃ n,s.b.length=n:=⟨_,rfl⟩
       obtain ⟨bl,hbl⟩:∃ x,bstr s.b=x:=⟨_,rfl⟩
       have HBN:=qq hbn;have HBL:=qq hbl;rw [hbn] at c4
       have HH4:Hid (Has wr ba (s.b.map fun z=>.int .u8 (z:Nat))):=qq (by
        obtain ⟨a',c',e,_,_,hr,_⟩:=HVB.out
        cases e;exact (hr.nb H1.out.k).has)
       clear hbn hbl hk1 hk2;have b53:=hb53;go_wp2_with (first | go_skip | (with_reducible refine zx (s:=22) ?_))
       refine za (zn (v:=.string bl) rfl (by rw [<- HBL.out];exact z3d Tryz.underlying22 Tryz.underlying5 Tryz.underlying9 (by rfl) HH4.out HBN.out) ?_);simp only [Nat.reduceAdd,qn];go_wp2_with (first | go_skip | (with_reducible refine qv (by decide) ?_))
       refine za (valloc (z:=.agg #[.string ByteArray.empty,.bool false,.slice none 0 0,.int .i64 0]) (by kernel_rfl) ?_);intro b9 w5 n5;simp only [Nat.reduceAdd,qn];go_wp2_with (first | go_skip | (with_reducible refine qv (by decide) ?_))
       refine za (zc rfl (zd (v:=.agg #[.string bl,.bool true,.slice none 0 0,.int .i64 0]) (n:=4) (by kernel_rfl) (by rfl) (by rfl) n5.blk (by rfl) (by simp [Value.cells]) (by simp [Value.cells,Value.oneCell'])) ?_);intro w6 s6;simp only [Nat.reduceAdd,qn];have hn9:wr.heap.size <= b9:=n5.ge;have hk6:Keeps Nb wr w6:=n5.k.own (k:=b9) hn9 s6.k;have h9lt:b9 < w6.heap.size:=lt_of_block s6.blk;have HL6:=qq (H1.out.add (N:=fun k=>k=b9) hk6 (fun k e=>by omega))
       have C9:Hid (w6.heap[b9]?=some (.cells (Ks.cs (turnedK s.b) (.slice none 0 0)) 53 (0,0))):=qq (by
        have h1:=s6.blk;rw [show splice (Value.agg #[.string ByteArray.empty,.bool false,.slice none 0 0,.int .i64 0]).cells (Value.agg #[.string bl,.bool true,.slice none 0 0,.int .i64 0]).cells 0=#[.string bl,.bool true,.slice none 0 0,.int .i64 0] from rfl] at h1
        rw [h1,<- HBL.out];rfl)
       have K6:=qq hk6;have hp0:=HO.out.pot;have hp8:=H8.out.pot;have c46:w6.cell? ⟨sb,so + k * 6 + 4,none⟩=some (.slice ba bn bc):=(hk6.cell (lt_of_cell c4) (fun e=>e)).trans c4;have hvb6:Bytes w6 (Own W0 fun k=>O1 k \/ k=b9) (.slice ba bn bc) s.b:=by rw [<- HBN.out];exact (HVB.out.keeps HL6.out.k (fun _ _ e=>e)).mono (fun k e=>.inl e)
       have TN:=qq (zb3 HL6.out hvb6 (by rw [HM.out] at hp0;omega));have HG9:=qq hn9;clear n5 s6 hk6 hn9 h9lt hp0 hp8 c4 hvb6 b53;go_wp2_with fail;refine TN.out.mono ?_;rintro _ w7 ⟨er,L7,X7,rfl,hl7,hr7,hp7,hk7⟩;have HL7:=qq hl7;have HR7:=qq hr7;have HK7:=qq hk7;have HPB:Hid (PB L X (k + 1) ((steps.take (k + 1)).map wgt).sum L7 X7):=qq (by rw [HTK.out];exact H8.out.turn hr7 hp7 _);have B4:=qq (Oth.at hk7 (K6.out.nb H3.out) (.inl (H2.out b4 (.inr (.inl rfl)))));have B6:Hid (∃ z6,w7.heap[b6]?=some (.cells z6 53 (0,0)) /\ z6.size=4):=qq (by obtain ⟨z,h1,h2⟩:=H4.out;exact ⟨z,Oth.at hk7 (K6.out.nb h1) (.inl (H2.out b6 (.inr (.inr (.inl rfl))))),h2⟩);have B7:Hid (∃ z7,w7.heap[b7]?=some (.cells z7 53 (0,0)) /\ z7.size=4):=qq (by obtain ⟨z,h1,h2⟩:=H5.out;exact ⟨z,Oth.at hk7 (K6.out.nb h1) (.inl (H2.out b7 (.inr (.inr (.inr rfl))))),h2⟩);have B9:=qq (Oth.at hk7 C9.out (.inr rfl));have hb9n:b9 ≠ b4 /\ b9 ≠ b6 /\ b9 ≠ b7:=by
        have:=HG9.out;have h4:=H1.out.lt (H2.out b4 (.inr (.inl rfl)));have h6:=H1.out.lt (H2.out b6 (.inr (.inr (.inl rfl))));have h7:=H1.out.lt (H2.out b7 (.inr (.inr (.inr rfl))));omega
       have RB7:Hid (RB w7 (OwnK E W0 (fun k=>O1 k \/ k=b9) b4 b6 b7) (.slice a Ki.all.length c) Ki.all):=qq (((H6.out.keeps K6.out (fun _ _ e=>e)).mono (fun k e=>e.imp id fun e=>⟨.inl e.1,e.2⟩)).keeps hk7 (z4f hk7));have RBT:Hid (RB w7 (OwnK E W0 (fun k=>O1 k \/ k=b9) b4 b6 b7) (.slice none 0 0) []):=qq ⟨none,0,[],rfl,Nat.le_refl _,Nat.zero_le _,.inl rfl,(fun _ _ e=>by cases e),.nil _ _⟩;have KW7:Hid (Keeps (Oth W0 O) w w7):=qq ((H9.out.trans_nb K6.out).trans hk7 (fun j hj e=>⟨e.1,fun f=>e.2 (.inl (H2.out j (.inl f)))⟩));have HSUB:Hid (∀ k,O k \/ k=b4 \/ k=b6 \/ k=b7 -> O1 k \/ k=b9):=qq fun k e=>.inl (H2.out k e);clear hl7 hr7 hp7 hk7 TN c46;go_wp2_with fail;refine (z0r er w7).mono ?_;rintro _ _ ⟨rfl,rfl⟩;by_cases her:er=0
       ·
        subst her;have t0:((0:Int) != 0)=false:=rfl;go_wp2_with (first | go_skip | (with_reducible refine z06 (t:=53) ?_) | (with_reducible refine zf ?_))
        refine za (zn (v:=.agg (Ks.cs (turnedK s.b) (.slice none 0 0))) rfl (zy agg53 (by rfl) (zm B9.out) rfl) ?_);simp only [Nat.reduceAdd,qn];go_wp2_with (first | go_skip | (with_reducible refine z06 (t:=53) ?_) | (with_reducible refine zf ?_))
        refine za (zc rfl (zd (v:=.agg (Ks.cs (turnedK s.b) (.slice none 0 0))) (n:=4) (by kernel_rfl) (by rfl) (by rfl) B4.out (by rfl) (by simp [Ks.cs]) (Ks.one _)) ?_);intro w8 s8;simp only [Nat.reduceAdd,qn]
        have HI:Hid (PlI E W0 w l d O steps L X K b4 b6 b7 (k + 1) w8):=qq (by
         have hz:=H.out.k.size;have hg4:=G4.out;refine ⟨L7,X7,turnedK s.b,_,none,0,HL7.out.set s8.k (fun k e=>by have e:k=b4:=e;subst e;exact ⟨HSUB.out _ (.inr (.inl rfl)),by omega⟩),HSUB.out,?_,?_,?_,RBT.out.keeps s8.k (fun k e f=>?_),fun L' Y Ka Kb h=>H7.out _ _ _ _ (by rw [HDR.out];exact .inr (.inr (.inr (.inl ⟨HBD.out,HKD.out,0,L7,X7,HR7.out,.inr ⟨rfl,h⟩⟩)))),HPB.out,Nat.zero_le _,KW7.out.trans s8.k (fun j hj e=>by have e:j=b4:=e;subst e;exact ⟨by omega,fun f=>by have:=H.out.lt f;omega⟩)⟩
         ·have:=s8.blk;rw [show splice (Ki.cs (.slice a Ki.all.length c)) (Value.agg (Ks.cs (turnedK s.b) (.slice none 0 0))).cells 0=Ks.cs (turnedK s.b) (.slice none 0 0) from z01 rfl] at this;exact this
         ·obtain ⟨z,h1,h2⟩:=B6.out;exact ⟨z,s8.k.at h1 (fun e=>by have e:b6=b4:=e;omega),h2⟩
         ·obtain ⟨z,h1,h2⟩:=B7.out;exact ⟨z,s8.k.at h1 (fun e=>by have e:b7=b4:=e;omega),h2⟩
         ·
          have f:k=b4:=f;subst f;rcases e with e | e
          ·omega
          ·exact e.2.1 rfl)
        clear s8;go_wp2;go_roundw
        case rel=>exact ⟨k + 1,by omega,by go_num,HI.out⟩
        case measure=>simp [intOf];omega
       ·
        have t0:(er != 0)=true:=by simpa using her
        have HER:=qq her;clear her;go_wp2;obtain ⟨z6,hz6,hs6⟩:=B6.out;obtain ⟨z7,hz7,hs7⟩:=B7.out;have HZ6:=qq hz6;have HZ7:=qq hz7;have HS6:=qq hs6;have HS7:=qq hs7;clear hz6 hz7 hs6 hs7;refine WT.region (fun u=>u.heap[b4]?=some (.cells (Ki.cs (.slice a Ki.all.length c)) 53 (0,0)) /\ u.heap[b9]?=some (.cells (Ks.cs (turnedK s.b) (.slice none 0 0)) 53 (0,0))) 3 4 [0,1,2,3] (by kernel_rfl) rfl ?_;have HS:Hid ((fun u:World=>u.heap[b4]?=some (.cells (Ki.cs (.slice a Ki.all.length c)) 53 (0,0)) /\ u.heap[b9]?=some (.cells (Ks.cs (turnedK s.b) (.slice none 0 0)) 53 (0,0))) w7.drew):=qq ⟨B4.out,B9.out⟩;refine WT.t 0 (v:=.agg (Ki.cs (.slice a Ki.all.length c))) (y:=by rintro w ⟨C1,C2⟩;exact zy agg53 (by rfl) (zm C1) rfl) (s:=HS.out) (h:=?_);refine WT.t 1 (v:=.agg (Ks.cs (turnedK s.b) (.slice none 0 0))) (y:=by rintro w ⟨C1,C2⟩;exact zy agg53 (by rfl) (zm C2) rfl) (s:=HS.out) (h:=?_);refine WT.onlySkipE 2 (by simp only [qi];rfl) (by kernel_rfl) (by rfl) (zd (w:=w7.drew) (v:=.agg (Ki.cs (.slice a Ki.all.length c))) (n:=4) (by kernel_rfl) (by rfl) (by rfl) HZ6.out (by rfl) (by rw [HS6.out];exact Nat.le_refl _) (Ki.one)) ?_;intro wa s6;replace HS:Hid ((fun u:World=>u.heap[b4]?=some (.cells (Ki.cs (.slice a Ki.all.length c)) 53 (0,0)) /\ u.heap[b9]?=some (.cells (Ks.cs (turnedK s.b) (.slice none 0 0)) 53 (0,0))) wa):=qq ⟨s6.k.at (w:=w7.drew) B4.out (fun e=>by omega),s6.k.at (w:=w7.drew) B9.out (fun e=>hb9n.2.1 e)⟩;refine ⟨HS.out,?_⟩;simp only [Nat.reduceAdd,qn];refine WT.stop (by kernel_rfl) ?_;refine WP.onlySkipE 3 (by simp only [qi];rfl) (by kernel_rfl) (by rfl) (zd (v:=.agg (Ks.cs (turnedK s.b) (.slice none 0 0))) (n:=4) (by kernel_rfl) (by rfl) (by rfl) (s6.k.at (w:=w7.drew) HZ7.out (fun e=>by omega)) (by rfl) (by rw [HS7.out];exact Nat.le_refl _) (Ks.one _)) ?_;intro wb s7;simp only [Nat.reduceAdd,qn];refine WP.done (by kernel_rfl) ?_;have Z6:Hid (wb.heap[b6]?=some (.cells (Ki.cs (.slice a Ki.all.length c)) 53 (0,0))):=qq (s7.k.at (by have:=s6.blk;rw [show splice z6 (Value.agg (Ki.cs (.slice a Ki.all.length c))).cells 0=Ki.cs (.slice a Ki.all.length c) from z01 (by rw [HS6.out];rfl)] at this;exact this) (fun e=>by omega));have Z7:Hid (wb.heap[b7]?=some (.cells (Ks.cs (turnedK s.b) (.slice none 0 0)) 53 (0,0))):=qq (by have:=s7.blk;rw [show splice z7 (Value.agg (Ks.cs (turnedK s.b) (.slice none 0 0))).cells 0=Ks.cs (turnedK s.b) (.slice none 0 0) from z01 (by rw [HS7.out];rfl)] at this;exact this);have KD:Hid (Keeps (fun b=>b=b6 \/ b=b7) w7 wb):=qq ((((Keeps.refl (fun b=>b=b6 \/ b=b7) w7).drew).trans s6.k (fun _ _ e=>.inl e)).trans s7.k (fun _ _ e=>.inr e));clear s6 s7 HS;go_wp2;refine bodyPost_ret (z3r agg53 rfl _ rfl rfl Z6.out rfl Z7.out rfl) rfl ?_;have hz:=H.out.k.size;exact z65 (b4:=b4) (Kb:=turnedK s.b) HL7.out HSUB.out RB7.out RBT.out (H7.out _ _ _ _ (by rw [HDR.out];exact .inr (.inr (.inr (.inl ⟨HBD.out,HKD.out,er,L7,X7,HR7.out,.inl ⟨HER.out,rfl,rfl,rfl,rfl⟩⟩))))) HPB.out (by rw [HM.out];omega) HWG.out KW7.out KD.out (by have:=G4.out;exact ⟨fun e=>by have:=H.out.lt e;omega,fun e=>by have:=H.out.lt e;omega⟩) (by have:=G4.out;omega)
      ·
       have n1:(kd == 1)=false:=by simpa using hk1
       have n2:(kd == 2)=false:=by simpa using hk2
       have n3:(kd == 3)=false:=by simpa using hk3
       have HI:Hid (PlI E W0 w l d O steps L X K b4 b6 b7 (k + 1) wr):=qq ⟨Li,Xi,Ki,O1,a,c,H1.out,H2.out,H3.out,H4.out,H5.out,H6.out,fun L' Y Ka Kb h=>H7.out _ _ _ _ (by rw [HDR.out];exact .inr (.inr (.inr (.inr ⟨HBD.out,by rw [HKD.out];exact hk1,by rw [HKD.out];exact hk2,by rw [HKD.out];exact hk3,h⟩)))),by rw [HTK.out];exact H8.out.same _,(by have:=HA8.out;omega),H9.out⟩;clear hk1 hk2 hk3;go_wp2;go_roundw
       case rel=>exact ⟨k + 1,by omega,by go_num,HI.out⟩
       case measure=>simp [intOf];omega
  ·
   have hkm:k=m:=by omega
   subst hkm;go_wp2;obtain ⟨z6,hz6,hs6⟩:=H4.out;obtain ⟨z7,hz7,hs7⟩:=H5.out;have HZ6:=qq hz6;have HZ7:=qq hz7;have HS6:=qq hs6;have HS7:=qq hs7;clear hz6 hz7 hs6 hs7;refine WT.region (fun u=>u.heap[b4]?=some (.cells (Ki.cs (.slice a Ki.all.length c)) 53 (0,0))) 3 4 [0,1,2,3] (by kernel_rfl) rfl ?_;have HS:Hid ((fun u:World=>u.heap[b4]?=some (.cells (Ki.cs (.slice a Ki.all.length c)) 53 (0,0))) wr.drew):=qq H3.out;refine WT.t 0 (v:=(.agg (Ki.cs (.slice a Ki.all.length c)))) (y:=by rintro w C1;exact zy agg53 (by rfl) (zm C1) rfl) (s:=HS.out) (h:=?_);refine WT.t 1 (v:=(.agg (Ki.cs (.slice a Ki.all.length c)))) (y:=by rintro w C1;exact zy agg53 (by rfl) (zm C1) rfl) (s:=HS.out) (h:=?_);refine WT.onlySkipE 2 (by simp only [qi];rfl) (by kernel_rfl) (by rfl) (zd (w:=wr.drew) (v:=.agg (Ki.cs (.slice a Ki.all.length c))) (n:=4) (by kernel_rfl) (by rfl) (by rfl) HZ6.out (by rfl) (by rw [HS6.out];exact Nat.le_refl _) (Ki.one)) ?_;intro wa s6;replace HS:Hid ((fun u:World=>u.heap[b4]?=some (.cells (Ki.cs (.slice a Ki.all.length c)) 53 (0,0))) wa):=qq (s6.k.at (w:=wr.drew) H3.out (fun e=>by omega));refine ⟨HS.out,?_⟩;simp only [Nat.reduceAdd,qn];refine WT.stop (by kernel_rfl) ?_;refine WP.onlySkipE 3 (by simp only [qi];rfl) (by kernel_rfl) (by rfl) (zd (v:=.agg (Ki.cs (.slice a Ki.all.length c))) (n:=4) (by kernel_rfl) (by rfl) (by rfl) (s6.k.at (w:=wr.drew) HZ7.out (fun e=>by omega)) (by rfl) (by rw [HS7.out];exact Nat.le_refl _) (Ki.one)) ?_;intro wb s7;simp only [Nat.reduceAdd,qn];refine WP.done (by kernel_rfl) ?_;have Z6:Hid (wb.heap[b6]?=some (.cells (Ki.cs (.slice a Ki.all.length c)) 53 (0,0))):=qq (s7.k.at (by have:=s6.blk;rw [show splice z6 (Value.agg (Ki.cs (.slice a Ki.all.length c))).cells 0=Ki.cs (.slice a Ki.all.length c) from z01 (by rw [HS6.out];rfl)] at this;exact this) (fun e=>by omega));have Z7:Hid (wb.heap[b7]?=some (.cells (Ki.cs (.slice a Ki.all.length c)) 53 (0,0))):=qq (by have:=s7.blk;rw [show splice z7 (Value.agg (Ki.cs (.slice a Ki.all.length c))).cells 0=Ki.cs (.slice a Ki.all.length c) from z01 (by rw [HS7.out];rfl)] at this;exact this);have KD:Hid (Keeps (fun b=>b=b6 \/ b=b7) wr wb):=qq ((((Keeps.refl (fun b=>b=b6 \/ b=b7) wr).drew).trans s6.k (fun _ _ e=>.inl e)).trans s7.k (fun _ _ e=>.inr e));clear s6 s7 HS;go_wp2;refine bodyPost_ret (z3r agg53 rfl _ rfl rfl Z6.out rfl Z7.out rfl) rfl ?_;have hz:=H.out.k.size;exact z65 (b4:=b4) H1.out H2.out H6.out H6.out (H7.out _ _ _ _ (by rw [<- HM.out,List.drop_length];exact ⟨rfl,rfl,rfl,rfl⟩)) H8.out (by rw [HM.out];exact Nat.le_refl _) (by rw [<- HM.out,List.take_length];exact HF.out) H9.out KD.out (by have:=G4.out;exact ⟨fun e=>by have:=H.out.lt e;omega,fun e=>by have:=H.out.lt e;omega⟩) (by have:=G4.out;omega)
theorem zhr {W0 w:World} {l d:Nat} {L:Lg} {X:Ds} {O:Nat -> Prop} (h:LS W0 w l d L X O) (K:Ks) (kv:Value) (hk:RB w (Own W0 O) kv K.all) (sa:Option Addr) (sc:Nat) (steps:List StepD) (hs:StepsAt W0 W0 sa steps.length sc steps) (hfew:(steps.map wgt).sum <= 20000) (hok:PlayOk L X steps.length) (hka:K.all.length + steps.length <= 3000000000000) :
  Calls Tryz.prog 28 #[.pointer (some ⟨l,0,none⟩),K.v kv,.slice sa steps.length sc] w (PlayD W0 w l d O steps L X K):=by
 refine (z9r (E:=fun _=>False) h (fun _ e=>e.elim) K kv (hk.mono fun k e=>e.imp id fun e=>⟨e,id⟩) sa sc steps hs hfew hok hka).mono ?_;rintro e w' ⟨Ka,Kb,va,vb,L',Y,O',t,h1,h2,h3,h4,h5,h6⟩;exact ⟨Ka,Kb,va,vb,L',Y,O',t,h1,h2,h3,h4.mono fun k e=>e.imp id fun e=>e.1,h5.mono fun k e=>e.imp id fun e=>e.1,h6⟩
end Go.Proofs.YtpjomdmjohjheaaGreatDoor
end
section
namespace Go.Proofs.YtpjomdmjohjheaaGreatDoor
open Go.RowKit Go.Lk Go.Vfs Go.Log
variable {W0 w w' w2:World} {l d:Nat} {L L':Lg} {X Y:Ds} {O O' S N:Nat -> Prop}
theorem _root_.Go.Log.DO.nodups (h:DO W0 w d X O):(X.D.files.map Prod.fst).Nodup /\ (X.D.lasting.map Prod.fst).Nodup:=by
 obtain ⟨F,R,h1,-⟩:=h.ex;obtain ⟨m1,m2,sv,-,g1,g2,-⟩:=h1.ex;have e:∀ l:List (ByteArray × Nat),(vals l).map Prod.fst=l.map Prod.fst:=fun l=>by simp [vals,List.map_map,Function.comp_def]
 exact ⟨e X.D.files ▸ g1.nodup,e X.D.lasting ▸ g2.nodup⟩
theorem zd6 (hk:Keeps Nb W0 w) (hv:Vars W0) (h6:6 <= W0.heap.size) (hO:∀ k,O k -> k < w.heap.size) (c:Int) (hc:1 <= c /\ c <= 16777216) :
  Calls Tryz.prog 18 #[.int .i64 c] w fun e w'=>∃ d,e=.returned (.tuple #[.pointer (some ⟨d,0,none⟩),.int .i64 0]) /\ DO W0 w' d ⟨newD c,fun _=>⟨[],0⟩⟩ O /\ Keeps Nb w w':=by
 refine (new_at c w hc).mono ?_;rintro e w' ⟨d,rfl,hd,F,R,h1,h2,h3,h4⟩;have z:=hk.size;exact ⟨d,rfl,⟨⟨F,R,h2,fun k e=>⟨by have:=hO k e;have:=h1.size;omega,fun f=>by have:=hO k e;have:=h3 k f;omega,fun f=>by have:=hO k e;have:=h4 k f;omega⟩,fun k f=>by have:=h3 k f;omega⟩,hk.trans_nb h1,hv,h6⟩,h1⟩
theorem zet (h:DO W0 w d X O) {F R:Nat -> Prop} (h1:DiskAt w d F R X.D X.fc) (h2:∀ k,O k -> k < w.heap.size /\ ¬ F k /\ ¬ R k) (h3:∀ k,F k -> W0.heap.size <= k) {D':Dk} (h4:DiskAt w' d F R D' X.fc) (h5:Keeps (·=d) w w'):DO W0 w' d ⟨D',X.fc⟩ O /\ Keeps (Oth W0 O) w w' :=
 h.now h2 h3 (Y:=⟨D',X.fc⟩) ⟨F,R,h4,fun _ e=>.inl e,fun _ e=>.inl e,h5.mono fun k _ e=>e ▸ h1.fd⟩
theorem zgw (h:DO W0 w d X O) (n:Int) (hn:I64 n):Calls Tryz.prog 38 #[.pointer (some ⟨d,0,none⟩),.int .i64 n] w fun e w'=>(∃ v,e=.returned v) /\ DO W0 w' d ⟨fuseD X.D n,X.fc⟩ O /\ Keeps (Oth W0 O) w w':=by
 obtain ⟨F,R,h1,h2,h3⟩:=h.ex;refine (zav d n X.D F R X.fc w h1 hn).mono ?_;rintro e w' ⟨hv,g1,g2⟩;exact ⟨hv,zet h h1 h2 h3 g1 g2⟩
theorem zgv (h:DO W0 w d X O):Calls Tryz.prog 39 #[.pointer (some ⟨d,0,none⟩)] w fun e w'=>e=.returned (.bool X.D.dead) /\ w=w':=by
 obtain ⟨F,R,h1,-⟩:=h.ex;obtain ⟨m1,m2,sv,g1,-⟩:=h1.ex;exact zgu d m1 m2 sv X.D w g1
theorem z94 (h:DO W0 w d X O) (v:Value) (zs:List Int) (hp:PicksV w v zs) (hl:X.D.lasting.length + X.D.steps.length <= 1000000) :
  Calls Tryz.prog 24 #[.pointer (some ⟨d,0,none⟩),v] w fun e w'=>∃ d' D' fc' φ l2 bs,e=.returned (.pointer (some ⟨d',0,none⟩)) /\ DO W0 w' d' ⟨D',fc'⟩ O /\ Keeps Nb w w' /\ CrashR zs X.D X.fc D' fc' φ l2 bs:=by
 obtain ⟨F,R,h1,h2,h3⟩:=h.ex;obtain ⟨a,c,rfl,p1,p2,p3,p4⟩:=hp;refine (zes d zs.length c a zs X.D F R X.fc w h1 p3 rfl p4 ⟨p1,p2⟩ hl).mono ?_;rintro e w' ⟨d',D',fc',F',R',φ,l2,bs,rfl,g1,g2,g3,g4,g5⟩;have z:=h.k.size;exact ⟨d',D',fc',φ,l2,bs,rfl,⟨⟨F',R',g1,fun k e=>⟨Nat.lt_of_lt_of_le (h2 k e).1 g4.size,fun f=>by have:=(h2 k e).1;have:=g2 k f;omega,fun f=>by have:=(h2 k e).1;have:=g3 k f;omega⟩,fun k f=>by have:=g2 k f;omega⟩,h.k.trans_nb g4,h.v,h.six⟩,g4,g5⟩
theorem zex (b:Bool) (w:World):Calls Tryz.prog 37 #[.bool b] w fun e w'=>e=.returned (.int .i64 (if b then 5 else 9)) /\ w=w':=by
 cases b
 ·go_enter Tryz.func37,Tryz.ntmps37;go_wp2;go_ret;exact ⟨rfl,rfl⟩
 ·go_enter Tryz.func37,Tryz.ntmps37;go_wp2;go_ret;exact ⟨rfl,rfl⟩
end Go.Proofs.YtpjomdmjohjheaaGreatDoor
end
section
namespace Go.Lk
open Go.RowKit
variable {P:Program} {w:World} {t e:TypeId}
def IsMark (g:Nat) (cs:Array Value) (e:TypeId) (u:Value) (w:World) (v:Value) (w':World):Prop:=v=u /\ w'.heap[g]?=some (.cells cs e (cs.size,cs.size + 1)) /\ Keeps (·=g) w w'
theorem run_mark {g n c:Nat} {cs:Array Value} (ht:P.underlying t=some (.slice e)) (he:P.underlying e=some (.int .u8)) (hg:w.heap[g]?=some (.cells cs e (0,0))) :
  ∃ w',(convert t t (.slice (some ⟨g,0,none⟩) n c)).run P w=.ok (.slice (some ⟨g,0,none⟩) n c) w' /\ w'.heap[g]?=some (.cells cs e (cs.size,cs.size + 1)) /\ Keeps (·=g) w w':=by
 have hsh:w.shape? g=some (e,cs.size):=by unfold World.shape?;rw [hg]
 refine ⟨w.freeze ⟨g,cs.size,none⟩ 1,?_,?_,?_⟩
 ·simp [convert,run_underlying ht,run_underlying he,markStringish,hsh]
 ·have hl:=lt_of_block hg;unfold World.freeze;rw [if_neg (by decide)];simp [Array.getElem?_modify,hg]
 ·unfold World.freeze;rw [if_neg (by decide)];exact ⟨rfl,rfl,rfl,by simp,fun i hi hn=>by simp [Array.getElem?_modify,Ne.symm hn]⟩
theorem z5n {dst:Option Tmp} {x:Operand} {ty:TypeId} {pos:String} {aft:Array Edge} {gd:Option (Nat × Bool)} {a:Act} {g n c:Nat} {cs:Array Value} (ht:P.underlying t=some (.slice e)) (he:P.underlying e=some (.int .u8)) (hx:a.eval x=.slice (some ⟨g,0,none⟩) n c) (hg:w.heap[g]?=some (.cells cs e (0,0))) :
  ∃ v w',(execOp a.eval ⟨dst,.convert t t x,ty,pos,aft,gd⟩).run P w=.ok (.value v) w' /\ IsMark g cs e (.slice (some ⟨g,0,none⟩) n c) w v w':=by
 obtain ⟨w',h1,h2,h3⟩:=run_mark (n:=n) (c:=c) ht he hg;exact ⟨_,w',by unfold execOp;simp only [hx,Sem.run_bind,h1,Result.andThen_ok,Sem.run_pure],rfl,h2,h3⟩
end Go.Lk
end
section
namespace Go.Proofs.YtpjomdmjohjheaaGreatDoor
open Go.RowKit Go.Lk Go.Vfs Go.Log
variable {W0 w w' w2:World} {l d:Nat} {L L':Lg} {X Y:Ds} {O O' S N:Nat -> Prop}
theorem z3i {g n:Nat} {cs:Array Value} {l:List Nat} {u v:Value} (h:NewAt w w2 g (.cells cs 5)) (hm:IsMark g cs 5 u w2 v w') (hu:u=.slice (some ⟨g,0,none⟩) n n) (hcs:cs=(l.map fun x=>Value.int .u8 (x:Nat)).toArray) (hn:l.length=n) (hl:∀ z ∈ l,z < 256) (hx:n <= 1000) :
  v=.slice (some ⟨g,0,none⟩) n n /\ Bytes w' (·=g) v l /\ Keeps Nb w w' /\ w.heap.size <= g /\ g < w'.heap.size:=by
 obtain ⟨rfl,h1,h2⟩:=hm;subst hn;subst hu;subst hcs;refine ⟨rfl,⟨_,_,rfl,Nat.le_refl _,by unfold maxLen;omega,.inr ⟨g,0,rfl,fun i hi=>?_⟩,hl,fun b off e _=>by cases e;rfl⟩,h.k.own h.ge h2,h.ge,lt_of_block h1⟩;rw [Nat.zero_add,cell_of_block h1];simp [List.getElem?_eq_getElem hi,z19 hi]
theorem zdr {g n:Nat} {l:List Int} (h:NewAt w w' g (.cells (l.map fun x=>Value.int .i64 x).toArray 3)) (hn:l.length=n) (hl:∀ z ∈ l,I64 z) (hm:n <= 1000):PicksV w' (.slice (some ⟨g,0,none⟩) n n) l:=by
 subst hn;refine ⟨_,_,rfl,Nat.le_refl _,by unfold maxLen;omega,.inr ⟨g,0,rfl,fun i hi=>?_⟩,hl⟩;rw [Nat.zero_add,cell_of_block h.blk];simp [List.getElem?_eq_getElem hi,z9j hi]
theorem zeo {g x:Nat} (h:NewAt w w' g (.cells #[.int .u8 (x:Nat)] 5)) (hx:x < 256):Bytes w' (·=g) (.slice (some ⟨g,0,none⟩) 1 1) [x]:=by
 refine ⟨_,_,rfl,Nat.le_refl _,by unfold maxLen;omega,.inr ⟨g,0,rfl,fun i hi=>?_⟩,fun z hz=>by rw [List.mem_singleton.1 hz];exact hx,fun b off e _=>by cases e;rfl⟩;rw [Nat.zero_add,cell_of_block h.blk];have:i=0:=by have:i < 1:=hi;omega
 subst this;rfl
theorem zi8 {g:Nat} {v:Value} {x:List Nat} {a:Option Addr} {n c:Nat} (h:NewAt w w' g (.cells #[v] 22)) (hv:v=.slice a n c) (hb:Bytes w (fun k=>k < w.heap.size) v x) :
  RowS w' (fun k=>k < w'.heap.size) (fun _=>False) 22 1 (.slice (some ⟨g,0,none⟩) 1 1) 1 [v] /\ BytesL w' (fun k=>k < w'.heap.size) [v] [x]:=by
 have z:=h.k.size;refine ⟨⟨rfl,fun u hu=>by rw [List.mem_singleton.1 hu,hv];rfl,some ⟨g,0,none⟩,1,rfl,Nat.le_refl _,by unfold maxLen;omega,zm h.blk,fun b off e _=>by cases e;exact ⟨.inl h.lt,⟨_,_,h.blk⟩⟩,.inl rfl⟩,?_⟩;exact .cons ((hb.keeps h.k (fun _ _ e=>e)).mono fun k e=>by omega) (.nil _ _)
theorem LS.lit {g:Nat} {v:Value} {x:List Nat} (h:LS W0 w l d L X fun _=>False) (hk:Keeps Nb w w') (h1:w.heap.size <= g) (h2:g < w'.heap.size) (hb:Bytes w' (·=g) v x) :
  LS W0 w' l d L X (·=g) /\ Bytes w' (Own W0 (·=g)) v x :=
 ⟨(h.add (N:=(·=g)) hk fun k e=>by omega).mono fun k e=>.inr e,hb.mono fun k e=>.inr e⟩
theorem z9m {l d g11 g12 x:Nat} {w11 w12 wx:World} (h:LS W0 w12 l d L X O) (hr:L.recs=[[x]]) (n12:NewAt w11 w12 g12 (.cells #[.slice (some ⟨g11,0,none⟩) 1 1] 22)) (n11:NewAt wx w11 g11 (.cells #[.int .u8 (x:Nat)] 5)) (hx:x < 256) :
  Calls Tryz.prog 34 #[.pointer (some ⟨l,0,none⟩),.slice (some ⟨g12,0,none⟩) 1 1,.int .i64 0] w12 fun e w'=>e=.returned (.bool true) /\ Keeps Nb w12 w':=by
 obtain ⟨h1,h2⟩:=zi8 n12 rfl ((zeo n11 hx).mono fun k e=>by have:=n11.lt;omega);have h3:=zhh (wa:=some ⟨g12,0,none⟩) (wc:=1) (vs:=[.slice (some ⟨g11,0,none⟩) 1 1]) h (by rw [hr];exact h1) (by rw [hr];exact h2);rw [hr] at h3;exact h3
theorem zf8 (w:World) (hv:Vars w) (h6:6 <= w.heap.size):Calls Tryz.prog 10 #[] w fun e w'=>e=.returned (.bool true) /\ Keeps Nb w w':=by
 have HV:=qq hv;have H6:=qq h6;clear hv h6;go_enter Tryz.func10,Tryz.ntmps10;go_wp2_with fail;refine (zd6 (W0:=w) (O:=fun _=>False) (Keeps.refl _ _) HV.out H6.out (fun _ e=>e.elim) 9999 (by omega)).mono ?_;rintro _ w1 ⟨d,rfl,hd,-⟩;have OP:=qq (z3w hd sa 99 z1y z1x (by omega) (by omega) (by show pot ⟨newD 9999,_⟩ + 12 <= _;unfold pot;simp [newD]));clear hd;go_wp2_with fail;refine OP.out.mono ?_;rintro _ w2 ⟨er,L,X,hr,hp,-,hc⟩;obtain ⟨rfl,ka⟩:=ka_new hr;obtain ⟨-,l,rfl,hls⟩:=hc.resolve_right fun h=>h.1 rfl;have P:Hid (pot X <= 12):=qq hp;have KA:=qq ka;have H:=qq hls;clear hr hp ka hls OP;go_wp2_with fail;refine (z0r 0 w2).mono ?_;rintro _ _ ⟨rfl,rfl⟩;go_wp2_with fail;refine (zdl H.out).mono ?_;rintro _ _ ⟨rfl,rfl⟩;rw [KA.out.lrecs];go_wp2_with fail;refine (zdm H.out).mono ?_;rintro _ _ ⟨rfl,rfl⟩;rw [KA.out.seg];go_wp2_with (first | go_skip | (with_reducible refine zr ?_) | (with_reducible refine zx (s:=22) ?_) | fail)
 refine za (zj rfl (zl el31 [.int .u8 120] rfl (by simp [List.range'_succ];first | done | rfl) (by simp [Value.cells]) (by simp)) ?_);rintro _ w3 ⟨g,rfl,n3⟩;simp only [Nat.reduceAdd,qn];go_wp2_with (first | go_skip | (with_reducible refine zr ?_) | (with_reducible refine zx (s:=22) ?_) | fail)
 refine za (zj rfl (z5n Tryz.underlying22 Tryz.underlying5 (by rfl) n3.blk) ?_);rintro _ w4 hm;obtain ⟨rfl,hby,k4,hg1,hg2⟩:=z3i (n:=1) (l:=[120]) n3 hm rfl (by simp [Value.cells]) rfl (by simp) (by omega);obtain ⟨hl4,hb4⟩:=LS.lit H.out k4 hg1 hg2 hby;have H4:=qq hl4;have B4:=qq hb4;clear n3 hm hby k4 hl4 hb4 H;simp only [Nat.reduceAdd,qn];have AP:=qq (z2n H4.out B4.out (by have:=P.out;omega) (by rw [KA.out.lsegs];omega) (by rw [KA.out.lrecs];simp) (by rw [KA.out.lsize];simp [enc]));clear H4 B4;go_wp2_with fail;refine AP.out.mono ?_;rintro _ w5 ⟨er,L5,X5,rfl,hl5,hr5,hp5,-⟩;obtain ⟨rfl,ka5⟩:=zdi KA.out (by simp [Recs,mxr]) (by omega) (by decide) (by decide) (by simp [enc]) hr5;have P5:Hid (pot X5 <= 18):=qq (by have:=P.out;omega);have KA5:=qq ka5;have H5:=qq (hl5.mono (O':=fun _=>False) (fun _ e=>e.elim));clear hl5 hr5 hp5 ka5 KA P AP;go_wp2_with fail;refine (z0r 0 w5).mono ?_;rintro _ _ ⟨rfl,rfl⟩;have SY:=qq (z7n H5.out (by have:=P5.out;omega));clear H5;go_wp2_with fail;refine SY.out.mono ?_;rintro _ w6 ⟨er,L6,X6,rfl,hl6,hr6,hp6,-⟩;obtain ⟨rfl,ka6⟩:=ka_syn KA5.out hr6;have P6:Hid (pot X6 <= 19):=qq (by have:=P5.out;omega);have KA6:=qq ka6;have H:=qq hl6;clear hl6 hr6 hp6 ka6 KA5 P5 SY;go_wp2_with fail;refine (z0r 0 w6).mono ?_;rintro _ _ ⟨rfl,rfl⟩;go_wp2_with (first | go_skip | (with_reducible refine zr ?_) | (with_reducible refine zx (s:=22) ?_) | fail)
 refine za (zj rfl (zl el31 [.int .u8 121] rfl (by simp [List.range'_succ];first | done | rfl) (by simp [Value.cells]) (by simp)) ?_);rintro _ w3 ⟨g,rfl,n3⟩;simp only [Nat.reduceAdd,qn];go_wp2_with (first | go_skip | (with_reducible refine zr ?_) | (with_reducible refine zx (s:=22) ?_) | fail)
 refine za (zj rfl (z5n Tryz.underlying22 Tryz.underlying5 (by rfl) n3.blk) ?_);rintro _ w4 hm;obtain ⟨rfl,hby,k4,hg1,hg2⟩:=z3i (n:=1) (l:=[121]) n3 hm rfl (by simp [Value.cells]) rfl (by simp) (by omega);obtain ⟨hl4,hb4⟩:=LS.lit H.out k4 hg1 hg2 hby;have H4:=qq hl4;have B4:=qq hb4;clear n3 hm hby k4 hl4 hb4 H;simp only [Nat.reduceAdd,qn];have AP:=qq (z2n H4.out B4.out (by have:=P6.out;omega) (by rw [KA6.out.lsegs];omega) (by rw [KA6.out.lrecs];simp) (by rw [KA6.out.lsize];simp [enc,zv]));clear H4 B4;go_wp2_with fail;refine AP.out.mono ?_;rintro _ w7 ⟨er,L7,X7,rfl,hl7,hr7,hp7,-⟩;obtain ⟨rfl,ka7⟩:=zdi KA6.out (by simp [Recs,mxr]) (by omega) (by decide) (by decide) (by simp [enc,zv]) hr7;have KA7:=qq ka7;have D7:=qq (LS.disk (hl7.mono (O':=fun _=>False) (fun _ e=>e.elim)));clear hl7 hr7 hp7 ka7 KA6 P6 AP;go_wp2_with fail;refine (z0r 0 w7).mono ?_;rintro _ _ ⟨rfl,rfl⟩;go_wp2_with (first | go_skip | (with_reducible refine qv (by decide) ?_))
 refine za (zj rfl (zl el35 [.int .i64 3] rfl (by simp [List.range'_succ];first | done | rfl) (by simp [Value.cells]) (by simp)) ?_);rintro _ w8 ⟨g8,rfl,n8⟩;simp only [Nat.reduceAdd,qn];have CR:=qq (z94 (D7.out.nb n8.k) _ [3] (zdr (n:=1) (l:=[3]) n8 rfl (by simp [I64]) (by omega)) (by rw [KA7.out.st,KA7.out.la];obtain ⟨g,hg,-⟩:=KA7.out.ex;have:=hg.qt.bd.nf;simp;omega));clear n8 D7;go_wp2_with fail;refine CR.out.mono ?_;rintro _ w9 ⟨c,D9,fc9,φ,l2,bs,rfl,hd9,-,hr9⟩;obtain ⟨i9,q9,f9,e9,p9⟩:=zf5 KA7.out hr9;have I9:=qq i9;have Q9:=qq q9;have F9:=qq f9;have E9:=qq e9;have OP:=qq (z3w hd9 sa 99 z1y z1x (by omega) (by omega) (by omega));have P9:Hid (pot ⟨D9,fc9⟩ <= 8):=qq (by omega);clear hd9 hr9 i9 q9 f9 e9 p9 KA7 CR;go_wp2_with fail;refine OP.out.mono ?_;rintro _ w10 ⟨er,L,X,hr,hp,-,hc⟩;obtain ⟨rfl,fe10,r10,s10,m10,g10,gs10⟩:=zh7 I9.out F9.out E9.out Q9.out hr;obtain ⟨-,l,rfl,hls⟩:=hc.resolve_right fun h=>h.1 rfl;have P10:Hid (pot X <= 20):=qq (by have:=P9.out;omega);have FE:=qq fe10;have RS:=qq r10;have SG:=qq s10;have GS10:=qq gs10;have H:=qq hls;clear hr hp hls hc fe10 r10 s10 m10 gs10 OP I9 Q9 F9 E9 P9;go_wp2_with fail;refine (z0r 0 w10).mono ?_;rintro _ _ ⟨rfl,rfl⟩;go_wp2_with (first | go_skip | (with_reducible refine zr ?_) | (with_reducible refine zx (s:=22) ?_) | fail)
 refine za (zj rfl (zl el31 [.int .u8 120] rfl (by simp [List.range'_succ];first | done | rfl) (by simp [Value.cells]) (by simp)) ?_);rintro _ w11 ⟨g11,rfl,n11⟩;simp only [Nat.reduceAdd,qn];go_wp2_with (first | go_skip | (with_reducible refine zr ?_) | (with_reducible refine zx (s:=22) ?_) | fail)
 refine za (zj rfl (zl el27 [.slice (some ⟨g11,0,none⟩) 1 1] rfl (by simp [List.range'_succ];first | done | rfl) (by simp [Value.cells]) (by simp)) ?_);rintro _ w12 ⟨g12,rfl,n12⟩;simp only [Nat.reduceAdd,qn];have HL:=qq (H.out.nb (n11.k.trans_nb n12.k));have ON:=qq (z9m HL.out RS.out n12 n11 (by omega));clear n11 n12 H;go_wp2_with fail;refine ON.out.mono ?_;rintro _ w13 ⟨rfl,k13⟩;have H:=qq (HL.out.nb k13);clear k13 ON HL;go_wp2_with fail;refine (zdm H.out).mono ?_;rintro _ _ ⟨rfl,rfl⟩;rw [SG.out];go_wp2_with (first | go_skip | (with_reducible refine zr ?_) | (with_reducible refine zx (s:=22) ?_) | fail)
 refine za (zj rfl (zl el31 [.int .u8 115] rfl (by simp [List.range'_succ];first | done | rfl) (by simp [Value.cells]) (by simp)) ?_);rintro _ w3 ⟨g,rfl,n3⟩;simp only [Nat.reduceAdd,qn];go_wp2_with (first | go_skip | (with_reducible refine zr ?_) | (with_reducible refine zx (s:=22) ?_) | fail)
 refine za (zj rfl (z5n Tryz.underlying22 Tryz.underlying5 (by rfl) n3.blk) ?_);rintro _ w4 hm;obtain ⟨rfl,hby,k4,hg1,hg2⟩:=z3i (n:=1) (l:=[115]) n3 hm rfl (by simp [Value.cells]) rfl (by simp) (by omega);obtain ⟨hl4,hb4⟩:=LS.lit H.out k4 hg1 hg2 hby;have H4:=qq hl4;have B4:=qq hb4;clear n3 hm hby k4 hl4 hb4 H;simp only [Nat.reduceAdd,qn];have TN:=qq (zb3 H4.out B4.out (by have:=P10.out;omega));clear H4 B4;go_wp2_with fail;refine TN.out.mono ?_;rintro _ w14 ⟨er,L14,X14,rfl,hl14,hr14,hp14,-⟩;obtain ⟨rfl,fe14,r14,z14,s14,g14,gs14,sn14⟩:=zh8 GS10.out FE.out (by simp [Recs,mxr]) (by omega) (by decide) (by decide) (by decide) hr14;have P14:Hid (pot X14 <= 39):=qq (by have:=P10.out;omega);have H:=qq (hl14.mono (O':=fun _=>False) (fun _ e=>e.elim));have FE14:=qq fe14;have R14:=qq r14;have Z14:=qq z14;have S14:=qq s14;have GS14:=qq gs14;have SN14:=qq sn14;clear hl14 hr14 hp14 fe14 r14 z14 s14 gs14 sn14 TN GS10 FE RS SG P10;go_wp2_with fail;refine (z0r 0 w14).mono ?_;rintro _ _ ⟨rfl,rfl⟩;go_wp2_with (first | go_skip | (with_reducible refine zr ?_) | (with_reducible refine zx (s:=22) ?_) | fail)
 refine za (zj rfl (zl el31 [.int .u8 122] rfl (by simp [List.range'_succ];first | done | rfl) (by simp [Value.cells]) (by simp)) ?_);rintro _ w3 ⟨g,rfl,n3⟩;simp only [Nat.reduceAdd,qn];go_wp2_with (first | go_skip | (with_reducible refine zr ?_) | (with_reducible refine zx (s:=22) ?_) | fail)
 refine za (zj rfl (z5n Tryz.underlying22 Tryz.underlying5 (by rfl) n3.blk) ?_);rintro _ w4 hm;obtain ⟨rfl,hby,k4,hg1,hg2⟩:=z3i (n:=1) (l:=[122]) n3 hm rfl (by simp [Value.cells]) rfl (by simp) (by omega);obtain ⟨hl4,hb4⟩:=LS.lit H.out k4 hg1 hg2 hby;have H4:=qq hl4;have B4:=qq hb4;clear n3 hm hby k4 hl4 hb4 H;simp only [Nat.reduceAdd,qn];have AP:=qq (z2n H4.out B4.out (by have:=P14.out;omega) (by rw [S14.out];omega) (by rw [R14.out];simp) (by rw [Z14.out];omega));clear H4 B4;go_wp2_with fail;refine AP.out.mono ?_;rintro _ w15 ⟨er,L15,X15,rfl,hl15,hr15,hp15,-⟩;obtain ⟨rfl,fe15,r15,g15,gs15,sn15⟩:=kb_app GS14.out FE14.out (by simp [Recs,mxr]) (by omega) (by decide) (by decide) hr15;have P15:Hid (pot X15 <= 45):=qq (by have:=P14.out;omega);have H:=qq (hl15.mono (O':=fun _=>False) (fun _ e=>e.elim));have FE15:=qq fe15;have GS15:=qq gs15;have SN15:=qq (sn15.trans SN14.out);have R15:=qq (r15.trans (by rw [R14.out];rfl:_=[[122]]));clear hl15 hr15 hp15 fe15 r15 gs15 sn15 AP GS14 FE14 R14 Z14 S14 SN14 P14;go_wp2_with fail;refine (z0r 0 w15).mono ?_;rintro _ _ ⟨rfl,rfl⟩;have SY:=qq (z7n H.out (by have:=P15.out;omega));clear H;go_wp2_with fail;refine SY.out.mono ?_;rintro _ w16 ⟨er,L16,X16,rfl,hl16,hr16,hp16,-⟩;obtain ⟨rfl,i16,f16,e16,q16⟩:=kb_syn GS15.out FE15.out SN15.out R15.out hr16;have OP:=qq (z3w hl16.disk sa 99 z1y z1x (by omega) (by omega) (by have:=P15.out;omega));have I16:=qq i16;have F16:=qq f16;have E16:=qq e16;have Q16:=qq q16;clear hl16 hr16 hp16 i16 f16 e16 q16 SY GS15 FE15 SN15 R15 P15;go_wp2_with fail;refine (z0r 0 w16).mono ?_;rintro _ _ ⟨rfl,rfl⟩;go_wp2_with fail;refine OP.out.mono ?_;rintro _ w17 ⟨er,L,X,hr,hp,-,hc⟩;obtain ⟨rfl,r17,h17,s17⟩:=zh9 I16.out F16.out E16.out Q16.out hr;obtain ⟨-,l,rfl,hls⟩:=hc.resolve_right fun h=>h.1 rfl;have H:=qq hls;have RS:=qq r17;have SP:=qq (zb2 hls);rw [h17,s17] at SP;clear hr hp hls hc r17 h17 s17 OP I16 F16 E16 Q16;go_wp2_with fail;refine (z0r 0 w17).mono ?_;rintro _ _ ⟨rfl,rfl⟩;go_wp2_with fail;refine SP.out.mono ?_;rintro _ w18 ⟨v,rfl,hb,k18⟩;obtain ⟨ad,c,rfl,-,-,hrd,-⟩:=id hb;have HH:=qq hrd.has;have H:=qq (H.out.nb k18);clear hb k18 hrd SP;go_wp2_with (first | go_skip | (with_reducible refine zr ?_) | (with_reducible refine zx (s:=22) ?_) | fail)
 refine za (zn (v:=.string (bstr [115])) rfl (z3d Tryz.underlying22 Tryz.underlying5 Tryz.underlying9 (by rfl) HH.out rfl) ?_);simp only [Nat.reduceAdd,qn];have q1:(bstr [115]).toList=([115]:List UInt8):=by first | rfl | decide | decide +kernel
 go_wp2_with (first | go_skip | (with_reducible refine zr ?_) | (with_reducible refine zx (s:=22) ?_) | fail)
 refine za (zj rfl (zl el31 [.int .u8 122] rfl (by simp [List.range'_succ];first | done | rfl) (by simp [Value.cells]) (by simp)) ?_);rintro _ w11 ⟨g11,rfl,n11⟩;simp only [Nat.reduceAdd,qn];go_wp2_with (first | go_skip | (with_reducible refine zr ?_) | (with_reducible refine zx (s:=22) ?_) | fail)
 refine za (zj rfl (zl el27 [.slice (some ⟨g11,0,none⟩) 1 1] rfl (by simp [List.range'_succ];first | done | rfl) (by simp [Value.cells]) (by simp)) ?_);rintro _ w12 ⟨g12,rfl,n12⟩;simp only [Nat.reduceAdd,qn];have HL:=qq (H.out.nb (n11.k.trans_nb n12.k));have ON:=qq (z9m HL.out RS.out n12 n11 (by omega));clear n11 n12 H;go_wp2_with fail;refine ON.out.mono ?_;rintro _ w19 ⟨rfl,k19⟩;have HK:=qq (HL.out.nb k19).k;clear k19 ON HL HH q1;go_wp2;go_ret;exact ⟨rfl,HK.out⟩
end Go.Proofs.YtpjomdmjohjheaaGreatDoor
end
section
namespace Go.Log
open Go.Lk Go.RowKit Go.Vfs
variable {W0 w w' w2:World} {l d:Nat} {L L':Lg} {X Y:Ds} {O O' B:Nat -> Prop}
def sw:ByteArray:=⟨#[119]⟩
theorem z8z:mnB sw=true:=by decide
theorem z8y:sw.size <= 16:=by decide
end Go.Log
namespace Go.Proofs.YtpjomdmjohjheaaGreatDoor
open Go.RowKit Go.Lk Go.Vfs Go.Log
variable {W0 w w' w2:World} {l d:Nat} {L L':Lg} {X Y:Ds} {O O':Nat -> Prop} {e:Int} {c:Int} {most:Nat}
theorem zc3 (hc:24 <= c) (hr:openR sw most ⟨newD c,fun _=>⟨[],0⟩⟩ e L Y):e=0 /\ L={ lg0 sw most with first:=1,segment:=1,segments:=1 } /\ Y.D.fe=0 /\ ∃ g,GS sw L Y g 2 24 1 c /\ g.sn=none /\ (∀ t b,Y.dir t=some b -> t=manf sw \/ t=sgf sw 1):=by
 obtain ⟨h1,h2,h3,h4,h5,g,h6,h7,h8⟩:=z9e z8z z8y (zdt c) (zb7 c) rfl (zds sw c) (by decide) (by omega) rfl hr;refine ⟨h1,h2,h3,g,h6,h7,fun t b hb=>?_⟩;rcases (h8 t).2 ⟨b,hb⟩ with h | h | ⟨-,b',h⟩
 ·exact .inl h
 ·exact .inr h
 ·exact absurd (show (none:Option Nat)=some b' from h) nofun
theorem zht {n:Nat} (hL:L={ lg0 sw most with first:=1,segment:=1,segments:=1 }) (hp:pot X <= 1000) (hn:n <= 1000):PlayOk L X n:=by
 subst hL;exact ⟨by omega,by show 1 + n <= _;omega,by show 0 + n <= _;omega,by show 0 + 8 * n + 20000 <= _;omega⟩
def ks0:Ks:=⟨ByteArray.empty,false,[],0⟩
theorem rb_nil (w:World) (R:Nat -> Prop):RB w R (.slice none 0 0) []:=⟨none,0,[],rfl,Nat.le_refl _,Nat.zero_le _,.inl rfl,(fun _ _ e=>by cases e),.nil _ _⟩
end Go.Proofs.YtpjomdmjohjheaaGreatDoor
end
section
namespace Go.Proofs.YtpjomdmjohjheaaGreatDoor
open Go.RowKit Go.Lk Go.Vfs Go.Log
variable {W0 w w':World} {l d:Nat} {L L':Lg} {X Y:Ds} {g h:Sh} {k a b:Ks} {n q K:Nat} {nm ot:ByteArray} {x:List Nat} {c e:Int} {O:Nat -> Prop}
theorem sm_lay (X:Ds) (m e:Int):Sm X ⟨layD X.D m e,X.fc⟩:=⟨rfl,rfl,rfl,rfl⟩
theorem z5s (X:Ds) (m:Int):Sm X ⟨fuseD X.D m,X.fc⟩:=⟨rfl,rfl,rfl,rfl⟩
theorem ls_lay (h:LS W0 w l d L X O) (m e:Int) (hm:0 <= m /\ m <= 9223372036854775807) (he:e=5 \/ e=9) :
  Calls Tryz.prog 36 #[.pointer (some ⟨d,0,none⟩),.int .i64 m,.int .i64 e] w fun r w'=>r=.returned (.int .i64 0) /\ LS W0 w' l d L ⟨layD X.D m e,X.fc⟩ O /\ Keeps (Oth W0 O) w w':=by
 obtain ⟨Fd,Rd,FL,RL,h1,h2,h3,h4⟩:=h.ex;refine (lay_ok d m e X.D Fd Rd X.fc w h1.disk hm he).mono ?_;rintro r w' ⟨hv,g1,g2⟩;exact ⟨hv,h.now h2 h3 h4 (h1.disk_now (Y:=⟨layD X.D m e,X.fc⟩) ⟨Fd,Rd,g1,fun _ e=>.inl e,fun _ e=>.inl e,g2.mono fun k _ e=>e ▸ h1.disk.fd⟩ (Nat.le_trans h.six h.k.size))⟩
theorem zhg (h:LS W0 w l d L X O) (m:Int) (hm:I64 m) :
  Calls Tryz.prog 38 #[.pointer (some ⟨d,0,none⟩),.int .i64 m] w fun r w'=>(∃ v,r=.returned v) /\ LS W0 w' l d L ⟨fuseD X.D m,X.fc⟩ O /\ Keeps (Oth W0 O) w w':=by
 obtain ⟨Fd,Rd,FL,RL,h1,h2,h3,h4⟩:=h.ex;refine (zav d m X.D Fd Rd X.fc w h1.disk hm).mono ?_;rintro r w' ⟨hv,g1,g2⟩;exact ⟨hv,h.now h2 h3 h4 (h1.disk_now (Y:=⟨fuseD X.D m,X.fc⟩) ⟨Fd,Rd,g1,fun _ e=>.inl e,fun _ e=>.inl e,g2.mono fun k _ e=>e ▸ h1.disk.fd⟩ (Nat.le_trans h.six h.k.size))⟩
theorem zfh {steps:List StepD}:∀ {L:Lg} {X:Ds} {k:Ks},playR steps L X k L' Y a b -> a.all.length <= k.all.length + steps.length /\ b.all.length <= k.all.length + steps.length:=by
 induction steps with
 | nil=>intro L X k h;obtain ⟨-,-,rfl,rfl⟩:=h;exact ⟨Nat.le_refl _,Nat.le_refl _⟩
 | cons s l ih =>
  intro L X k h;simp only [List.length_cons];rcases h with ⟨-,-,-,rfl,rfl⟩ | ⟨-,-,e,L1,Z,-,p⟩ | ⟨-,-,e,L1,Z,-,p⟩ | ⟨-,-,e,L1,Z,-,⟨-,-,-,rfl,rfl⟩ | ⟨-,p⟩⟩ | ⟨-,-,-,-,p⟩
  ·omega
  ·have:=ih p;simp only [List.length_append,List.length_cons,List.length_nil] at this;omega
  ·
   have:=ih p;split at this
   ·have h:a.all.length <= k.all.length + l.length /\ b.all.length <= k.all.length + l.length:=this;omega
   ·omega
  ·exact ⟨Nat.le_add_right _ _,Nat.zero_le _⟩
  ·have h:a.all.length <= 0 + l.length /\ b.all.length <= 0 + l.length:=ih p;omega
  ·have:=ih p;omega
theorem z96 {most:Nat} (hr:openR sw most ⟨newD 200000,fun _=>⟨[],0⟩⟩ e L Y):e=0 /\ L={ lg0 sw most with first:=1,segment:=1,segments:=1 } /\ ∃ g,GS sw L Y g 2 24 1 200000 /\ Qt 2 24 (NM (manf sw) sw) 200000 Y /\ KW ks0 L g:=by
 obtain ⟨h1,h2,h3,g,h4,h5,h6⟩:=zc3 (by omega) hr;refine ⟨h1,h2,g,h4,⟨h4.qt.bd,fun t b hb=>?_,h4.qt.cap⟩,⟨by rw [h5];rfl,by rw [h5];rfl,by rw [h2];rfl,by show (0:Int) <= _;omega⟩⟩;rcases h6 t b hb with rfl | rfl
 ·exact nm_man
 ·exact nm_seg 1 (by omega) (by decide)
end Go.Proofs.YtpjomdmjohjheaaGreatDoor
end
section
namespace Go.Proofs.YtpjomdmjohjheaaGreatDoor
open Go.RowKit Go.Lk Go.Vfs Go.Log
variable {L L':Lg} {X Y Z:Ds} {g h:Sh} {k a b:Ks} {m j:Nat} {nm:ByteArray} {e:Int} {most:Nat}
theorem zhd {W0 w:World} {l d:Nat} {O:Nat -> Prop} (h:LS W0 w l d L X O) (n e:Int) (hn:n < 0):Calls Tryz.prog 36 #[.pointer (some ⟨d,0,none⟩),.int .i64 n,.int .i64 e] w fun r w'=>r=.returned (.int .i64 2) /\ w=w':=by
 obtain ⟨Fd,Rd,FL,RL,h,-⟩:=h.ex;obtain ⟨m1,m2,sv,h3,-⟩:=h.disk.ex;obtain ⟨c0,-⟩:=cells9 h3;have TH:=qq (z18 d m1 (.map none) (.map none) [] w (c0 ⟨w,Keeps.refl _ _⟩));clear c0 h3 h;go_enter Tryz.func36,Tryz.ntmps36;go_wp2_with fail;refine TH.out.mono ?_;rintro e w' ⟨rfl,rfl⟩;go_wp2;go_ret;exact ⟨rfl,rfl⟩
theorem zc6 {W0 w:World} {l d:Nat} {O:Nat -> Prop} (h:LS W0 w l d L X O) (m e:Int) (hm:I64 m) (he:e=5 \/ e=9) :
  Calls Tryz.prog 36 #[.pointer (some ⟨d,0,none⟩),.int .i64 m,.int .i64 e] w fun r w'=>∃ er D',r=.returned (.int .i64 er) /\ LS W0 w' l d L ⟨D',X.fc⟩ O /\ Sm X ⟨D',X.fc⟩ /\ pot ⟨D',X.fc⟩=pot X /\ Keeps (Oth W0 O) w w':=by
 rcases Int.lt_or_le m 0 with hn | hn
 ·refine (zhd h m e hn).mono ?_;rintro r w' ⟨rfl,rfl⟩;exact ⟨2,X.D,rfl,h,Sm.refl X,rfl,Keeps.refl _ _⟩
 ·refine (ls_lay h m e ⟨hn,hm.2⟩ he).mono ?_;rintro r w' ⟨rfl,g1,g2⟩;exact ⟨0,_,rfl,g1,sm_lay X m e,rfl,g2⟩
def InAB (nm:ByteArray) (a b:Ks) (X:Ds):Prop:=In nm X fun h=>KF a h \/ KF b h
theorem InAB.sm {D':Dk} (h:InAB nm a b X) (hs:Sm X ⟨D',X.fc⟩):InAB nm a b ⟨D',X.fc⟩:=In.same h hs rfl
theorem zgb {D':Dk} (h:LI nm L X g) (hs:Sm X ⟨D',X.fc⟩):LI nm L ⟨D',X.fc⟩ g:={ h with inn:=h.inn.same hs rfl }
theorem InAB.crash {zs:List Int} {D':Dk} {fc':Nat -> Fl} {φ:Nat -> Option Nat} {l2:List (ByteArray × Nat)} {bs:List Bool} (h:InAB nm a b X) (hn:(X.D.lasting.map Prod.fst).Nodup) (hc:CrashR zs X.D X.fc D' fc' φ l2 bs):InAB nm a b ⟨D',fc'⟩:=by
 obtain ⟨f,q,v,n,-,hq,-,h4,-⟩:=z5v h hn hc;exact h4.mono fun h e=>by subst e;exact zhb v n hq
theorem z83 {l:List StepD} (hl:LI nm L X g) (hk:KW k L g) (hs:∀ s ∈ l,Recs [s.b]) (hr:playR l L X k L' Y a b):InAB nm a b Y:=by
 rcases zhs hl hk hs hr with ⟨-,rfl,g',h1,h2⟩ | ⟨-,h1⟩
 ·exact h1.inn.mono fun h e=>by subst e;exact .inl (h2.kf h1)
 ·exact h1
theorem zcz (hm:mnB nm=true) (h16:nm.size <= 16) (hi:InAB nm a b X) (hnd:(X.D.files.map Prod.fst).Nodup) (hr:openR nm most X e L Y) :
  InAB nm a b Y /\ (Fau X.D -> X.D.fe=0 -> e=0) /\ (e=0 -> (a.Is L \/ b.Is L) /\ L.synced=L.recs.length /\ ∃ g,LI nm L Y g):=by
 obtain ⟨h,j,h1,h2,h3,h4,h5,h7,⟨en,e1,e2,e3,e4,e5⟩,h8⟩:=z6s hm h16 hnd hi zf6 hr;refine ⟨h7,fun hF hfe=>((zau hm h16 hF h2.m1.2 e4 e1 e3 e5).calm hfe).1,fun e0=>?_⟩;obtain ⟨g1,g2,-⟩:=h8 e0;exact ⟨h1.imp (fun hk=>zga hk h3 h4 g1) (fun hk=>zga hk h3 h4 g1),g2,_,g1⟩
theorem zbc {l:List StepD}:∀ {L:Lg} {X:Ds} {k:Ks} {m j:Nat},Wt m j X -> playR l L X k L' Y a b -> Wt (m + 3 * l.length) (j + l.length * (8 + m + 3 * l.length)) Y:=by
 induction l with
 | nil=>intro L X k m j h hr;obtain ⟨-,rfl,-⟩:=hr;exact h.mono (by simp) (by simp)
 | cons s l ih =>
  intro L X k m j h hr;have key:∀ {L1:Lg} {Z:Ds} {k1:Ks},Wt (m + 3) (j + 8 + m) Z -> playR l L1 Z k1 L' Y a b -> Wt (m + 3 * (s :: l).length) (j + (s :: l).length * (8 + m + 3 * (s :: l).length)) Y:=fun hz hp=>by
   refine (ih hz hp).mono (by simp only [List.length_cons];omega) ?_;simp only [List.length_cons];generalize l.length=n;have e1:(n + 1) * (8 + m + 3 * (n + 1))=n * (8 + m + 3 * (n + 1)) + (8 + m + 3 * (n + 1)):=Nat.succ_mul _ _;rw [e1,show 8 + (m + 3) + 3 * n=8 + m + 3 * (n + 1) by omega];omega
  have low:Wt (m + 3) (j + 8 + m) X:=h.mono (by omega) (by omega);rcases hr with ⟨-,-,rfl,-⟩ | ⟨-,-,e,L1,Z,r1,p1⟩ | ⟨-,-,e,L1,Z,r1,p1⟩ | ⟨-,-,e,L1,Z,r1,p1⟩ | ⟨-,-,-,-,p1⟩
  ·exact h.mono (by omega) (Nat.le_add_right _ _)
  ·exact key ((wt_app h r1).mono (by omega) (by omega)) p1
  ·exact key ((wt_syn h r1).mono (by omega) (by omega)) p1
  ·
   have hz:=zio h r1;rcases p1 with ⟨-,-,rfl,-⟩ | ⟨-,p1⟩
   ·refine hz.mono (by simp only [List.length_cons];omega) ?_;simp only [List.length_cons];generalize l.length=n;have e1:(n + 1) * (8 + m + 3 * (n + 1))=n * (8 + m + 3 * (n + 1)) + (8 + m + 3 * (n + 1)):=Nat.succ_mul _ _;rw [e1];omega
   ·exact key hz p1
  ·exact key low p1
theorem zfi {steps:List StepD}:∀ {L:Lg} {X:Ds} {k:Ks},playR steps L X k L' Y a b -> (enc a.all).length <= (enc k.all).length + (steps.map wgt).sum + 8 * steps.length /\ (enc b.all).length <= (enc k.all).length + (steps.map wgt).sum + 8 * steps.length:=by
 induction steps with
 | nil=>intro L X k h;obtain ⟨-,-,rfl,rfl⟩:=h;exact ⟨by simp,by simp⟩
 | cons s l ih =>
  intro L X k h;simp only [List.length_cons,List.map_cons,List.sum_cons];have hw:s.b.length <= wgt s:=by unfold wgt;omega
  rcases h with ⟨-,-,-,rfl,rfl⟩ | ⟨-,-,e,L1,Z,-,p⟩ | ⟨-,-,e,L1,Z,-,p⟩ | ⟨-,-,e,L1,Z,-,⟨-,-,-,rfl,rfl⟩ | ⟨-,p⟩⟩ | ⟨-,-,-,-,p⟩
  ·omega
  ·have:=ih p;simp only [z0o,List.length_append,z1q,zv] at this;omega
  ·
   have:=ih p;split at this
   ·have h:(enc a.all).length <= (enc k.all).length + (l.map wgt).sum + 8 * l.length /\ (enc b.all).length <= (enc k.all).length + (l.map wgt).sum + 8 * l.length:=this;omega
   ·omega
  ·exact ⟨by omega,Nat.zero_le _⟩
  ·have h:(enc a.all).length <= 0 + (l.map wgt).sum + 8 * l.length /\ (enc b.all).length <= 0 + (l.map wgt).sum + 8 * l.length:=ih p;omega
  ·have:=ih p;omega
theorem zhf (hl:LI nm L X g):L.size <= (enc L.recs).length:=by
 rw [hl.size,hl.full,hl.recs,z0o,List.length_append];omega
theorem zhe (hl:LI nm L X g) (hw:Wt m j X):L.segments <= m:=by
 rw [hl.segs];have hs:=hl.shape;refine Nat.le_trans ?_ hw.f;have ht:g.tab.length=g.cl.length + 1:=by unfold Sh.tab;simp
 rw [<- ht];have hn:(g.tab.map fun p=>sgf nm p.1).Nodup:=by
  unfold List.Nodup;rw [List.pairwise_map];refine hs.asc.imp_of_mem fun {a b} ha hb' hlt e=>?_;have h1:=hs.rng a ha;have h2:=hs.rng b hb';have h3:=hs.f1;have:=z5q nm (by omega) h1.2 (by omega) h2.2 e;omega
 have:=zdu hn (m:=X.D.files.map Prod.fst) fun t ht=>by
  obtain ⟨p,hp,rfl⟩:=List.mem_map.1 ht;exact List.mem_map.2 ⟨_,zq (hs.blkOf (k:=p.1) (x:=p.2) hp),rfl⟩
 simpa using this
theorem zgn {n:Nat} (hl:LI nm L X g) (hw:Wt m j X) (his:a.Is L \/ b.Is L) (ha:a.all.length <= 60 /\ b.all.length <= 60) (he:(enc a.all).length <= 30000 /\ (enc b.all).length <= 30000) (hp:pot X <= 10000) (hm:m <= 1000) (hn:n <= 60):PlayOk L X n /\ L.recs.length <= 60 /\ (enc L.recs).length <= 30000:=by
 have h1:=zhf hl;have h2:=zhe hl hw;have h3:L.recs.length <= 60 /\ (enc L.recs).length <= 30000:=by
  have key:∀ {k:Ks},k.Is L -> k.all.length <= 60 -> (enc k.all).length <= 30000 -> L.recs.length <= 60 /\ (enc L.recs).length <= 30000:=fun hk e1 e2=>by
   obtain ⟨t,ht⟩:=hk.pre;rw [<- ht] at e1 e2;rw [z0o,List.length_append] at e2;rw [List.length_append] at e1;omega
  exact his.elim (fun h=>key h ha.1 he.1) (fun h=>key h ha.2 he.2)
 exact ⟨⟨by omega,by omega,by omega,by omega⟩,h3⟩
end Go.Proofs.YtpjomdmjohjheaaGreatDoor
end
section
namespace Go.Proofs.YtpjomdmjohjheaaGreatDoor.logBack
open Go.RowKit Go.Lk Go.Vfs Go.Log Go.Proofs.YtpjomdmjohjheaaGreatDoor
def Box (w:World) (b:Nat) (k:Ks) (v:Value):Prop:=w.heap[b]?=some (.cells (k.cs v) 53 (0,0))
structure Duo (W0 w:World) (O:Nat -> Prop) (bA bB:Nat) (a b:Ks):Prop where
 ex:∃ aa ac ba bc,Box w bA a (.slice aa a.all.length ac) /\ Box w bB b (.slice ba b.all.length bc) /\ RB w (Own W0 O) (.slice aa a.all.length ac) a.all /\ RB w (Own W0 O) (.slice ba b.all.length bc) b.all
 oa:O bA
 ob:O bB
 ne:bA ≠ bB
theorem Duo.oth {W0 w w':World} {O:Nat -> Prop} {bA bB:Nat} {a b:Ks} (h:Duo W0 w O bA bB a b) (hz:W0.heap.size <= w.heap.size) (hk:Keeps (Oth W0 O) w w'):Duo W0 w' O bA bB a b:=by
 obtain ⟨⟨aa,ac,ba,bc,h1,h2,h3,h4⟩,h5,h6,h7⟩:=h;have hr:∀ {v:Value} {ls:List (List Nat)},RB w (Own W0 O) v ls -> RB w' (Own W0 O) v ls:=fun h=>h.keeps hk fun k e f=>e.elim (fun e=>by have:=f.1;omega) (fun e=>f.2 e);exact ⟨⟨aa,ac,ba,bc,Oth.at hk h1 h5,Oth.at hk h2 h6,hr h3,hr h4⟩,h5,h6,h7⟩
theorem Duo.nb {W0 w w':World} {O:Nat -> Prop} {bA bB:Nat} {a b:Ks} (h:Duo W0 w O bA bB a b) (hk:Keeps Nb w w'):Duo W0 w' O bA bB a b:=by
 obtain ⟨⟨aa,ac,ba,bc,h1,h2,h3,h4⟩,h5,h6,h7⟩:=h;exact ⟨⟨aa,ac,ba,bc,hk.nb h1,hk.nb h2,h3.keeps hk (fun _ _ e=>e),h4.keeps hk (fun _ _ e=>e)⟩,h5,h6,h7⟩
structure St (W0 w:World) (d:Nat) (X:Ds) (O:Nat -> Prop) (bA bB:Nat) (a b:Ks) (m j:Nat) (p:Int):Prop where
 disk:DO W0 w d X O
 inn:InAB sw a b X
 duo:Duo W0 w O bA bB a b
 wt:Wt m j X
 pot:Go.Log.pot X <= p
theorem St.mono {W0 w:World} {d:Nat} {X:Ds} {O:Nat -> Prop} {bA bB:Nat} {a b:Ks} {m j m' j':Nat} {p p':Int} (h:St W0 w d X O bA bB a b m j p) (h1:m <= m') (h2:j <= j') (h3:p <= p'):St W0 w d X O bA bB a b m' j' p' :=
 ⟨h.disk,h.inn,h.duo,h.wt.mono h1 h2,Int.le_trans h.pot h3⟩
section
variable {W0 w:World} {d:Nat} {X:Ds} {O:Nat -> Prop} {bA bB:Nat} {a b:Ks} {m j:Nat} {p:Int}
theorem z95 {w':World} {S O':Nat -> Prop} (h:Duo W0 w O bA bB a b) (hk:Keeps S w w') (hn:∀ k,O k -> ¬ S k) (h0:∀ k,k < W0.heap.size -> ¬ S k) (hO:∀ k,O k -> O' k):Duo W0 w' O' bA bB a b:=by
 obtain ⟨⟨aa,ac,ba,bc,h1,h2,h3,h4⟩,h5,h6,h7⟩:=h;have hr:∀ {v:Value} {ls:List (List Nat)},RB w (Own W0 O) v ls -> RB w' (Own W0 O') v ls:=fun h=>(h.keeps hk fun k e=>e.elim (h0 k) (hn k)).mono fun k e=>e.imp id (hO k);exact ⟨⟨aa,ac,ba,bc,hk.at h1 (hn _ h5),hk.at h2 (hn _ h6),hr h3,hr h4⟩,hO _ h5,hO _ h6,h7⟩
theorem zgg {w':World} (h:St W0 w d X O bA bB a b m j p) (hk:Keeps Nb w w'):St W0 w' d X O bA bB a b m j p:=⟨h.disk.nb hk,h.inn,h.duo.nb hk,h.wt,h.pot⟩
theorem z6b (h:St W0 w d X O bA bB a b m j p) {pv:Value} {zs:List Int} (hp:PicksV W0 pv zs) (hm:m <= 1000) (hj:j <= 100000) :
  Calls Tryz.prog 24 #[.pointer (some ⟨d,0,none⟩),pv] w fun e w'=>∃ d' X',e=.returned (.pointer (some ⟨d',0,none⟩)) /\ St W0 w' d' X' O bA bB a b m 0 (2 * m) /\ Fau X'.D /\ X'.D.fe=0:=by
 have hn:=h.disk.nodups.2;refine (z94 h.disk pv zs (hp.nb h.disk.k) (by have h1:=h.wt.l;have h2:=h.wt.s;omega)).mono ?_;rintro e w' ⟨d',D',fc',φ,l2,bs,rfl,g1,g2,g3⟩;obtain ⟨w1,w2,w3,w4⟩:=zg5 h.wt g3;exact ⟨d',⟨D',fc'⟩,rfl,⟨g1,h.inn.crash hn g3,h.duo.nb g2,w1,w2⟩,w3,w4⟩
theorem zbo (h:St W0 w d X O bA bB a b m j p) (n:Int) (hn:I64 n) :
  Calls Tryz.prog 38 #[.pointer (some ⟨d,0,none⟩),.int .i64 n] w fun e w'=>(∃ v,e=.returned v) /\ St W0 w' d ⟨fuseD X.D n,X.fc⟩ O bA bB a b m j p /\ Keeps (Oth W0 O) w w':=by
 refine (zgw h.disk n hn).mono ?_;rintro e w' ⟨hv,g1,g2⟩;exact ⟨hv,⟨g1,h.inn.sm (z5s X n),h.duo.oth h.disk.k.size g2,h.wt.sm (z5s X n),h.pot⟩,g2⟩
theorem z7v {mo:Nat} (h:St W0 w d X O bA bB a b m j p) (h1:1 <= mo) (h2:mo <= 1048576) (hp:p <= 900000) :
  Calls Tryz.prog 19 #[.pointer (some ⟨d,0,none⟩),.string ⟨#[119]⟩,.int .i64 mo] w fun e w'=>∃ er N Z,((er=0 /\ ∃ l,e=.returned (.tuple #[.pointer (some ⟨l,0,none⟩),.int .i64 0]) /\ LS W0 w' l d N Z O /\ (a.Is N \/ b.Is N) /\ N.synced=N.recs.length /\ ∃ g,LI sw N Z g) \/ (er ≠ 0 /\ e=.returned (.tuple #[.pointer none,.int .i64 er]))) /\
   (Fau X.D -> X.D.fe=0 -> er=0) /\ St W0 w' d Z O bA bB a b (m + 2) (j + 4) (p + 12) /\ Keeps (Oth W0 O) w w':=by
 have hnd:=h.disk.nodups.1;have hpp:=h.pot;refine (z3w h.disk sw mo z8z z8y h1 h2 (by omega)).mono ?_;rintro e w' ⟨er,N,Z,hr,hpot,hk,hc⟩;obtain ⟨i1,i2,i3⟩:=zcz z8z z8y h.inn hnd hr;have hd:=h.duo.oth h.disk.k.size hk;have hw:=zbv h.wt hr;rcases hc with ⟨rfl,l,rfl,hls⟩ | ⟨h0,rfl,hdo⟩
 ·obtain ⟨j1,j2,j3⟩:=i3 rfl;exact ⟨0,N,Z,.inl ⟨rfl,l,rfl,hls,j1,j2,j3⟩,i2,⟨hls.disk,i1,hd,hw,by omega⟩,hk⟩
 ·exact ⟨er,N,Z,.inr ⟨h0,rfl⟩,i2,⟨hdo,i1,hd,hw,by omega⟩,hk⟩
end
theorem body (w:World) (hv:Vars w) (h6:6 <= w.heap.size) (a:Option Addr) (m c:Nat) (steps:List StepD) (hs:StepsAt w w a m c steps) (a2:Option Addr) (m2 c2:Nat) (more:List StepD) (hs2:StepsAt w w a2 m2 c2 more) (most fuse again lay:Int) (hfu:I64 fuse) (hag:I64 again) (hly:I64 lay) (full:Bool) (pv:Value) (zs:List Int) (hpv:PicksV w pv zs) :
  Calls Tryz.prog 8 #[.slice a m c,.slice a2 m2 c2,.int .i64 most,.int .i64 fuse,.int .i64 again,.int .i64 lay,.bool full,pv] w fun e w'=>e=.returned (.bool true) /\ Keeps Nb w w':=by
 have HV:=qq hv;have H6:=qq h6;have HST:=qq hs;have HST2:=qq hs2;have HPV:=qq hpv;have HFU:=qq hfu;have HAG:=qq hag;have HLY:=qq hly;obtain ⟨hl,hmc,hcm,-⟩:=hs;have hcm2:m <= c /\ c <= 9223372036854775807:=by unfold maxLen at hcm;exact ⟨hmc,hcm⟩
 obtain ⟨hl2,hmc2,hcm22,-⟩:=hs2;have hcm3:m2 <= c2 /\ c2 <= 9223372036854775807:=by unfold maxLen at hcm22;exact ⟨hmc2,hcm22⟩
 obtain ⟨pa,pc,rfl,hpc1,hpc2,-⟩:=hpv;have hpc3:zs.length <= pc /\ pc <= 9223372036854775807:=by unfold maxLen at hpc2;exact ⟨hpc1,hpc2⟩
 have HL:=qq hl;have HL2:=qq hl2;obtain ⟨pn,hpn⟩:∃ n,zs.length=n:=⟨_,rfl⟩
 rw [hpn] at HPV hpc3 ⊢;clear hmc hcm hv h6 hl hpc1 hpc2 hpn hmc2 hcm22 hl2 hfu hag hly;go_enter Tryz.func8,Tryz.ntmps8;go_wp2_with fail;refine (zf8 w HV.out H6.out).mono ?_;rintro _ w0 ⟨rfl,k0⟩;have K0:=qq k0;clear k0;go_wp2_with fail;refine (zb6 60 a m c steps w w0 (HST.out.nb K0.out) (by omega)).mono ?_;rintro _ w1 ⟨r,rfl,hf,k1⟩;have HF:=qq hf;have K1:=qq (K0.out.trans_nb k1);clear hf k1 K0;cases r with
 | true =>
  go_wp2;go_ret;exact ⟨rfl,K1.out⟩
 | false =>
  have HFEW:=qq (HF.out rfl);have hm:m <= 60:=by have:=HFEW.out.1;rw [HL.out] at this;omega
  clear HF;go_wp2_with fail;refine (zb6 60 a2 m2 c2 more w w1 (HST2.out.nb K1.out) (by omega)).mono ?_;rintro _ w2 ⟨r,rfl,hf,k2⟩;have HF:=qq hf;have K2:=qq (K1.out.trans_nb k2);clear hf k2 K1;cases r with
  | true =>
   go_wp2;go_ret;exact ⟨rfl,K2.out⟩
  | false =>
   have HFEW2:=qq (HF.out rfl);have hm2:m2 <= 60:=by have:=HFEW2.out.1;rw [HL2.out] at this;omega
   clear HF;by_cases e1:(pn:Int) > 300
   ·go_wp2;go_ret;exact ⟨rfl,K2.out⟩
   by_cases e2:most < 20
   ·go_wp2;go_ret;exact ⟨rfl,K2.out⟩
   by_cases e3:most > 1048576
   ·go_wp2;go_ret;exact ⟨rfl,K2.out⟩
   obtain ⟨mo,rfl⟩:=Int.eq_ofNat_of_zero_le (show 0 <= most by omega);go_wp2_with fail;refine (zd6 (W0:=w) (O:=fun _=>False) K2.out HV.out H6.out (fun _ e=>e.elim) 200000 (by omega)).mono ?_;rintro _ w3 ⟨d,rfl,hd,-⟩;have OP:=qq (z3w hd sw mo z8z z8y (by omega) (by omega) (by show pot ⟨newD 200000,_⟩ + 12 <= _;unfold pot;simp [newD]));clear hd;go_wp2_with fail;refine OP.out.mono ?_;rintro _ w4 ⟨er,A,X,hr,hp,-,hc⟩;obtain ⟨rfl,hA,g,gs,-,kw⟩:=z96 hr;obtain ⟨-,x,rfl,hls⟩:=hc.resolve_right fun h=>h.1 rfl;have PX:Hid (pot X <= 12):=qq hp;have HA:=qq hA;have LX:=qq gs.li;have KX:=qq kw;have WX:=qq (zbv (new_wt 200000) hr);have H:=qq hls;clear hr hp hc hA gs kw hls OP;go_wp2_with fail;refine (z0r 0 w4).mono ?_;rintro _ _ ⟨rfl,rfl⟩;have FU:=qq (zhg H.out fuse HFU.out);go_wp2_with fail;refine FU.out.mono ?_;rintro _ w5 ⟨⟨v5,rfl⟩,hls,-⟩;have H5:=qq hls;clear hls FU H;go_wp2_with fail;refine (zex full w5).mono ?_;rintro _ _ ⟨rfl,rfl⟩;obtain ⟨E,hE⟩:∃ E:Int,(if full then (5:Int) else 9)=E:=⟨_,rfl⟩
   have HE:Hid (E=5 \/ E=9):=by refine qq ?_;rw [<- hE];split <;> omega
   rw [hE];have LY:=qq (zc6 H5.out lay E HLY.out HE.out);clear hE H5;go_wp2_with fail;refine LY.out.mono ?_;rintro _ w6 ⟨er6,D6,rfl,hls,hsm,hpt,-⟩;obtain ⟨X1,hX1⟩:∃ Z:Ds,(⟨D6,X.fc⟩:Ds)=Z:=⟨_,rfl⟩
   have L1:Hid (LI sw A X1 g):=qq (by rw [<- hX1];exact zgb (X:=⟨fuseD X.D fuse,X.fc⟩) (zgb (D':=fuseD X.D fuse) LX.out (z5s X fuse)) hsm);have W1:Hid (Wt 2 4 X1):=qq (by rw [<- hX1];exact ((WX.out.sm (z5s X fuse)).sm hsm).mono (by omega) (by omega));have P1:Hid (pot X1 <= 12):=qq (by rw [<- hX1];have h1:pot ⟨fuseD X.D fuse,X.fc⟩=pot X:=rfl;have:=PX.out;omega);rw [hX1] at hls;have H:=qq hls;clear hX1 hls hsm hpt LY LX WX PX;have PLX:=qq (zhr H.out ks0 (.slice none 0 0) (rb_nil _ _) a c steps (by rw [HL.out];exact HST.out) HFEW.out.2 (zht HA.out (by have:=P1.out;omega) (by rw [HL.out];omega)) (by rw [HL.out];show 0 + m <= _;omega));rw [HL.out] at PLX;go_wp2_with fail;refine PLX.out.mono ?_;rintro _ w7 ⟨Ka,Kb,va,vb,L',Y,O',t,rfl,hls,hO,hva,hvb,hra,hpb,ht,hk7⟩;have H7:=qq hls;have VA:=qq hva;have VB:=qq hvb;have INN:Hid (InAB sw Ka Kb Y):=qq (z83 L1.out KX.out (z7c HST.out HFEW.out) hra)
   have WTY:Hid (Wt 182 20000 Y):=qq ((zbc W1.out hra).mono (by rw [HL.out];omega) (by
    rw [HL.out];have h1:m * (8 + 2 + 3 * m) <= 60 * 190:=Nat.mul_le_mul (by omega) (by omega)
    omega))
   have POT:Hid (pot Y <= 1152):=qq (by have:=hpb.pot;rw [HL.out] at this;have:=P1.out;omega)
   have ALL:Hid ((Ka.all.length <= 60 /\ Kb.all.length <= 60) /\ (enc Ka.all).length <= 30000 /\ (enc Kb.all).length <= 30000):=qq (by
    have h1:=zfh hra;have h2:=zfi hra;rw [HL.out] at h1 h2;have h3:Ka.all.length <= 0 + m /\ Kb.all.length <= 0 + m:=h1;have h4:(enc Ka.all).length <= 0 + (steps.map wgt).sum + 8 * m /\ (enc Kb.all).length <= 0 + (steps.map wgt).sum + 8 * m:=h2;have:=HFEW.out.2
    omega)
   clear hls hO hva hvb hra hpb ht hk7 PLX H L1 KX W1 P1 HA;obtain ⟨aa,ac,avs,rfl,-⟩:=id VA.out;obtain ⟨ba,bc,bvs,rfl,-⟩:=id VB.out;go_wp2_with (first | go_skip | (with_reducible refine z0b (t:=53) ?_) | (with_reducible refine zf (t:=53) ?_))
   refine za (valloc (z:=.agg #[.string ByteArray.empty,.bool false,.slice none 0 0,.int .i64 0]) (by kernel_rfl) ?_);intro bA w8 n6;simp only [Nat.reduceAdd,qn];go_wp2_with (first | go_skip | (with_reducible refine z0b (t:=53) ?_) | (with_reducible refine zf (t:=53) ?_))
   refine za (valloc (z:=.agg #[.string ByteArray.empty,.bool false,.slice none 0 0,.int .i64 0]) (by kernel_rfl) ?_);intro bB w9 n7;simp only [Nat.reduceAdd,qn];go_wp2_with (first | go_skip | (with_reducible refine z0b (t:=53) ?_) | (with_reducible refine zf (t:=53) ?_))
   refine za (zc rfl (zd (v:=.agg (Ka.cs (.slice aa Ka.all.length ac))) (n:=4) (by kernel_rfl) (by rfl) (by rfl) (n7.k.nb n6.blk) (by rfl) (by simp [Value.cells]) (Ks.one _)) ?_);intro w10 s8;simp only [Nat.reduceAdd,qn];go_wp2_with (first | go_skip | (with_reducible refine z0b (t:=53) ?_) | (with_reducible refine zf (t:=53) ?_))
   have hab:bB ≠ bA:=fun e=>by have:=n6.lt;have:=n7.ge;omega
   refine za (zc rfl (zd (v:=.agg (Kb.cs (.slice ba Kb.all.length bc))) (n:=4) (by kernel_rfl) (by rfl) (by rfl) (s8.k.at n7.blk hab) (by rfl) (by simp [Value.cells]) (Ks.one _)) ?_);intro w11 s9;simp only [Nat.reduceAdd,qn];obtain ⟨O1,hO1⟩:∃ P:Nat -> Prop,(fun k=>O' k \/ (k=bA \/ k=bB))=P:=⟨_,rfl⟩
   have ST:Hid (St w w11 d Y O1 bA bB Ka Kb 182 20000 2000):=qq (by
    have hg6:=n6.ge;have hg7:=n7.ge;have hz6:=n6.k.size;have hz5:w.heap.size <= w7.heap.size:=H7.out.k.size;have hB1:Box w11 bA Ka (.slice aa Ka.all.length ac):=s9.k.at (by have:=s8.blk;rw [show splice (Value.agg #[.string ByteArray.empty,.bool false,.slice none 0 0,.int .i64 0]).cells (Value.agg (Ka.cs (.slice aa Ka.all.length ac))).cells 0=Ka.cs (.slice aa Ka.all.length ac) from z01 rfl] at this;exact this) (Ne.symm hab)
    have hB2:Box w11 bB Kb (.slice ba Kb.all.length bc):=by have:=s9.blk;rw [show splice (Value.agg #[.string ByteArray.empty,.bool false,.slice none 0 0,.int .i64 0]).cells (Value.agg (Kb.cs (.slice ba Kb.all.length bc))).cells 0=Kb.cs (.slice ba Kb.all.length bc) from z01 rfl] at this;exact this
    have h9:LS w w11 x d L' Y fun k=>O' k \/ (k=bA \/ k=bB):=((H7.out.add (N:=fun k=>k=bA \/ k=bB) (n6.k.trans_nb n7.k) (fun k e=>by have:=n6.lt;have:=n7.lt;have:=n7.k.size;omega)).set s8.k (fun k e=>by have e:k=bA:=e;subst e;exact ⟨.inr (.inl rfl),by omega⟩)).set s9.k (fun k e=>by have e:k=bB:=e;subst e;exact ⟨.inr (.inr rfl),by omega⟩);have k59:Keeps (fun k=>w7.heap.size <= k) w7 w11:=(((n6.k.trans_nb n7.k).of_nb).trans s8.k (fun j hj e=>by have e:j=bA:=e;subst e;exact hg6)).trans s9.k (fun j hj e=>by have e:j=bB:=e;subst e;show w7.heap.size <= _;omega);have hr:∀ {v:Value} {ls:List (List Nat)},RB w7 (Own w O') v ls -> RB w11 (Own w O1) v ls:=fun h=>(h.keeps k59 fun k e f=>by have f:w7.heap.size <= k:=f;exact e.elim (fun e=>by omega) (fun e=>by have:=H7.out.lt e;omega)).mono fun k e=>e.imp id fun e=>by rw [<- hO1];exact .inl e
    rw [hO1] at h9
    exact ⟨h9.disk,INN.out,⟨⟨aa,ac,ba,bc,hB1,hB2,hr VA.out,hr VB.out⟩,by rw [<- hO1];exact .inr (.inl rfl),by rw [<- hO1];exact .inr (.inr rfl),Ne.symm hab⟩,WTY.out,by have:=POT.out;omega⟩)
   have HAB:Hid (w.heap.size <= bA /\ w.heap.size <= bB):=qq (by have hg6:=n6.ge;have hg7:=n7.ge;have:=n6.k.size;have:=H7.out.k.size;omega);clear n6 n7 s8 s9 hab hO1 VA VB H7 INN WTY POT;have DE:=zgv ST.out.disk;obtain ⟨dd,hdd⟩:∃ b,Y.D.dead=b:=⟨_,rfl⟩
   rw [hdd] at DE;replace DE:=qq DE;clear hdd;go_wp2_with fail;refine DE.out.mono ?_;rintro _ _ ⟨rfl,rfl⟩;clear DE
   go_upto_if 85 with fail
   go_cut [17] from 84 (fun s17 wx=>∃ d' X',s17=.pointer (some ⟨d',0,none⟩) /\ St w wx d' X' O1 bA bB Ka Kb 182 20000 2000)
   case first =>
    cases dd with
    | true =>
     have CR:=qq (z6b ST.out HPV.out (by omega) (by omega));go_wp2_with fail;refine CR.out.mono ?_;rintro _ w12 ⟨d',X',rfl,hst,-⟩;have ST2:Hid (St w w12 d' X' O1 bA bB Ka Kb 182 20000 2000):=qq (hst.mono (Nat.le_refl _) (by omega) (by omega));clear hst CR ST;go_wp2;go_meet
     case rel=>exact ⟨_,_,rfl,ST2.out⟩
    | false =>
     have FU:=qq (zbo ST.out (-1) (by simp [I64]));go_wp2_with fail;refine FU.out.mono ?_;rintro _ w12 ⟨⟨v,rfl⟩,hst,-⟩;have ST2:=qq hst;clear hst FU ST;go_wp2;go_meet
     case rel=>exact ⟨_,_,rfl,ST2.out⟩
   case rest =>
    clear ST;obtain ⟨d2,X2,rfl,hst⟩:=hcut;have ST:=qq hst;clear hst;have FU:=qq (zbo ST.out again HAG.out);go_wp2_with fail;refine FU.out.mono ?_;rintro _ w13 ⟨⟨v13,rfl⟩,hst,-⟩;have ST3:=qq hst;clear hst FU ST;have OP:=qq (z7v (mo:=mo) ST3.out (by omega) (by omega) (by omega));clear ST3;go_wp2_with fail;refine OP.out.mono ?_;rintro e14 w14 ⟨er,N,Z,hc,-,hst,-⟩;have ST4:=qq hst;have HC:=qq hc;clear hst OP;obtain ⟨yv,ho,hyv⟩:∃ yv,(er=0 -> ∃ l,yv=.pointer (some ⟨l,0,none⟩) /\ LS w w14 l d2 N Z O1 /\ (Ka.Is N \/ Kb.Is N)) /\ e14=.returned (.tuple #[yv,.int .i64 er]):=by
     rcases hc with ⟨rfl,l,rfl,g1,g2,-⟩ | ⟨h0,rfl⟩
     ·exact ⟨_,fun _=>⟨l,rfl,g1,g2⟩,rfl⟩
     ·exact ⟨_,fun e=>absurd e h0,rfl⟩
    subst hyv;have HO:=qq ho;clear ho hc HC;go_wp2_with fail;refine (z0r er w14).mono ?_;rintro _ _ ⟨rfl,rfl⟩
    go_upto_if 104 with fail
    go_cut [] from 84 (fun wx=>∃ Z',St w wx d2 Z' O1 bA bB Ka Kb 184 20004 2012)
    case first =>
     by_cases h0:er=0
     ·
      subst h0;obtain ⟨y,rfl,hls,his⟩:=HO.out rfl;have HY:=qq hls;have IS:=qq his;obtain ⟨aa,ac,ba,bc,h1,h2,h3,h4⟩:=ST4.out.duo.ex;have BA:=qq h1;have BB:=qq h2;have VA:=qq h3;have VB:=qq h4;have IA:=qq (z4a hls Ka _ _ h3);clear hls his HO h1 h2 h3 h4;go_wp2_with (first | go_skip | (with_reducible refine z06 (t:=53) ?_))
      refine za (zn (v:=.agg (Ka.cs (.slice aa Ka.all.length ac))) rfl (zy agg53 (by rfl) (zm BA.out) rfl) ?_);simp only [Nat.reduceAdd,qn];go_wp2_with fail;refine IA.out.mono ?_;rintro _ w15 ⟨r,rfl,hi,-,k15⟩;have ST5:Hid (St w w15 d2 Z O1 bA bB Ka Kb 184 20004 2012):=qq (zgg ST4.out k15);cases r with
      | true =>
       clear hi k15 IA ST4;go_wp2;go_meet
       case rel=>exact ⟨_,ST5.out⟩
      | false =>
       have hb:Kb.Is N:=IS.out.resolve_left fun h=>by have:=hi h;cases this
       have IB:=qq (z4a (HY.out.nb k15) Kb _ _ (VB.out.keeps k15 (fun _ _ e=>e)));have BB15:=qq (k15.nb BB.out);have HBI:=qq hb;clear hi k15 IA ST4 hb;go_wp2_with (first | go_skip | (with_reducible refine z06 (t:=53) ?_))
       refine za (zn (v:=.agg (Kb.cs (.slice ba Kb.all.length bc))) rfl (zy agg53 (by rfl) (zm BB15.out) rfl) ?_);simp only [Nat.reduceAdd,qn];go_wp2_with fail;refine IB.out.mono ?_;rintro _ w16 ⟨r,rfl,hi,-,k16⟩;obtain rfl:=hi HBI.out;have ST6:=qq (zgg ST5.out k16);clear hi k16 IB ST5;go_wp2;go_meet
       case rel=>exact ⟨_,ST6.out⟩
     ·
      have t0:(er == 0)=false:=by simpa using h0
      clear h0;go_wp2;go_meet
      case rel=>exact ⟨_,ST4.out.mono (Nat.le_refl _) (Nat.le_refl _) (by omega)⟩
    case rest =>
     clear ST4 HO;obtain ⟨Z',hst⟩:=hcut;have ST:=qq hst;clear hst;have CR:=qq (z6b ST.out HPV.out (by omega) (by omega));clear ST;go_wp2_with fail;refine CR.out.mono ?_;rintro _ w17 ⟨c3,X3,rfl,hst,hF,hfe⟩;have OP:=qq (z7v (mo:=mo) hst (by omega) (by omega) (by omega));have HFE:Hid (Fau X3.D /\ X3.D.fe=0):=⟨hF,hfe⟩
     clear hst hF hfe CR;go_wp2_with fail;refine OP.out.mono ?_;rintro _ w18 ⟨er2,N2,Z2,hc,her,hst,-⟩;obtain rfl:=her HFE.out.1 HFE.out.2;obtain ⟨-,y,rfl,hls,his,hsy,g2,hli⟩:=hc.resolve_right fun h=>h.1 rfl;have ST:=qq hst;have HY:=qq hls;have IS:=qq his;have SY:=qq hsy;have LI2:=qq hli;obtain ⟨aa,ac,ba,bc,h1,h2,h3,h4⟩:=hst.duo.ex;have BA:=qq h1;have BB:=qq h2;have VA:=qq h3;have VB:=qq h4;clear hc her hst hls his hsy hli h1 h2 h3 h4 OP HFE
     go_upto_region 24 with fail
     go_cut [142] from 124 (fun s142 wx=>s142=.bool false /\ Keeps Nb w18 wx)
     case first =>
      go_wp2_with fail;refine (z0r 0 w18).mono ?_;rintro _ _ ⟨rfl,rfl⟩;go_wp2_with (first | go_skip | (with_reducible refine z06 (t:=53) ?_))
      refine za (zn (v:=.agg (Ka.cs (.slice aa Ka.all.length ac))) rfl (zy agg53 (by rfl) (zm BA.out) rfl) ?_);simp only [Nat.reduceAdd,qn];have IA:=qq (z4a HY.out Ka _ _ VA.out);go_wp2_with fail;refine IA.out.mono ?_;rintro _ w19 ⟨r,rfl,hi,-,k19⟩;have K19:=qq k19;cases r with
      | true =>
       clear hi k19 IA;go_wp2;go_meet
       case rel=>exact ⟨rfl,K19.out⟩
      | false =>
       have hb:Kb.Is N2:=IS.out.resolve_left fun h=>by have:=hi h;cases this
       have IB:=qq (z4a (HY.out.nb k19) Kb _ _ (VB.out.keeps k19 (fun _ _ e=>e)));have BB19:=qq (k19.nb BB.out);have HBI:=qq hb;clear hi k19 IA hb;go_wp2_with (first | go_skip | (with_reducible refine z06 (t:=53) ?_))
       refine za (zn (v:=.agg (Kb.cs (.slice ba Kb.all.length bc))) rfl (zy agg53 (by rfl) (zm BB19.out) rfl) ?_);simp only [Nat.reduceAdd,qn];go_wp2_with fail;refine IB.out.mono ?_;rintro _ w20 ⟨r,rfl,hi,-,k20⟩;obtain rfl:=hi HBI.out;have K20:=qq (K19.out.trans_nb k20);clear hi k20 IB K19;go_wp2;go_meet
       case rel=>exact ⟨rfl,K20.out⟩
     case rest =>
      obtain ⟨rfl,k20⟩:=hcut;have K20:=qq k20;clear k20;go_wp2_with (first | go_skip | (with_reducible refine z06 (t:=53) ?_) | (with_reducible refine z0b (t:=53) ?_) | (with_reducible refine zf (t:=53) ?_))
      refine za (zn (v:=.agg (Kb.cs (.slice ba Kb.all.length bc))) rfl (zy agg53 (by rfl) (zm (K20.out.nb BB.out)) rfl) ?_);simp only [Nat.reduceAdd,qn];go_wp2_with (first | go_skip | (with_reducible refine z06 (t:=53) ?_) | (with_reducible refine z0b (t:=53) ?_) | (with_reducible refine zf (t:=53) ?_))
      refine za (valloc (z:=.agg #[.string ByteArray.empty,.bool false,.slice none 0 0,.int .i64 0]) (by kernel_rfl) ?_);intro bK w21 n21;simp only [Nat.reduceAdd,qn];go_wp2_with (first | go_skip | (with_reducible refine z06 (t:=53) ?_) | (with_reducible refine z0b (t:=53) ?_) | (with_reducible refine zf (t:=53) ?_))
      refine za (zc rfl (zd (v:=.agg (Kb.cs (.slice ba Kb.all.length bc))) (n:=4) (by kernel_rfl) (by rfl) (by rfl) n21.blk (by rfl) (by simp [Value.cells]) (Ks.one _)) ?_);intro w22 s22;simp only [Nat.reduceAdd,qn];obtain ⟨O2,hO2⟩:∃ P:Nat -> Prop,(fun k=>O1 k \/ k=bK)=P:=⟨_,rfl⟩
      have hgK:Hid (w18.heap.size <= bK):=qq (by have:=n21.ge;have:=K20.out.size;omega);have HK2:Hid (Keeps (·=bK) w18 w22):=qq (((K20.out.trans_nb n21.k).of_nb).trans s22.k (fun _ _ e=>e));have BK:Hid (Box w22 bK Kb (.slice ba Kb.all.length bc)):=qq (by have:=s22.blk;rw [show splice (Value.agg #[.string ByteArray.empty,.bool false,.slice none 0 0,.int .i64 0]).cells (Value.agg (Kb.cs (.slice ba Kb.all.length bc))).cells 0=Kb.cs (.slice ba Kb.all.length bc) from z01 rfl] at this;exact this);have HO2:Hid (O2 bK /\ ∀ k,O1 k -> O2 k):=qq (by rw [<- hO2];exact ⟨.inr rfl,fun k e=>.inl e⟩)
      have HY22:Hid (LS w w22 y c3 N2 Z2 O2):=qq (by
       have:=HY.out.k.size;have:=hgK.out;rw [<- hO2]
       exact (HY.out.add (N:=(·=bK)) (K20.out.trans_nb n21.k) (fun k e=>by have e:k=bK:=e;have:=n21.lt;omega)).set s22.k (fun k e=>by have e:k=bK:=e;subst e;exact ⟨.inr rfl,by omega⟩))
      have NK:Hid (¬ O1 bK /\ w.heap.size <= bK):=qq ⟨fun f=>by have:=hgK.out;have:=HY.out.lt f;omega,by have:=hgK.out;have:=HY.out.k.size;omega⟩;have D22:Hid (Duo w w22 O1 bA bB Ka Kb):=qq (z95 ST.out.duo HK2.out (fun k e f=>by have f:k=bK:=f;subst f;exact NK.out.1 e) (fun k e f=>by have f:k=bK:=f;have:=NK.out.2;omega) (fun _ e=>e));have WZ:Hid (Wt 186 4 Z2 /\ pot Z2 <= 400):=qq ⟨ST.out.wt.mono (by omega) (by omega),by have:=ST.out.pot;omega⟩;clear n21 s22 hO2 HK2 HY ST BA BB VA VB K20 hgK;obtain ⟨aa2,ac2,ba2,bc2,h1,h2,h3,h4⟩:=D22.out.ex;have BA:=qq h1;have VA:=qq h3;have IA:=qq (z4a HY22.out Ka _ _ h3);clear h1 h2 h3 h4;go_wp2_with (first | go_skip | (with_reducible refine z06 (t:=53) ?_) | (with_reducible refine z0b (t:=53) ?_) | (with_reducible refine zf (t:=53) ?_))
      refine za (zn (v:=.agg (Ka.cs (.slice aa2 Ka.all.length ac2))) rfl (zy agg53 (by rfl) (zm BA.out) rfl) ?_);simp only [Nat.reduceAdd,qn];go_wp2_with fail;refine IA.out.mono ?_;rintro _ w23 ⟨r,rfl,hi,hi2,k23⟩;have K23:=qq k23;have HI:=qq hi;have HI2:=qq hi2;clear k23 hi hi2 IA
      go_upto_if 146 with fail
      go_cut [] from 143 (fun wx=>∃ kk ka kc,Box wx bK kk (.slice ka kk.all.length kc) /\ bstr (snapOf N2)=kk.s /\ N2.has=kk.has /\ LS w wx y c3 N2 Z2 O2 /\ Duo w wx O1 bA bB Ka Kb)
      case first =>
       cases r with
       | true =>
        have BA23:=qq (K23.out.nb BA.out);have BK23:=qq (K23.out.nb BK.out);clear BA BK;go_wp2_with (first | go_skip | (with_reducible refine z06 (t:=53) ?_) | (with_reducible refine zf (t:=53) ?_))
        refine za (zn (v:=.agg (Ka.cs (.slice aa2 Ka.all.length ac2))) rfl (zy agg53 (by rfl) (zm BA23.out) rfl) ?_);simp only [Nat.reduceAdd,qn];go_wp2_with (first | go_skip | (with_reducible refine z06 (t:=53) ?_) | (with_reducible refine zf (t:=53) ?_))
        refine za (zc rfl (zd (v:=.agg (Ka.cs (.slice aa2 Ka.all.length ac2))) (n:=4) (by kernel_rfl) (by rfl) (by rfl) BK23.out (by rfl) (by simp [Value.cells,Ks.cs]) (Ks.one _)) ?_);intro w24 s24;simp only [Nat.reduceAdd,qn]
        have F:Hid (∃ kk ka kc,Box w24 bK kk (.slice ka kk.all.length kc) /\ bstr (snapOf N2)=kk.s /\ N2.has=kk.has /\ LS w w24 y c3 N2 Z2 O2 /\ Duo w w24 O1 bA bB Ka Kb):=qq (by
         obtain ⟨j1,j2⟩:=HI2.out trivial;refine ⟨Ka,aa2,ac2,?_,j1,j2,(HY22.out.nb K23.out).set s24.k (fun k e=>by have e:k=bK:=e;subst e;exact ⟨HO2.out.1,NK.out.2⟩),z95 (D22.out.nb K23.out) s24.k (fun k e f=>by have f:k=bK:=f;subst f;exact NK.out.1 e) (fun k e f=>by have f:k=bK:=f;have:=NK.out.2;omega) (fun _ e=>e)⟩
         have:=s24.blk;rw [show splice (Kb.cs (.slice ba Kb.all.length bc)) (Value.agg (Ka.cs (.slice aa2 Ka.all.length ac2))).cells 0=Ka.cs (.slice aa2 Ka.all.length ac2) from z01 rfl] at this;exact this)
        clear s24 BA23 BK23;go_wp2;go_meet
        case rel=>exact F.out
       | false =>
        have F:Hid (∃ kk ka kc,Box w23 bK kk (.slice ka kk.all.length kc) /\ bstr (snapOf N2)=kk.s /\ N2.has=kk.has /\ LS w w23 y c3 N2 Z2 O2 /\ Duo w w23 O1 bA bB Ka Kb):=qq (by
         have hb:Kb.Is N2:=IS.out.resolve_left fun h=>by have:=HI.out h;cases this
         exact ⟨Kb,ba,bc,K23.out.nb BK.out,hb.s,hb.has,HY22.out.nb K23.out,D22.out.nb K23.out⟩)
        go_wp2;go_meet
        case rel=>exact F.out
      case rest =>
       clear BA BK VA HY22 D22 K23 HI HI2;obtain ⟨kk,ka,kc,hk1,hk2,hk3,hls,hduo⟩:=hcut;have BK:=qq hk1;have HKS:=qq hk2;have HKH:=qq hk3;have HY3:=qq hls;have HD3:=qq hduo;have GA:=qq (z8f hls);clear hk1 hk2 hk3 hls hduo;go_wp2_with fail;refine GA.out.mono ?_;rintro _ w25 ⟨gv,gvs,rfl,hgr,hgb,k25⟩;obtain ⟨-,-,ga,gc,rfl,-⟩:=id hgr
       have hG:∃ G:Nat -> Prop,LS w w25 y c3 N2 Z2 (fun k=>O2 k \/ G k) /\ RB w25 G (.slice ga N2.recs.length gc) N2.recs /\ ∀ k,G k -> k ≠ bK /\ k ≠ bA /\ k ≠ bB :=
        ⟨_,HY3.out.add k25 (fun k e=>e),RB.of hgr hgb (fun _ e=>e) (fun _ e=>e.1),fun k e=>by
         have h1:=HY3.out.lt HO2.out.1;have h2:=HY3.out.lt (HO2.out.2 _ HD3.out.oa);have h3:=HY3.out.lt (HO2.out.2 _ HD3.out.ob);have h4:=e.1;omega⟩
       obtain ⟨G,hg1,hg2,hg3⟩:=hG;obtain ⟨rn,hrn⟩:∃ n,N2.recs.length=n:=⟨_,rfl⟩
       have HRN:=qq hrn;have LN:=zdl hg1;rw [hrn] at hg2 LN ⊢;have HG1:=qq hg1;have HG2:=qq hg2;have HG3:=qq hg3;have BK25:=qq (k25.nb BK.out);have D25:=qq (HD3.out.nb k25);replace LN:=qq LN;clear hgr hgb k25 hg1 hg2 hg3 hrn GA BK HY3 HD3;go_wp2_with fail;refine LN.out.mono ?_;rintro _ _ ⟨rfl,rfl⟩;clear LN;go_wp2_with (first | go_skip | (with_reducible refine zf (t:=27) ?_) | (with_reducible refine zf (t:=3) ?_))
       refine za (zc rfl (zd (v:=.slice ga rn gc) (n:=1) (by kernel_rfl) (by rfl) (by rfl) BK25.out (by rfl) (by simp [Value.cells,Ks.cs]) (by simp [Value.cells,Value.oneCell'])) ?_);intro w26 s26;simp only [Nat.reduceAdd,qn];go_wp2_with (first | go_skip | (with_reducible refine zf (t:=27) ?_) | (with_reducible refine zf (t:=3) ?_))
       refine za (zc rfl (zd (v:=.int .i64 (rn:Nat)) (n:=1) (by kernel_rfl) (by rfl) (by rfl) s26.blk (by rfl) (by simp [Value.cells,Ks.cs,splice]) (by simp [Value.cells,Value.oneCell'])) ?_);intro w27 s27;simp only [Nat.reduceAdd,qn];obtain ⟨K,hK⟩:∃ K:Ks,K=⟨kk.s,kk.has,N2.recs,(rn:Int)⟩:=⟨_,rfl⟩
       have KA:Hid (K.all=N2.recs):=qq (by rw [hK]);have BK27:Hid (w27.heap[bK]?=some (.cells (K.cs (.slice ga rn gc)) 53 (0,0))):=qq (by rw [hK];exact s27.blk)
       have KX2:Hid (KW K N2 g2):=qq (by
        have:=zhc LI2.out SY.out HKS.out HKH.out;rw [HRN.out] at this
        rw [hK];exact this)
       have k26:Keeps (·=bK) w25 w27:=s26.k.trans s27.k (fun _ _ e=>e);obtain ⟨O3,hO3⟩:∃ P:Nat -> Prop,(fun k=>O2 k \/ G k)=P:=⟨_,rfl⟩
       have HO3:Hid (∀ k,O1 k -> O3 k):=qq fun k e=>by rw [<- hO3];exact .inl (HO2.out.2 k e)
       have H27:Hid (LS w w27 y c3 N2 Z2 O3):=qq (by rw [<- hO3];exact HG1.out.set k26 (fun k e=>by have e:k=bK:=e;subst e;exact ⟨.inl HO2.out.1,NK.out.2⟩));have D27:Hid (Duo w w27 O1 bA bB Ka Kb):=qq (z95 D25.out k26 (fun k e f=>by have f:k=bK:=f;subst f;exact NK.out.1 e) (fun k e f=>by have f:k=bK:=f;have:=NK.out.2;omega) (fun _ e=>e))
       have R27:Hid (RB w27 (OwnE (fun k=>k=bA \/ k=bB) w O3) (.slice ga rn gc) K.all):=qq (by
        rw [KA.out]
        exact (HG2.out.keeps k26 (fun k e f=>(HG3.out k e).1 f)).mono fun k e=>.inr ⟨by rw [<- hO3];exact .inr e,fun f=>f.elim (HG3.out k e).2.1 (HG3.out k e).2.2⟩)
       clear s26 s27 k26 hK hO3 BK25 D25 HG1 HG2 HG3 HKS HKH HO2 NK;have OKP:=zgn (n:=more.length) LI2.out WZ.out.1 IS.out ALL.out.1 ALL.out.2 (by have:=WZ.out.2;omega) (by omega) (by rw [HL2.out];exact hm2);have PLX:=qq (z9r (E:=fun k=>k=bA \/ k=bB) H27.out (fun k e=>by have h1:=H27.out.lt (HO3.out _ D27.out.oa);have h2:=H27.out.lt (HO3.out _ D27.out.ob);rcases e with rfl | rfl <;> omega) K (.slice ga rn gc) R27.out a2 c2 more (by rw [HL2.out];exact HST2.out) HFEW2.out.2 OKP.1 (by rw [KA.out,HL2.out];have:=OKP.2.1;omega));rw [HL2.out] at PLX;clear OKP;go_wp2_with (first | go_skip | (with_reducible refine z06 (t:=53) ?_) | (with_reducible refine zf (t:=53) ?_))
       refine za (zn (v:=.agg (K.cs (.slice ga rn gc))) rfl (zy agg53 (by rfl) (zm BK27.out) rfl) ?_);simp only [Nat.reduceAdd,qn];go_wp2_with fail;refine PLX.out.mono ?_;rintro _ w28 ⟨Kc,Kd,vc,vd,L3,Y3,O4,t4,rfl,hls,hO4,hvc,hvd,hra,hpb,-,hk28⟩;obtain ⟨ca,cc,cvs,rfl,-⟩:=id hvc;obtain ⟨da,dc,dvs,rfl,-⟩:=id hvd;obtain ⟨aa3,ac3,ba3,bc3,h1,h2,-,-⟩:=D27.out.ex;have BA28:=qq (Oth.at hk28 h1 (HO3.out _ D27.out.oa));have BB28:=qq (Oth.at hk28 h2 (HO3.out _ D27.out.ob));have VC:=qq hvc;have VD:=qq hvd;have H28:=qq hls;have OAB:Hid (O4 bA /\ O4 bB /\ bA ≠ bB /\ w.heap.size <= bA /\ w.heap.size <= bB):=qq ⟨hO4 _ (HO3.out _ D27.out.oa),hO4 _ (HO3.out _ D27.out.ob),D27.out.ne,HAB.out.1,HAB.out.2⟩;have INN:Hid (InAB sw Kc Kd Y3):=qq (z83 LI2.out KX2.out (z7c HST2.out HFEW2.out) hra)
       have WTY:Hid (Wt 400 30000 Y3):=qq ((zbc WZ.out.1 hra).mono (by rw [HL2.out];omega) (by
        rw [HL2.out];have h1:m2 * (8 + 186 + 3 * m2) <= 60 * 374:=Nat.mul_le_mul (by omega) (by omega)
        omega))
       have POT:Hid (pot Y3 <= 2000):=qq (by have:=hpb.pot;rw [HL2.out] at this;have:=WZ.out.2;omega);clear hls hO4 hvc hvd hra hpb hk28 h1 h2 PLX H27 D27 R27 BK27 KX2 LI2 SY IS WZ ALL KA HO3;go_wp2_with (first | go_skip | (with_reducible refine z06 (t:=53) ?_) | (with_reducible refine zf (t:=53) ?_))
       refine za (zc rfl (zd (v:=.agg (Kc.cs (.slice ca Kc.all.length cc))) (n:=4) (by kernel_rfl) (by rfl) (by rfl) BA28.out (by rfl) (by simp [Value.cells,Ks.cs]) (Ks.one _)) ?_);intro w29 s29;simp only [Nat.reduceAdd,qn];go_wp2_with (first | go_skip | (with_reducible refine z06 (t:=53) ?_) | (with_reducible refine zf (t:=53) ?_))
       refine za (zc rfl (zd (v:=.agg (Kd.cs (.slice da Kd.all.length dc))) (n:=4) (by kernel_rfl) (by rfl) (by rfl) (s29.k.at BB28.out (fun e=>OAB.out.2.2.1 e.symm)) (by rfl) (by simp [Value.cells,Ks.cs]) (Ks.one _)) ?_);intro w30 s30;simp only [Nat.reduceAdd,qn]
       have ST:Hid (St w w30 c3 Y3 O4 bA bB Kc Kd 400 30000 2000):=qq (by
        obtain ⟨o1,o2,o3,o4,o5⟩:=OAB.out;have hB1:Box w30 bA Kc (.slice ca Kc.all.length cc):=s30.k.at (by have:=s29.blk;rw [show splice (Ka.cs (.slice aa3 Ka.all.length ac3)) (Value.agg (Kc.cs (.slice ca Kc.all.length cc))).cells 0=Kc.cs (.slice ca Kc.all.length cc) from z01 rfl] at this;exact this) o3;have hB2:Box w30 bB Kd (.slice da Kd.all.length dc):=by have:=s30.blk;rw [show splice (Kb.cs (.slice ba3 Kb.all.length bc3)) (Value.agg (Kd.cs (.slice da Kd.all.length dc))).cells 0=Kd.cs (.slice da Kd.all.length dc) from z01 rfl] at this;exact this
        have hr:∀ {v:Value} {ls:List (List Nat)},RB w28 (OwnE (fun k=>k=bA \/ k=bB) w O4) v ls -> RB w30 (Own w O4) v ls:=fun h=>((h.keeps s29.k fun k e f=>by
         have f:k=bA:=f;subst f
         exact e.elim (fun e=>by omega) (fun e=>e.2 (.inl rfl))).keeps s30.k fun k e f=>by
          have f:k=bB:=f;subst f
          exact e.elim (fun e=>by omega) (fun e=>e.2 (.inr rfl))).mono fun k e=>e.imp id fun e=>e.1
        exact ⟨((H28.out.set s29.k (fun k e=>by have e:k=bA:=e;subst e;exact ⟨o1,o4⟩)).set s30.k (fun k e=>by have e:k=bB:=e;subst e;exact ⟨o2,o5⟩)).disk,INN.out,⟨⟨ca,cc,da,dc,hB1,hB2,hr VC.out,hr VD.out⟩,o1,o2,o3⟩,WTY.out,POT.out⟩)
       clear s29 s30 BA28 BB28 VC VD H28 INN WTY POT OAB HAB;have CR:=qq (z6b ST.out HPV.out (by omega) (by omega));clear ST;go_wp2_with fail;refine CR.out.mono ?_;rintro _ w31 ⟨c4,X4,rfl,hst,hF,hfe⟩;have OP:=qq (z7v (mo:=mo) hst (by omega) (by omega) (by omega));have HFE:Hid (Fau X4.D /\ X4.D.fe=0):=⟨hF,hfe⟩
       clear hst hF hfe CR;go_wp2_with fail;refine OP.out.mono ?_;rintro _ w32 ⟨er3,N3,Z3,hc,her,hst,-⟩;obtain rfl:=her HFE.out.1 HFE.out.2;obtain ⟨-,z,rfl,hls,his,-,-⟩:=hc.resolve_right fun h=>h.1 rfl;have HY:=qq hls;have IS:=qq his;obtain ⟨aa4,ac4,ba4,bc4,h1,h2,h3,h4⟩:=hst.duo.ex;have BA:=qq h1;have BB:=qq h2;have VB:=qq h4;have IA:=qq (z4a hls Kc _ _ h3);clear hc her hst hls his h1 h2 h3 h4 OP HFE;go_wp2_with fail;refine (z0r 0 w32).mono ?_;rintro _ _ ⟨rfl,rfl⟩;go_wp2_with (first | go_skip | (with_reducible refine z06 (t:=53) ?_))
       refine za (zn (v:=.agg (Kc.cs (.slice aa4 Kc.all.length ac4))) rfl (zy agg53 (by rfl) (zm BA.out) rfl) ?_);simp only [Nat.reduceAdd,qn];go_wp2_with fail;refine IA.out.mono ?_;rintro _ w33 ⟨r,rfl,hi,-,k33⟩;cases r with
       | true =>
        have F:=qq (HY.out.k.trans_nb k33);clear hi k33 IA;go_wp2;go_ret;exact ⟨rfl,F.out⟩
       | false =>
        have hb:Kd.Is N3:=IS.out.resolve_left fun h=>by have:=hi h;cases this
        have IB:=qq (z4a (HY.out.nb k33) Kd _ _ (VB.out.keeps k33 (fun _ _ e=>e)));have BB33:=qq (k33.nb BB.out);have HBI:=qq hb;have K33:=qq (HY.out.k.trans_nb k33);clear hi k33 IA hb;go_wp2_with (first | go_skip | (with_reducible refine z06 (t:=53) ?_))
        refine za (zn (v:=.agg (Kd.cs (.slice ba4 Kd.all.length bc4))) rfl (zy agg53 (by rfl) (zm BB33.out) rfl) ?_);simp only [Nat.reduceAdd,qn];go_wp2_with fail;refine IB.out.mono ?_;rintro _ w34 ⟨r,rfl,hi,-,k34⟩;obtain rfl:=hi HBI.out;have F:=qq (K33.out.trans_nb k34);clear hi k34 IB;go_wp2;go_ret;exact ⟨rfl,F.out⟩
theorem walk {H:Type} {enc:TypeId × Value -> H} {base:Nat} (w:World) (hv:Vars w) (h6:6 <= w.heap.size) {v0:Value} {d0:DataW H} {p0:List MemPlace} (kv0:Value.okWide Tryz.prog w .any base 34 v0) (k0:DataW.Trod enc Tryz.prog w 0 (fun _=>true) true 34 v0 d0 p0) {v1:Value} {d1:DataW H} {p1:List MemPlace} (kv1:Value.okWide Tryz.prog w .any base 34 v1) (k1:DataW.Trod enc Tryz.prog w 0 (fun _=>true) true 34 v1 d1 p1) {a2:Int} (w2:(Lit.int .i64 a2).wf=true) {a3:Int} (w3:(Lit.int .i64 a3).wf=true) {a4:Int} (w4:(Lit.int .i64 a4).wf=true) {a5:Int} (w5:(Lit.int .i64 a5).wf=true) {a6:Bool} {v7:Value} {d7:DataW H} {p7:List MemPlace} (kv7:Value.okWide Tryz.prog w .any base 35 v7) (k7:DataW.Trod enc Tryz.prog w 0 (fun _=>true) true 35 v7 d7 p7) :
  Calls Tryz.prog 8 #[v0,v1,.int .i64 a2,.int .i64 a3,.int .i64 a4,.int .i64 a5,.bool a6,v7] w fun e w'=>e=.returned (.bool true) /\ Below w.heap.size w w':=by
 obtain ⟨a,c,L,rfl,hs⟩:=z9z kv0 k0;obtain ⟨b,c2,L2,rfl,hs2⟩:=z9z kv1 k1;obtain ⟨zs,hz⟩:∃ zs,PicksV w v7 zs:=by
  obtain ⟨aa,n2,c2,rfl⟩:=Go.WideShapes.okWide_slice Tryz.underlying35 kv7;obtain ⟨m,hm⟩:=k7;obtain ⟨vb,l,e,hb⟩:=z9p hm;have e1:(Value.slice aa n2 c2).cells.toList=[Value.slice aa n2 c2]:=rfl;rw [e1] at e;cases e;exact ⟨l,hb⟩
 refine (body w hv h6 a L.length c L hs b L2.length c2 L2 hs2 a2 a3 a4 a5 (z3v w3) (z3v w4) (z3v w5) a6 v7 zs hz).mono ?_;rintro e w' ⟨h1,h2⟩;exact ⟨h1,h2.below⟩
end Go.Proofs.YtpjomdmjohjheaaGreatDoor.logBack
end
