import Derived.Test.YtpjomdmjohjheaaGreatDoorN2
set_option linter.unusedVariables false
set_option linter.unusedSimpArgs false
set_option maxRecDepth 100000
set_option maxHeartbeats 8000000
section
namespace Go.Log
open Go.Lk Go.RowKit Go.Vfs
variable {its:List (Int × List Nat)} {i:Nat} {p:Int × List Nat}
def endI (its:List (Int × List Nat)) (i:Nat):Int:=((its.take i).getLast?.map Prod.fst).getD 0
theorem zcb (h:its[i]?=some p):endI its (i + 1)=p.1:=by
 have hi:=(List.getElem?_eq_some_iff.1 h).1;unfold endI;rw [List.take_succ_eq_append_getElem hi,List.getLast?_append];have:its[i]=p:=(List.getElem?_eq_some_iff.1 h).2;simp [this]
def goodI (its:List (Int × List Nat)) (i:Nat):Prop:=∀ q ∈ its.take i,0 <= q.1
theorem zb6 (h:its[i]?=some p) (hg:goodI its i) (hp:0 <= p.1):goodI its (i + 1):=by
 have hi:=(List.getElem?_eq_some_iff.1 h).1;intro q hq;rw [List.take_succ_eq_append_getElem hi] at hq;rcases List.mem_append.1 hq with hq | hq
 ·exact hg q hq
 ·rw [List.mem_singleton.1 hq,(List.getElem?_eq_some_iff.1 h).2];exact hp
theorem zcm (h:its[i]?=some p):(its.take (i + 1)).map Prod.snd=(its.take i).map Prod.snd ++ [p.2]:=by
 have hi:=(List.getElem?_eq_some_iff.1 h).1;rw [List.take_succ_eq_append_getElem hi,List.map_append,(List.getElem?_eq_some_iff.1 h).2];rfl
theorem takeWhile_take {α:Type} (f:α -> Bool):∀ (l:List α) (i:Nat),(∀ q ∈ l.take i,f q=true) -> (∀ q,l[i]?=some q -> f q=false) -> l.takeWhile f=l.take i
 | [],i,_,_=>by simp
 | x :: l,0,_,h2=>by rw [List.takeWhile_cons,h2 x rfl];simp
 | x :: l,i + 1,h1,h2=>by
  rw [List.takeWhile_cons,h1 x (by simp),List.take_succ_cons,if_pos rfl,takeWhile_take f l i (fun q hq=>h1 q (by simp [hq])) (fun q hq=>h2 q (by simpa using hq))]
theorem z9b (hg:goodI its i):0 <= endI its i:=by
 unfold endI;cases h:(its.take i).getLast? with
 | none=>simp
 | some q=>exact hg q (List.mem_of_getLast? h)
theorem zbs (hg:goodI its its.length):wholeI its=(its.map Prod.snd,(endI its its.length).toNat,true):=by
 have hgd:good its=its:=by
  have:=takeWhile_take (fun p:Int × List Nat=>decide (0 <= p.1)) its its.length (fun q hq=>by simpa using hg q hq) (fun q hq=>by simp at hq)
  rwa [List.take_length] at this
 unfold wholeI;rw [hgd];simp [endI]
theorem zbt (hg:goodI its i) (h:its[i]?=some p) (hp:p.1 < 0):wholeI its=((its.take i).map Prod.snd,(endI its i).toNat,false):=by
 have hgd:good its=its.take i:=takeWhile_take (fun p:Int × List Nat=>decide (0 <= p.1)) its i (fun q hq=>by simpa using hg q hq) (fun q hq=>by rw [h] at hq;cases hq;simpa using hp);have hi:=(List.getElem?_eq_some_iff.1 h).1;unfold wholeI;rw [hgd];refine Prod.ext rfl (Prod.ext rfl ?_);simp;omega
end Go.Log
namespace Go.Proofs.YtpjomdmjohjheaaGreatDoor
open Go.RowKit Go.Lk Go.Vfs Go.Log
def WholeD (b:List Nat) (w:World) (e:Ending) (w':World):Prop :=
 ∃ lv vs,e=.returned (.tuple #[lv,.int .i64 ((whole b).2.1:Nat),.bool (whole b).2.2]) /\ RowS w' (Since w w') (fun _=>False) 22 1 lv (whole b).1.length vs /\ BytesL w' (SinceB w w') vs (whole b).1 /\ Keeps Nb w w'
def WhI (w0:World) (g5 g6 g7:Nat) (its:List (Int × List Nat)) (i:Nat) (r:Bool) (W:World):Prop :=
 ∃ lv vs,W.heap[g5]?=some (.cells #[lv] 27 (0,0)) /\ W.heap[g6]?=some (.cells #[.int .i64 (endI its i)] 3 (0,0)) /\ W.heap[g7]?=some (.cells #[.bool r] 4 (0,0)) /\
  RowS W (fun b=>w0.heap.size + 2 <= b /\ b < W.heap.size) (fun _=>False) 22 1 lv i vs /\ BytesL W (fun b=>(w0.heap.size + 2 <= b /\ b < W.heap.size) /\ IsT W 5 b) vs ((its.take i).map Prod.snd) /\ goodI its i /\ Keeps (fun b=>w0.heap.size <= b \/ b=g5 \/ b=g6 \/ b=g7) w0 W
theorem WhI.nb {w0 W W':World} {g5 g6 g7 i:Nat} {its:List (Int × List Nat)} {r:Bool} (h:WhI w0 g5 g6 g7 its i r W) (k:Keeps (Book w0) W W') (h5:g5 < w0.heap.size) (h6:g6 < w0.heap.size) (h7:g7 < w0.heap.size):WhI w0 g5 g6 g7 its i r W':=by
 obtain ⟨lv,vs,e1,e2,e3,e4,e5,e6,e7⟩:=h;have kz:=k.size;have nb:∀ {b:Nat},w0.heap.size + 2 <= b -> ¬ Book w0 b:=fun h e=>by unfold Book at e;omega
 have nl:∀ {b:Nat},b < w0.heap.size -> ¬ Book w0 b:=fun h e=>by unfold Book at e;omega
 refine ⟨lv,vs,k.at e1 (nl h5),k.at e2 (nl h6),k.at e3 (nl h7),(e4.keeps k (fun b hb _=>nb (hb.elim (fun h=>h.1) (fun h=>h.elim)))).mono (fun b hb=>⟨hb.1,by omega⟩) (fun _ h=>h),(e5.keeps k (fun b hb=>nb hb.1.1)).mono (fun b hb=>⟨⟨hb.1.1,by have:=hb.1.2;omega⟩,hb.2.keeps k (nb hb.1.1)⟩),e6,e7.trans k (fun b _ e=>by unfold Book at e;exact .inl (by omega))⟩
theorem z7x {b:List Nat} {w w6 W W':World} {g5 g6 g7 i:Nat} {its:List (Int × List Nat)} {r:Bool} {lv:Value} {vs:List Value} (K6:Keeps Nb w w6) (hits:items (b.length + 1) 0 b=its) (hw:wholeI its=((its.take i).map Prod.snd,(endI its i).toNat,r)) (hi:i <= its.length)
  (e4:RowS W (fun b=>w6.heap.size + 2 <= b /\ b < W.heap.size) (fun _=>False) 22 1 lv i vs) (e5:BytesL W (fun b=>(w6.heap.size + 2 <= b /\ b < W.heap.size) /\ IsT W 5 b) vs ((its.take i).map Prod.snd)) (e6:goodI its i)
  (e7:Keeps (fun b=>w6.heap.size <= b \/ b=g5 \/ b=g6 \/ b=g7) w6 W) (h5:w.heap.size <= g5) (h6:w.heap.size <= g6) (h7:w.heap.size <= g7) (kp:Keeps (·=w6.heap.size) W W'):WholeD b w (.returned (.tuple #[lv,.int .i64 (endI its i),.bool r])) W':=by
 have hwb:whole b=((its.take i).map Prod.snd,(endI its i).toNat,r):=by unfold whole;rw [hits];exact hw
 have z:=K6.size;have zz:=e7.size;have zp:=kp.size;have hlen:((its.take i).map Prod.snd).length=i:=by simp;omega
 refine ⟨lv,vs,?_,?_,?_,(K6.trans e7 (fun j hj e=>by omega)).trans kp (fun j hj e=>by omega)⟩
 ·rw [hwb];have:=z9b e6;simp only;rw [Int.toNat_of_nonneg this]
 ·rw [hwb];simp only;rw [hlen];exact (e4.keeps kp (fun k hk _ e=>by have:=hk.elim (fun h=>h.1) (fun h=>h.elim);omega)).mono (fun k hk=>⟨by have:=hk.1;omega,by have:=hk.2;omega⟩) (fun _ h=>h)
 ·rw [hwb];exact (e5.keeps kp (fun k hk e=>by have:=hk.1;omega)).mono (fun k hk=>⟨⟨by have:=hk.1;omega,by have:=hk.1;omega⟩,hk.2.keeps kp (fun e=>by have:=hk.1;omega)⟩)
attribute [local go_sem] Oper.semAt_some
theorem z5s (v:Value) (b:List Nat) (R:Nat -> Prop) (w:World) (h:Bytes w R v b) (hR:∀ k,R k -> k < w.heap.size) (hl:b.length <= 16777216):Calls Tryz.prog 12 #[v] w (WholeD b w):=by
 obtain ⟨va,vc,rfl,hq⟩:=id h;have HB:=qq h;have HR:=qq hR;have HL:=qq hl;obtain ⟨m,hm⟩:∃ m,b.length=m:=⟨_,rfl⟩
 have HM:=qq hm;rw [hm];clear h hR hl hq hm;refine z1j Tryz.func12 rfl ?_;simp only [Tryz.ntmps12,List.size_toArray,List.length_cons,List.length_nil,Nat.reduceAdd,Nat.reduceSub,Array.replicate_succ,Array.replicate_zero,List.push_toArray,List.append_toArray,List.nil_append,List.cons_append];go_wp2
 go_step3
 go_wp2_with (first | go_skip | (with_reducible refine qv (by decide) ?_))
 refine za (valloc (z:=.slice none 0 0) (by kernel_rfl) ?_);intro g5 w1 n1;simp only [Nat.reduceAdd,qn];go_wp2_with (first | go_skip | (with_reducible refine qv (by decide) ?_))
 refine za (valloc (z:=.int .i64 0) (by kernel_rfl) ?_);intro g6 w2 n2;simp only [Nat.reduceAdd,qn];go_wp2_with (first | go_skip | (with_reducible refine qv (by decide) ?_))
 refine za (valloc (z:=.bool false) (by kernel_rfl) ?_);intro g7 w3 n3;simp only [Nat.reduceAdd,qn];go_wp2_with (first | go_skip | (with_reducible refine qv (by decide) ?_))
 refine za (zc rfl (zd (v:=.int .i64 0) (n:=1) (by kernel_rfl) (by rfl) (by rfl) (n3.k.nb n2.blk) (by rfl) (by simp [Value.cells]) (by simp [Value.cells,Value.oneCell'])) ?_);intro w4 s4;simp only [Nat.reduceAdd,qn];go_wp2_with (first | go_skip | (with_reducible refine qv (by decide) ?_))
 refine za (zc rfl (zd (v:=.bool true) (n:=1) (by kernel_rfl) (by rfl) (by rfl) (s4.k.at n3.blk (fun e=>by have:=n2.lt;have:=n3.ge;omega)) (by rfl) (by simp [Value.cells]) (by simp [Value.cells,Value.oneCell'])) ?_);intro w5 s5;simp only [Nat.reduceAdd,qn];have L12:g5 < g6:=by have:=n1.lt;have:=n2.ge;omega
 have L23:g6 < g7:=by have:=n2.lt;have:=n3.ge;omega
 have B5:Hid (w5.heap[g5]?=some (.cells #[.slice none 0 0] 27 (0,0))):=qq (s5.k.at (s4.k.at (n3.k.nb (n2.k.nb n1.blk)) (fun e=>by omega)) (fun e=>by omega));have B6:Hid (w5.heap[g6]?=some (.cells #[.int .i64 0] 3 (0,0))):=qq (s5.k.at s4.blk (fun e=>by omega));have B7:Hid (w5.heap[g7]?=some (.cells #[.bool true] 4 (0,0))):=qq s5.blk;have K5:Hid (Keeps Nb w w5):=qq ((((n1.k.trans_nb n2.k).trans_nb n3.k).own (k:=g6) (by have:=n1.ge;omega) s4.k).own (k:=g7) (by have:=n1.ge;omega) s5.k);have G5:Hid (w.heap.size <= g5):=qq n1.ge;clear n1 n2 n3 s4 s5;go_wp2
 go_step3
 go_wp2_with fail;refine (zgl va m vc w5).mono ?_;rintro _ w6 ⟨a,rfl,n6⟩;obtain ⟨its,hits⟩:∃ its,items (b.length + 1) 0 b=its:=⟨_,rfl⟩
 have HI:=qq hits;have K6:=qq (K5.out.trans_nb n6.k);have A6:=qq n6.blk;have L5:g7 < w5.heap.size:=lt_of_block B7.out;have hga:=n6.ge;have hal:=n6.lt;have zw6:=K6.out.size;have L6:g7 < w6.heap.size:=by omega
 have W6:Hid (WhI w6 g5 g6 g7 its 0 true w6):=qq ⟨_,[],n6.k.nb B5.out,n6.k.nb B6.out,n6.k.nb B7.out,RowS.nil _ _ _ _ _,BytesL.nil _ _,(fun q hq=>by simp at hq),Keeps.refl _ _⟩;have OI:=zcz 8 (by omega) a (.slice va m vc) b R (fun b=>w6.heap.size <= b \/ b=g5 \/ b=g6 \/ b=g7) w6 n6.blk (by rw [<- HM.out];exact HB.out.keeps K6.out (fun _ _ e=>e)) HL.out (fun e=>by omega) (fun k hk e=>by have:=HR.out k hk;have:=G5.out;omega);rw [hits] at OI;have OIH:=qq OI;clear hits OI n6 B5 B6 B7;go_wp2_with (with_reducible refine z19 ?_)
 refine za ((wpIn_wide (n:=9)).1 ?_)
 refine z2a (gf:=101) (lb:=#[.pointer (some ⟨a,0,none⟩)]) (by rfl) (enters_of Tryz.func101 (by kernel_rfl) rfl) OIH.out
  (fun b hb=>.inl (by unfold Book at hb;omega)) (fun i args W h=>by obtain ⟨p,v,-,rfl,-⟩:=h;rfl)
  (fun i W=>WhI w6 g5 g6 g7 its i true W) (fun c W=>c=.exit 0 /\ ∃ i p,its[i]?=some p /\ p.1 < 0 /\ WhI w6 g5 g6 g7 its i false W)
  (fun i A B h k=>h.nb k (by omega) (by omega) L6) (fun c A B h k=>⟨h.1,by obtain ⟨i,p,h1,h2,h3⟩:=h.2;exact ⟨i,p,h1,h2,h3.nb k (by omega) (by omega) L6⟩⟩) W6.out ?round ?done ?stop
 case round =>
  rintro l i args W rfl hW2 hI hi ⟨p,v,hp,rfl,hv⟩;simp only [List.zip_toArray,List.zip_cons_cons,List.zip_nil_right,List.foldl_toArray,List.foldl_cons,List.foldl_nil,List.setIfInBounds_toArray,List.set_cons_succ,List.set_cons_zero];have HIH:=qq hI;have HP:=qq hp;have HV:=qq hv;clear hI hp hv
  repeat (first | (with_reducible refine zg ?_) | (with_reducible refine stop_range ?_) | gi_step)
  refine za (zh (by kernel_rfl) (by rintro ⟨_,_,h⟩;exact h) ?_);go_wp2
  repeat (first | (with_reducible refine zg ?_) | (with_reducible refine stop_range ?_) | gi_step)
  refine za (zh (by kernel_rfl) (by rintro ⟨_,_,h⟩;exact h) ?_);go_wp2;refine ⟨Keeps.refl _ _,fun W3 k3=>?_⟩;obtain ⟨en,x⟩:=p;have kB:Keeps (Book w6) W W3:=k3.mono (fun i _ e=>.inr e);obtain ⟨lv,vs,e1,e2,e3,e4,e5,e6,e7⟩:=HIH.out.nb kB (by omega) (by omega) L6;obtain ⟨av,cv,rfl,hv1⟩:=HV.out;have HV3:Hid (Bytes W3 (fun k=>(w6.heap.size + 2 <= k /\ k < W3.heap.size) /\ IsT W3 5 k) (.slice av x.length cv) x):=qq ((HV.out.keeps kB (fun k hk e=>by unfold Book at e;have:=hk.1;omega)).mono (fun k hk=>⟨⟨hk.1.1,by have:=hk.1.2;have:=k3.size;omega⟩,hk.2.keeps kB (fun e=>by unfold Book at e;have:=hk.1;omega)⟩));have E1:=qq e1;have E2:=qq e2;have E3:=qq e3;have E4:=qq e4;have E5:=qq e5;have E6:=qq e6;have E7:=qq e7;have hWz:w6.heap.size + 2 <= W3.heap.size:=by have:=k3.size;omega
  clear e1 e2 e3 e4 e5 e6 e7 hv1 kB k3 HIH
  repeat (first | (with_reducible refine zg ?_) | (with_reducible refine stop_range ?_) | gi_step)
  refine za (zh (by kernel_rfl) (by rintro ⟨_,_,h⟩;exact h) ?_);by_cases hen:0 <= en
  ·
   have t0:decide (0 <= en)=true:=by simpa using hen
   go_wp2_with (first | go_skip | (with_reducible refine qv (by decide) ?_))
   refine za (zc rfl (zd (v:=.bool true) (n:=1) (by kernel_rfl) (by rfl) (by first | rfl | simp [t0]) E3.out (by rfl) (by simp [Value.cells]) (by simp [Value.cells,Value.oneCell'])) ?_);intro W4 s4;simp only [Nat.reduceAdd,qn];have c7:W4.cell? ⟨g7,0,none⟩=some (.bool true):=(cell_of_block s4.blk).trans rfl;have S7:=qq s4.blk;have K4:=qq s4.k;clear s4;go_wp2
   repeat (first | (with_reducible refine zg ?_) | (with_reducible refine stop_range ?_) | gi_step)
   refine za (zh (by kernel_rfl) (by rintro ⟨_,_,h⟩;exact h) ?_);go_wp2
   repeat (first | (with_reducible refine zg ?_) | (with_reducible refine stop_range ?_) | gi_step)
   refine za (zh (by kernel_rfl) (by rintro ⟨_,_,h⟩;exact h) ?_);have c5:W4.cell? ⟨g5,0,none⟩=some lv:=(cell_of_block (K4.out.at E1.out (fun e=>by omega))).trans rfl;go_wp2_with (first | go_skip | (with_reducible refine qv (by decide) ?_))
   refine za (zi rfl (zl el27 [.slice av x.length cv] rfl (by simp [List.range'_succ];first | done | rfl | exact ⟨rfl,rfl⟩ | exact ⟨rfl,rfl,rfl⟩ | exact ⟨rfl,rfl,rfl,rfl⟩ | exact ⟨rfl,rfl,rfl,rfl,rfl⟩ | exact ⟨rfl,rfl,rfl,rfl,rfl,rfl⟩) (by simp [Value.cells]) (by simp)) ?_);rintro _ W5 ⟨g8,rfl,n8⟩;simp only [Nat.reduceAdd,qn];have HH8:Has W5 (some ⟨g8,0,none⟩) [.slice av x.length cv]:=zt n8.blk
   have R5:RowS W5 (fun b=>w6.heap.size + 2 <= b /\ b < W5.heap.size) (fun _=>False) 22 1 lv i vs :=
    ((E4.out.keeps K4.out (fun k hk _ e=>by have:=hk.elim (fun h=>h.1) (fun h=>h.elim);omega)).keeps n8.k (fun _ _ _ e=>e)).mono (fun k hk=>⟨hk.1,by have:=hk.2;have:=K4.out.size;have:=n8.k.size;omega⟩) (fun _ h=>h)
   have hil:=hi;have hmx:its.length <= 100000000:=by have h1:=z39 (b.length + 1) 0 b;rw [HI.out] at h1;have:=HL.out;omega
   have HR5:=qq R5;have HH8':=qq HH8;have K5':=qq n8.k;clear n8 R5 HH8 c5;go_wp2_with (first | go_skip | (with_reducible refine qv (by decide) ?_))
   refine za (zi rfl (z1w el27 HR5.out (by rfl) (by rfl) HH8'.out rfl (by intro u hu;rw [List.mem_singleton.1 hu];rfl) (by omega) (by unfold maxLen;omega) (by omega)) ?_);rintro lv' W6 ⟨hr6,S6,k6,hS6⟩;simp only [Nat.reduceAdd,qn];obtain ⟨hx1,hx2,lva,lvc,rfl,hx3⟩:=id hr6;have b56:W6.heap[g5]?=some (.cells #[lv] 27 (0,0)):=k6.at (K5'.out.nb (K4.out.at E1.out (fun e=>by omega))) (fun e=>by have:=(hS6 _ e).1.1;omega)
   have b66:W6.heap[g6]?=some (.cells #[.int .i64 (endI its i)] 3 (0,0)):=k6.at (K5'.out.nb (K4.out.at E2.out (fun e=>by omega))) (fun e=>by have:=(hS6 _ e).1.1;omega)
   have b76:W6.heap[g7]?=some (.cells #[.bool true] 4 (0,0)):=k6.at (K5'.out.nb S7.out) (fun e=>by have:=(hS6 _ e).1.1;omega)
   have q6:Keeps (fun b=>(w6.heap.size + 2 <= b) \/ b=g7) W3 W6:=((K4.out.mono (S':=fun b=>(w6.heap.size + 2 <= b) \/ b=g7) (fun _ _ e=>.inr e)).trans_nb K5'.out).trans k6 (fun j _ e=>.inl (hS6 j e).1.1);have tr:∀ k,(w6.heap.size + 2 <= k /\ k < W3.heap.size) /\ IsT W3 5 k -> (¬ S6 k) /\ ((w6.heap.size + 2 <= k /\ k < W6.heap.size) /\ IsT W6 5 k):=fun k hk=>by
    have t5:IsT W5 5 k:=(hk.2.keeps K4.out (fun e=>by have:=hk.1;omega)).keeps K5'.out (fun e=>e);have hn:¬ S6 k:=fun e=>t5.ne (hS6 k e).2 (by decide) rfl;exact ⟨hn,⟨hk.1.1,by have:=hk.1.2;have:=K4.out.size;have:=K5'.out.size;have:=k6.size;omega⟩,t5.keeps k6 hn⟩
   have hbl:BytesL W6 (fun b=>(w6.heap.size + 2 <= b /\ b < W6.heap.size) /\ IsT W6 5 b) (vs ++ [.slice av x.length cv]) ((its.take (i + 1)).map Prod.snd):=by
    rw [zcm HP.out];have kk:Keeps (fun b=>b=g7 \/ S6 b) W3 W6:=((K4.out.mono (S':=fun b=>b=g7 \/ S6 b) (fun _ _ e=>.inl e)).trans_nb K5'.out).trans k6 (fun j _ e=>.inr e);have hnn:∀ k,(w6.heap.size + 2 <= k /\ k < W3.heap.size) /\ IsT W3 5 k -> ¬ (k=g7 \/ S6 k):=fun k hk e=>e.elim (fun e=>by have:=hk.1;omega) (tr k hk).1;exact ((E5.out.keeps kk hnn).mono (fun k hk=>(tr k hk).2)).append (.cons ((HV3.out.keeps kk hnn).mono (fun k hk=>(tr k hk).2)) (.nil _ _))
   go_wp2_with (first | go_skip | (with_reducible refine qv (by decide) ?_))
   refine za (zc rfl (zd (v:=.slice lva (i + 1) lvc) (n:=1) (by kernel_rfl) (by rfl) (by rfl) b56 (by rfl) (by simp [Value.cells]) (by simp [Value.cells,Value.oneCell'])) ?_);intro W7 s7;simp only [Nat.reduceAdd,qn];go_wp2_with (first | go_skip | (with_reducible refine qv (by decide) ?_))
   refine za (zc rfl (zd (v:=.int .i64 en) (n:=1) (by kernel_rfl) (by rfl) (by rfl) (s7.k.at b66 (fun e=>by omega)) (by rfl) (by simp [Value.cells]) (by simp [Value.cells,Value.oneCell'])) ?_);intro W8 s8;simp only [Nat.reduceAdd,qn];have k68:Keeps (fun b=>b=g5 \/ b=g6) W6 W8:=(s7.k.mono (S':=fun b=>b=g5 \/ b=g6) (fun _ _ e=>.inl e)).trans s8.k (fun _ _ e=>.inr e);have kf:Keeps (fun b=>(w6.heap.size <= b \/ b=g5 \/ b=g6 \/ b=g7) /\ ¬ Book w6 b) W3 W8:=(q6.mono (S':=fun b=>(w6.heap.size <= b \/ b=g5 \/ b=g6 \/ b=g7) /\ ¬ Book w6 b) (fun j _ e=>by unfold Book;omega)).trans k68 (fun j _ e=>by unfold Book;omega);have hI':WhI w6 g5 g6 g7 its (i + 1) true W8:=by
    refine ⟨.slice lva (i + 1) lvc,vs ++ [.slice av x.length cv],s8.k.at s7.blk (fun e=>by omega),?_,s8.k.at (s7.k.at b76 (fun e=>by omega)) (fun e=>by omega),?_,?_,zb6 HP.out E6.out hen,E7.out.trans kf (fun j _ e=>e.1)⟩
    ·rw [zcb HP.out];exact s8.blk
    ·
     refine (hr6.keeps k68 (fun k hk _ e=>?_)).mono (fun k hk=>?_) (fun _ h=>h)
     ·
      rcases hk with (h | h) | h
      ·have:=h.1;omega
      ·have:=K4.out.size;have:=K5'.out.size;omega
      ·exact h
     ·
      rcases hk with h | h
      ·have:=h.2;have:=k6.size;have:=k68.size;exact ⟨h.1,by omega⟩
      ·have:=K4.out.size;have:=K5'.out.size;have:=k68.size;exact ⟨by omega,by omega⟩
    ·exact (hbl.keeps k68 (fun k hk e=>by have:=hk.1;omega)).mono (fun k hk=>⟨⟨hk.1.1,by have:=hk.1.2;have:=k68.size;omega⟩,hk.2.keeps k68 (fun e=>by have:=hk.1;omega)⟩)
   refine wpList_nil ?_;exact ⟨kf,hI'⟩
  ·
   have t0:decide (0 <= en)=false:=by simpa using hen
   go_wp2_with (first | go_skip | (with_reducible refine qv (by decide) ?_))
   refine za (zc rfl (zd (v:=.bool false) (n:=1) (by kernel_rfl) (by rfl) (by first | rfl | simp [t0]) E3.out (by rfl) (by simp [Value.cells]) (by simp [Value.cells,Value.oneCell'])) ?_);intro W4 s4;simp only [Nat.reduceAdd,qn];have c7:W4.cell? ⟨g7,0,none⟩=some (.bool false):=(cell_of_block s4.blk).trans rfl;have kf:Keeps (fun b=>(w6.heap.size <= b \/ b=g5 \/ b=g6 \/ b=g7) /\ ¬ Book w6 b) W3 W4:=s4.k.mono (fun j _ e=>by unfold Book;omega);have hI':WhI w6 g5 g6 g7 its i false W4:=by
    have z:=s4.k.size;refine ⟨lv,vs,s4.k.at E1.out (fun e=>by omega),s4.k.at E2.out (fun e=>by omega),s4.blk,(E4.out.keeps s4.k (fun k hk _ e=>by have:=hk.elim (fun h=>h.1) (fun h=>h.elim);omega)).mono (fun k hk=>⟨hk.1,by have:=hk.2;omega⟩) (fun _ h=>h),(E5.out.keeps s4.k (fun k hk e=>by have:=hk.1;omega)).mono (fun k hk=>⟨⟨hk.1.1,by have:=hk.1.2;omega⟩,hk.2.keeps s4.k (fun e=>by have:=hk.1;omega)⟩),E6.out,E7.out.trans kf (fun j _ e=>e.1)⟩
   have HF:Hid (Keeps (fun b=>(w6.heap.size <= b \/ b=g5 \/ b=g6 \/ b=g7) /\ ¬ Book w6 b) W3 W4 /\ WhI w6 g5 g6 g7 its i false W4):=qq ⟨kf,hI'⟩;have hen2:en < 0:=by omega
   clear s4 kf hI';go_wp2
   repeat (first | (with_reducible refine zg ?_) | (with_reducible refine stop_range ?_) | gi_step)
   refine za (zh (by kernel_rfl) (by rintro ⟨_,_,h⟩;exact h) ?_);go_wp2
   gi_wp2
   exact ⟨HF.out.1,rfl,i,(en,x),HP.out,hen2,HF.out.2⟩
 case done =>
  rintro W ⟨lv,vs,e1,e2,e3,e4,e5,e6,e7⟩ hD;have c5:W.cell? ⟨g5,0,none⟩=some lv:=(cell_of_block e1).trans rfl;have c6:W.cell? ⟨g6,0,none⟩=some (.int .i64 (endI its its.length)):=(cell_of_block e2).trans rfl;have c7:W.cell? ⟨g7,0,none⟩=some (.bool true):=(cell_of_block e3).trans rfl;have E4:=qq e4;have E5:=qq e5;have E6:=qq e6;have E7:=qq e7;have HD:=qq hD;clear e1 e2 e3 e4 e5 e6 e7 hD;go_wp2
  go_quiet (fail)
  go_wp2;have kp:=((Keeps.refl (·=w6.heap.size) W).drewN nq).trans (zv (W.drewN nq) w6.heap.size (.deferred none)) (fun _ _ e=>e);rw [Exit.noGoto_ret];refine ⟨by simp,.inl ⟨_,_,rfl,run_takeDeferred (show (W.drewN nq).heap[w6.heap.size]?=_ from HD.out),?_⟩⟩;refine ⟨.tuple #[lv,.int .i64 (endI its its.length),.bool true],by simp [results,Tryz.f12,go_sem],?_⟩;exact z7x K6.out HI.out (by rw [List.take_length];exact zbs E6.out) (Nat.le_refl _) E4.out E5.out E6.out E7.out G5.out (by have:=G5.out;omega) (by have:=G5.out;omega) kp
 case stop =>
  rintro c W ⟨rfl,i,p,hp,hneg,lv,vs,e1,e2,e3,e4,e5,e6,e7⟩ hD;have c5:W.cell? ⟨g5,0,none⟩=some lv:=(cell_of_block e1).trans rfl;have c6:W.cell? ⟨g6,0,none⟩=some (.int .i64 (endI its i)):=(cell_of_block e2).trans rfl;have c7:W.cell? ⟨g7,0,none⟩=some (.bool false):=(cell_of_block e3).trans rfl;have E4:=qq e4;have E5:=qq e5;have E6:=qq e6;have E7:=qq e7;have HD:=qq hD;have HP:=qq hp;clear e1 e2 e3 e4 e5 e6 e7 hD hp
  gi_wp2
  go_wp2
  go_quiet (fail)
  go_wp2;have kp:=((Keeps.refl (·=w6.heap.size) W).drewN nq).trans (zv (W.drewN nq) w6.heap.size (.deferred none)) (fun _ _ e=>e);rw [Exit.noGoto_ret];refine ⟨by simp,.inl ⟨_,_,rfl,run_takeDeferred (show (W.drewN nq).heap[w6.heap.size]?=_ from HD.out),?_⟩⟩;refine ⟨.tuple #[lv,.int .i64 (endI its i),.bool false],by simp [results,Tryz.f12,go_sem],?_⟩;exact z7x K6.out HI.out (zbt E6.out HP.out hneg) (Nat.le_of_lt (List.getElem?_eq_some_iff.1 HP.out).1) E4.out E5.out E6.out E7.out G5.out (by have:=G5.out;omega) (by have:=G5.out;omega) kp
end Go.Proofs.YtpjomdmjohjheaaGreatDoor
end
section
namespace Go.Log
open Go.Vfs (mnB okc sb)
def mxn:Nat:=2147483647
theorem z01 (a b:ByteArray):(a ++ b).data.toList=a.data.toList ++ b.data.toList:=by
 rw [ByteArray.data_append,Array.toList_append]
theorem z3j {a b:ByteArray} (h:a.data.toList=b.data.toList):a=b:=by
 cases a;cases b;simp only at h;congr 1;exact Array.ext' h
theorem z3l (a:ByteArray):a.size=a.data.toList.length:=by rw [Array.length_toList];rfl
def dig (n:Nat):ByteArray:=⟨(Lib.decDigits n).toArray⟩
theorem z0u (n:Nat):(dig n).data.toList=Lib.decDigits n:=by simp [dig]
theorem z69:∀ (l:List UInt8) (acc:Nat) (c:UInt8) (u:Nat),Lib.parseUint10 acc l=.ok u -> Lib.parseUint10 acc (l ++ [c])=Lib.parseUint10 u [c]
 | [],acc,c,u,h=>by
  simp only [Lib.parseUint10] at h;injection h with h
  rw [h];rfl
 | d :: l,acc,c,u,h=>by
  rw [List.cons_append];unfold Lib.parseUint10 at h ⊢;split at h
  ·
   rename_i h1;rw [if_pos h1];split at h
   ·cases h
   ·
    rename_i h2;rw [if_neg h2];split at h
    ·cases h
    ·rename_i h3;rw [if_neg h3];exact z69 l _ c u h
  ·cases h
theorem z7q:∀ (n:Nat),n < 1000000000000 -> Lib.parseUint10 0 (Lib.decDigits n)=.ok n
 | n,hn=>by
  rw [Lib.decDigits];split
  ·
   rename_i h;have e:(UInt8.ofNat (48 + n)).toNat=48 + n:=by rw [UInt8.toNat_ofNat'];omega
   simp only [Lib.parseUint10,e];rw [if_pos (by omega),if_neg (by omega),if_neg (by omega)]
   congr 1;omega
  ·
   rename_i h;have e:(UInt8.ofNat (48 + n % 10)).toNat=48 + n % 10:=by rw [UInt8.toNat_ofNat'];omega
   rw [z69 _ _ _ _ (z7q (n / 10) (by omega))];simp only [Lib.parseUint10,e];rw [if_pos (by omega),if_neg (by omega),if_neg (by omega)]
   congr 1;omega
theorem z2c:∀ (n:Nat),∀ c ∈ Lib.decDigits n,48 <= c.toNat /\ c.toNat <= 57
 | n,c,hc=>by
  rw [Lib.decDigits] at hc;split at hc
  ·rename_i h;rw [List.mem_singleton.1 hc,UInt8.toNat_ofNat'];omega
  ·
   rename_i h;rcases List.mem_append.1 hc with hc | hc
   ·exact z2c (n / 10) c hc
   ·rw [List.mem_singleton.1 hc,UInt8.toNat_ofNat'];omega
theorem zc8 (n:Nat):Lib.decDigits n ≠ []:=by
 rw [Lib.decDigits];split <;> simp
theorem zdn {n:Nat} (hn:n < 1000000000000):Lib.atoiAll (Lib.decDigits n)=.ok (n:Int):=by
 obtain ⟨c,r,h⟩:=List.exists_cons_of_ne_nil (zc8 n);have hc:=z2c n c (by rw [h];simp);have hp:=z7q n hn;rw [h] at hp ⊢;rw [Lib.atoiAll_plain c r (by omega) (by omega)];unfold Lib.parseMag;rw [if_neg (by simp),hp];unfold Lib.signless;simp only;rw [if_neg (by omega)]
def nmb (l:List UInt8):Nat:=match Lib.atoiAll l with
 | .ok v=>if 1 <= v /\ v <= 2147483647 /\ Lib.itoa v=l then v.toNat else 0
 | _=>0
theorem zac {n:Nat} (h1:1 <= n) (h2:n <= mxn):nmb (Lib.decDigits n)=n:=by
 unfold mxn at h2;unfold nmb;rw [zdn (by omega)];simp only;rw [if_pos ⟨by omega,by omega,Lib.itoa_nonneg n⟩];omega
theorem z8n {l:List UInt8} (h:nmb l ≠ 0):l=Lib.decDigits (nmb l) /\ 1 <= nmb l /\ nmb l <= mxn:=by
 unfold nmb at h ⊢;split at h
 ·
  rename_i v hv;split at h
  ·
   rename_i h2;rw [if_pos h2];unfold mxn;refine ⟨?_,by omega,by omega⟩;obtain ⟨k,rfl⟩:∃ k:Nat,v=k:=⟨v.toNat,by omega⟩
   rw [<- h2.2.2,Lib.itoa_nonneg];simp
  ·exact absurd rfl h
 ·exact absurd rfl h
def pn (p s:ByteArray):Nat:=if Lib.hasPrefix s.data.toList p.data.toList=true then nmb (s.data.toList.drop p.data.toList.length) else 0
theorem z2x (p t:ByteArray):pn p (p ++ t)=nmb t.data.toList:=by
 unfold pn Lib.hasPrefix;rw [z01,if_pos (by simp),List.drop_left]
theorem zgn {p s:ByteArray} (h:pn p s ≠ 0):s=p ++ dig (pn p s) /\ 1 <= pn p s /\ pn p s <= mxn:=by
 unfold pn at h ⊢;split at h
 ·rename_i hp;rw [if_pos hp];obtain ⟨h1,h2,h3⟩:=z8n h;refine ⟨z3j ?_,h2,h3⟩;rw [z01,z0u,<- h1];unfold Lib.hasPrefix at hp;obtain ⟨r,hr⟩:=List.isPrefixOf_iff_prefix.1 hp;rw [<- hr,List.drop_left]
 ·exact absurd rfl h
def sDot:ByteArray:=⟨#[46]⟩
def sS:ByteArray:=⟨#[115]⟩
def sMan:ByteArray:=⟨#[109,97,110]⟩
def sNew:ByteArray:=⟨#[110,101,119]⟩
def fl (nm s:ByteArray):ByteArray:=nm ++ sDot ++ s
def sgf (nm:ByteArray) (n:Nat):ByteArray:=fl nm (dig n)
def snf (nm:ByteArray) (n:Nat):ByteArray:=fl nm (sS ++ dig n)
def manf (nm:ByteArray):ByteArray:=fl nm sMan
def newf (nm:ByteArray):ByteArray:=fl nm sNew
def sgn (nm s:ByteArray):Nat:=pn (fl nm ByteArray.empty) s
def snn (nm s:ByteArray):Nat:=pn (fl nm sS) s
theorem z1h (nm s:ByteArray):(fl nm s).data.toList=nm.data.toList ++ (46 :: s.data.toList):=by
 unfold fl;rw [z01,z01];simp [sDot]
theorem fl_inj {nm s t:ByteArray} (h:fl nm s=fl nm t):s=t:=by
 have:=congrArg (fun b:ByteArray=>b.data.toList) h;simp only [z1h,List.append_cancel_left_eq,List.cons.injEq,true_and] at this;exact z3j this
theorem z2w (nm s:ByteArray):fl nm s=fl nm ByteArray.empty ++ s:=z3j (by rw [z01,z1h,z1h];simp)
theorem fl_s (nm s:ByteArray):fl nm (sS ++ s)=fl nm sS ++ s:=z3j (by rw [z01,z1h,z1h,z01];simp)
theorem z1n (nm:ByteArray) {n:Nat} (h1:1 <= n) (h2:n <= mxn):sgn nm (sgf nm n)=n:=by
 unfold sgn sgf;rw [z2w nm (dig n),z2x,z0u,zac h1 h2]
theorem z2t (nm:ByteArray) {n:Nat} (h1:1 <= n) (h2:n <= mxn):snn nm (snf nm n)=n:=by
 unfold snn snf;rw [fl_s nm (dig n),z2x,z0u,zac h1 h2]
theorem z30 {nm s:ByteArray} (h:sgn nm s ≠ 0):s=sgf nm (sgn nm s) /\ 1 <= sgn nm s /\ sgn nm s <= mxn:=by
 obtain ⟨h1,h2⟩:=zgn h;exact ⟨by unfold sgf;rw [z2w];exact h1,h2⟩
theorem z5l {c:UInt8} {l:List UInt8} (h:¬ (48 <= c.toNat /\ c.toNat <= 57)):nmb (c :: l)=0:=by
 rcases Nat.eq_zero_or_pos (nmb (c :: l)) with h0 | h0
 ·exact h0
 ·obtain ⟨h1,-⟩:=z8n (show nmb (c :: l) ≠ 0 by omega);exact absurd (z2c _ c (by rw [<- h1];simp)) h
theorem zao (nm:ByteArray) (n:Nat):sgn nm (snf nm n)=0:=by
 unfold sgn snf;rw [z2w nm (sS ++ dig n),z2x,z01];exact z5l (by decide)
theorem zam (nm:ByteArray):sgn nm (manf nm)=0:=by
 unfold sgn manf;rw [z2w nm sMan,z2x];exact z5l (by decide)
theorem zan (nm:ByteArray):sgn nm (newf nm)=0:=by
 unfold sgn newf;rw [z2w nm sNew,z2x];exact z5l (by decide)
theorem z93 {nm s:ByteArray} {c:UInt8} {l:List UInt8} (hs:s.data.toList=c :: l) (hc:c ≠ 115):snn nm (fl nm s)=0:=by
 unfold snn pn;rw [if_neg];unfold Lib.hasPrefix;rw [List.isPrefixOf_iff_prefix,z1h,z1h,List.prefix_append_right_inj,List.cons_prefix_cons,hs];rintro ⟨-,h⟩;have h2:(sS.data.toList:List UInt8)=[115]:=rfl;rw [h2,List.cons_prefix_cons] at h;exact hc h.1.symm
theorem zh7 (nm:ByteArray) (n:Nat):snn nm (sgf nm n)=0:=by
 obtain ⟨c,r,h⟩:=List.exists_cons_of_ne_nil (zc8 n);have hc:=z2c n c (by rw [h];simp);exact z93 (c:=c) (l:=r) (by rw [z0u,h]) (by rintro rfl;revert hc;decide)
theorem zap (nm:ByteArray):snn nm (manf nm)=0:=z93 (c:=109) (l:=[97,110]) rfl (by decide)
theorem zaq (nm:ByteArray):snn nm (newf nm)=0:=z93 (c:=110) (l:=[101,119]) rfl (by decide)
theorem zb8 (nm:ByteArray):manf nm ≠ newf nm:=fun h=>by have:=fl_inj h;revert this;decide
theorem z2m (nm:ByteArray) {n:Nat} (h1:1 <= n) (h2:n <= mxn):sgf nm n ≠ manf nm:=fun h=>by
 have:=z1n nm h1 h2;rw [h,zam] at this;omega
theorem z2n (nm:ByteArray) {n:Nat} (h1:1 <= n) (h2:n <= mxn):sgf nm n ≠ newf nm:=fun h=>by
 have:=z1n nm h1 h2;rw [h,zan] at this;omega
theorem z2o (nm:ByteArray) {n m:Nat} (h1:1 <= n) (h2:n <= mxn):sgf nm n ≠ snf nm m:=fun h=>by
 have:=z1n nm h1 h2;rw [h,zao] at this;omega
theorem z6l (nm:ByteArray) {n:Nat} (h1:1 <= n) (h2:n <= mxn):snf nm n ≠ manf nm:=fun h=>by
 have:=z2t nm h1 h2;rw [h,zap] at this;omega
theorem z6m (nm:ByteArray) {n:Nat} (h1:1 <= n) (h2:n <= mxn):snf nm n ≠ newf nm:=fun h=>by
 have:=z2t nm h1 h2;rw [h,zaq] at this;omega
theorem z74 (nm:ByteArray) {n m:Nat} (h1:1 <= n) (h2:n <= mxn) (h3:1 <= m) (h4:m <= mxn) (h:sgf nm n=sgf nm m):n=m:=by
 have:=z1n nm h1 h2;rw [h,z1n nm h3 h4] at this;exact this.symm
theorem zh6 (nm:ByteArray) {n m:Nat} (h1:1 <= n) (h2:n <= mxn) (h3:1 <= m) (h4:m <= mxn) (h:snf nm n=snf nm m):n=m:=by
 have:=z2t nm h1 h2;rw [h,z2t nm h3 h4] at this;exact this.symm
def ours (nm s:ByteArray):Bool:=decide (s=newf nm) || decide (0 < sgn nm s) || decide (0 < snn nm s)
theorem zaa (s:ByteArray):mnB s=true ↔ (∀ c ∈ s.data.toList,okc c.toNat=true) /\ 1 <= s.size /\ s.size <= 32:=by
 unfold mnB sb;rw [Bool.and_eq_true,List.all_eq_true,Bool.and_eq_true,decide_eq_true_eq,decide_eq_true_eq];simp
theorem z9y:∀ (k n:Nat),n < 10 ^ (k + 1) -> (Lib.decDigits n).length <= k + 1
 | 0,n,h=>by rw [Lib.decDigits,dif_pos (by simpa using h)];simp
 | k + 1,n,h=>by
  rw [Lib.decDigits];split
  ·simp
  ·rw [List.length_append];have:=z9y k (n / 10) (by rw [Nat.pow_succ] at h;omega);simp;omega
theorem z9z {n:Nat} (h:n <= mxn):(Lib.decDigits n).length <= 10:=z9y 9 n (by unfold mxn at h;omega)
theorem z65 {nm s:ByteArray} (hn:mnB nm=true) (h16:nm.size <= 16) (hs:∀ c ∈ s.data.toList,okc c.toNat=true) (hl:s.data.toList.length <= 15):mnB (fl nm s)=true:=by
 rw [zaa] at hn ⊢;have hz:(fl nm s).size=nm.size + 1 + s.data.toList.length:=by
  rw [z3l,z1h,z3l];simp;omega
 refine ⟨fun c hc=>?_,by omega,by omega⟩;rw [z1h] at hc;rcases List.mem_append.1 hc with hc | hc
 ·exact hn.1 c hc
 ·
  rcases List.mem_cons.1 hc with rfl | hc
  ·decide
  ·exact hs c hc
theorem zc9 (n:Nat):∀ c ∈ (dig n).data.toList,okc c.toNat=true:=fun c hc=>by
 rw [z0u] at hc;have:=z2c n c hc;unfold okc;simp;omega
theorem z0o {nm:ByteArray} (hn:mnB nm=true) (h16:nm.size <= 16) {n:Nat} (h:n <= mxn):mnB (sgf nm n)=true :=
 z65 hn h16 (zc9 n) (by rw [z0u];have:=z9z h;omega)
theorem z55 {nm:ByteArray} (hn:mnB nm=true) (h16:nm.size <= 16) {n:Nat} (h:n <= mxn):mnB (snf nm n)=true :=
 z65 hn h16 (fun c hc=>by
  rw [z01] at hc;rcases List.mem_append.1 hc with hc | hc
  ·
   have:c=115:=by simpa [sS] using hc
   subst this;decide
  ·exact zc9 n c hc) (by rw [z01,z0u,List.length_append];have:=z9z h;have:sS.data.toList.length=1:=rfl;omega)
theorem z2r {nm:ByteArray} (hn:mnB nm=true) (h16:nm.size <= 16):mnB (manf nm)=true:=z65 hn h16 (by decide) (by decide)
theorem z54 {nm:ByteArray} (hn:mnB nm=true) (h16:nm.size <= 16):mnB (newf nm)=true:=z65 hn h16 (by decide) (by decide)
end Go.Log
end
section
namespace Go.Log
open Go.Vfs
open Go.Proofs.YtpjomdmjohjheaaGreatDoor (readOf)
structure Ds where
 D:Dk
 fc:Nat -> Fl
def Op:=Ds -> Int -> Ds -> Prop
def mkO (s:ByteArray):Op:=fun X e Y=>∃ n,(∀ b,Ref X.D b -> b < n) /\ MakeR n X.D X.fc s e Y.D Y.fc
def apO (s:ByteArray) (bs:List Nat):Op:=fun X e Y=>AppR X.D X.fc s bs e Y.D Y.fc
def syO (s:ByteArray):Op:=fun X e Y=>SyncR X.D X.fc s e Y.D Y.fc
def cuO (s:ByteArray) (n:Nat):Op:=fun X e Y=>CutR X.D X.fc s n e Y.D Y.fc
def rnO (s t:ByteArray):Op:=fun X e Y=>RenR X.D s t e Y.D /\ Y.fc=X.fc
def rmO (s:ByteArray):Op:=fun X e Y=>RemR X.D s e Y.D /\ Y.fc=X.fc
def sdO:Op:=fun X e Y=>SdirR X.D e Y.D /\ Y.fc=X.fc
def nop:Op:=fun X e Y=>e=0 /\ Y=X
def erO (e0:Int):Op:=fun X e Y=>e=e0 /\ Y=X
def askO:List Op -> Op
 | [],X,e,Y=>e=0 /\ Y=X
 | o :: l,X,e,Y=>∃ e1 Z,o X e1 Z /\ ((e1 ≠ 0 /\ e=e1 /\ Y=Z) \/ (e1=0 /\ askO l Z e Y))
def putO (s:ByteArray) (b:List Nat):Op:=askO [mkO s,apO s (recd b),syO s]
def rmnO (s:ByteArray):Op:=fun X e Y=>∃ e1,rmO s X e1 Y /\ e=if e1=6 then 0 else e1
def mrec (s n:Nat):List Nat:=be 8 s ++ be 8 n
def manO (nm:ByteArray) (s n:Nat):Op:=askO [rmnO (newf nm),putO (newf nm) (mrec s n),sdO,rnO (newf nm) (manf nm),sdO]
def nxL (nm:ByteArray) (l:List ByteArray):Nat:=l.foldr (fun s a=>max (max (sgn nm s) (snn nm s)) a) 0
def nx (nm:ByteArray) (X:Ds):Nat:=nxL nm (X.D.files.map Prod.fst)
def nxE (nm:ByteArray) (X:Ds):Int:=if mxn <= nx nm X then 5 else 0
def nxN (nm:ByteArray) (X:Ds):Nat:=if mxn <= nx nm X then 0 else nx nm X + 1
theorem z8p {nm:ByteArray} {a b:List ByteArray} (h:a.Perm b):nxL nm a=nxL nm b:=by
 unfold nxL
 induction h with
 | nil=>rfl
 | cons x _ ih=>simp only [List.foldr_cons,ih]
 | swap x y l=>simp only [List.foldr_cons];omega
 | trans _ _ i1 i2=>exact i1.trans i2
def swept (nm:ByteArray) (s n:Nat) (f:ByteArray):Bool:=ours nm f && !(decide (f=manf nm) || decide (f=snf nm s) || decide (f=sgf nm n))
def sweepO (nm:ByteArray) (s n:Nat):Op:=fun X e Y=>∃ ns:List ByteArray,ns.Perm (X.D.files.map Prod.fst) /\ askO ((ns.filter (swept nm s n)).map rmO) X e Y
structure Lg where
 name:ByteArray
 most:Nat
 first:Nat
 segment:Nat
 segments:Nat
 size:Nat
 snap:List Nat
 has:Bool
 recs:List (List Nat)
 synced:Nat
 bad:Bool
def lg0 (nm:ByteArray) (most:Nat):Lg:=⟨nm,most,0,0,0,0,[],false,[],0,false⟩
def Lg.seg (L:Lg):ByteArray:=sgf L.name L.segment
def mayE (L:Lg) (n:Nat):Int:=if mxr < n then 3 else if L.bad=true then 19 else 0
def onR (L:Lg) (X:Ds) (e:Int) (L':Lg) (Y:Ds):Prop :=
 askO [syO L.seg,erO (nxE L.name X),mkO (sgf L.name (nx L.name X + 1)),sdO] X e Y /\
  ((e ≠ 0 /\ L'={ L with bad:=true }) \/ (e=0 /\ L'={ L with segment:=nx L.name X + 1,size:=0,synced:=L.recs.length,segments:=L.segments + 1 }))
def appR (L:Lg) (b:List Nat) (X:Ds) (e:Int) (L':Lg) (Y:Ds):Prop :=
 (mayE L b.length ≠ 0 /\ e=mayE L b.length /\ L'=L /\ Y=X) \/ (mayE L b.length=0 /\ ∃ e1 Z,apO L.seg (recd b) X e1 Z /\
  ((e1 ≠ 0 /\ e=e1 /\ L'={ L with bad:=true } /\ Y=Z) \/
   (e1=0 /\ L.size + (8 + b.length) <= L.most /\ e=0 /\ L'={ L with recs:=L.recs ++ [b],size:=L.size + (8 + b.length) } /\ Y=Z) \/
   (e1=0 /\ L.most < L.size + (8 + b.length) /\ onR { L with recs:=L.recs ++ [b],size:=L.size + (8 + b.length) } Z e L' Y)))
def synR (L:Lg) (X:Ds) (e:Int) (L':Lg) (Y:Ds):Prop :=
 (mayE L 0 ≠ 0 /\ e=mayE L 0 /\ L'=L /\ Y=X) \/ (mayE L 0=0 /\ syO L.seg X e Y /\ ((e ≠ 0 /\ L'={ L with bad:=true }) \/ (e=0 /\ L'={ L with synced:=L.recs.length })))
def turnE (nm:ByteArray) (X:Ds):Int:=if mxn <= nx nm X + 1 then 5 else 0
def turnR (L:Lg) (b:List Nat) (X:Ds) (e:Int) (L':Lg) (Y:Ds):Prop :=
 (mayE L b.length ≠ 0 /\ e=mayE L b.length /\ L'=L /\ Y=X) \/ (mayE L b.length=0 /\
  askO [syO L.seg,erO (turnE L.name X),putO (snf L.name (nx L.name X + 1)) b,mkO (sgf L.name (nx L.name X + 2)),manO L.name (nx L.name X + 1) (nx L.name X + 2),sweepO L.name (nx L.name X + 1) (nx L.name X + 2)] X e Y /\
  ((e ≠ 0 /\ L'={ L with bad:=true }) \/ (e=0 /\ L'={ L with snap:=b,has:=true,recs:=[],synced:=0,first:=nx L.name X + 2,segment:=nx L.name X + 2,segments:=1,size:=0 })))
def oneR (X:Ds) (s:ByteArray):Option (List Nat) :=
 if (readOf X.D X.fc s).2=0 /\ (whole (readOf X.D X.fc s).1).2.2=true /\ (whole (readOf X.D X.fc s).1).1.length=1 /\ (whole (readOf X.D X.fc s).1).2.1=(readOf X.D X.fc s).1.length
 then (whole (readOf X.D X.fc s).1).1.head? else none
def manN (b:List Nat):Option (Nat × Nat) :=
 if b.length=16 /\ num (b.take 8) <= mxn /\ 1 <= num (b.drop 8) /\ num (b.drop 8) <= mxn then some (num (b.take 8),num (b.drop 8)) else none
def SegsOf (nm:ByteArray) (first:Nat) (X:Ds) (ns:List Nat):Prop :=
 ns.Pairwise (· <= ·) /\ ns.Perm (((X.D.files.map Prod.fst).map (sgn nm)).filter fun n=>decide (first <= n))
def rdl (X:Ds):List Nat -> Lg -> Nat -> Option (Lg × Nat)
 | [],L,e=>some (L,e)
 | n :: ns,L,e =>
  if (whole (readOf X.D X.fc (sgf L.name n)).1).2.2=true /\ ((readOf X.D X.fc (sgf L.name n)).1.length <= (whole (readOf X.D X.fc (sgf L.name n)).1).2.1 \/ ns=[]) then
   rdl X ns { L with recs:=L.recs ++ (whole (readOf X.D X.fc (sgf L.name n)).1).1,segment:=n,size:=(readOf X.D X.fc (sgf L.name n)).1.length } (whole (readOf X.D X.fc (sgf L.name n)).1).2.1
  else none
def snapR (X:Ds) (L:Lg) (s:Nat):Option Lg:=if s=0 then some L else (oneR X (snf L.name s)).map fun b=>{ L with snap:=b,has:=true }
def readR (X:Ds) (L:Lg) (s:Nat) (r:Option (Lg × Nat)):Prop :=
 match snapR X L s with
 | none=>r=none
 | some L1=>∃ ns,SegsOf L1.name L1.first X ns /\ r=if ns=[] then none else (rdl X ns L1 0).map fun p=>({ p.1 with segments:=ns.length },p.2)
def openR (nm:ByteArray) (most:Nat) (X:Ds) (e:Int) (L:Lg) (Y:Ds):Prop :=
 (flook X.D.files (manf nm)=none /\ askO [erO (nxE nm X),mkO (sgf nm (nx nm X + 1)),manO nm 0 (nx nm X + 1)] X e Y /\ L={ lg0 nm most with first:=nx nm X + 1,segment:=nx nm X + 1,segments:=1 }) \/
 (∃ b,flook X.D.files (manf nm)=some b /\ (oneR X (manf nm)).bind manN=none /\ e=10 /\ Y=X) \/
 (∃ b s n r,flook X.D.files (manf nm)=some b /\ (oneR X (manf nm)).bind manN=some (s,n) /\ readR X { lg0 nm most with first:=n } s r /\
  ((r=none /\ e=10 /\ Y=X) \/
   ∃ L1 en,r=some (L1,en) /\ askO [if L1.size=en then nop else cuO L1.seg en,syO L1.seg,sdO] X e Y /\ L={ L1 with size:=en,synced:=L1.recs.length }))
end Go.Log
end
section
namespace Go.Log
open Go.Lk Go.RowKit Go.Vfs
structure Vars (w:World):Prop where
 tab:∃ T f,w.heap[3]?=some (.cells (Lib.pow10Tab.map fun z=>Value.int .u64 z).toArray T f)
 syn:∃ te pe,w.cell? ⟨1,0,none⟩=some (.iface te pe)
 rng:∃ te pe,w.cell? ⟨2,0,none⟩=some (.iface te pe)
theorem Vars.keeps {w w':World} {S:Nat -> Prop} (h:Vars w) (hk:Keeps S w w') (hn:∀ k,k < 6 -> ¬ S k):Vars w':=by
 obtain ⟨⟨T,f,h1⟩,⟨te,pe,h2⟩,⟨te',pe',h3⟩⟩:=h;exact ⟨⟨T,f,hk.at h1 (hn 3 (by omega))⟩,⟨te,pe,(hk.cell (lt_of_cell h2) (hn 1 (by omega))).trans h2⟩,⟨te',pe',(hk.cell (lt_of_cell h3) (hn 2 (by omega))).trans h3⟩⟩
theorem Vars.nb {w w':World} (h:Vars w) (hk:Keeps Nb w w'):Vars w':=h.keeps hk (fun _ _ e=>e)
theorem zb7 (w:World) (os:Array Obj):Keeps Nb w (Go.Sort.grow w os) :=
 ⟨rfl,rfl,rfl,by simp [Go.Sort.grow],fun k hk _=>by simp [Go.Sort.grow,Array.getElem?_append_left hk]⟩
end Go.Log
namespace Go.Proofs.YtpjomdmjohjheaaGreatDoor
open Go.RowKit Go.Lk Go.Vfs Go.Log
theorem tab_of {name:String} {w:World} {T:TypeId} {f:Nat × Nat} (hg:Tryz.prog.globalNamed name=some 3) (h:w.heap[3]?=some (.cells (Lib.pow10Tab.map fun z=>Value.int .u64 z).toArray T f)):Lib.TabIs Tryz.prog w name .u64 Lib.pow10Tab:=by
 unfold Lib.TabIs World.var?;rw [hg,Option.bind_some,h]
theorem z6u (n:Nat) (w:World) (hv:Vars w) (hn:n <= 9223372036854775807):Calls Tryz.prog 113 #[.int .i64 n] w fun e w'=>e=.returned (.string (dig n)) /\ Keeps Nb w w':=by
 obtain ⟨⟨T,f,ht⟩,-⟩:=hv;refine (Go.Proofs.Any.strconv_Itoa Tryz.laysM171 (n:Int) (by omega) (by omega) w (tab_of (by kernel_rfl) ht)).mono ?_;rintro e w' ⟨rfl,k,os,rfl⟩;refine ⟨by rw [Lib.itoa_nonneg];rfl,((Keeps.refl Nb w).drewN k).trans_nb (zb7 _ os)⟩
theorem zfs (s:ByteArray) (w:World) (hv:Vars w) (hs:s.size <= 1000000) :
  Calls Tryz.prog 147 #[.string s] w fun e w'=>(∃ v x,e=.returned (.tuple #[.int .i64 v,x]) /\ -9223372036854775808 <= v /\ v <= 9223372036854775807 /\ ((Lib.atoiAll s.data.toList=.ok v /\ x=.nilIface) \/ ((∀ u,Lib.atoiAll s.data.toList ≠ .ok u) /\ ∃ t p,x=.iface t p))) /\ Keeps Nb w w':=by
 obtain ⟨-,⟨te,pe,h2⟩,⟨te',pe',h3⟩⟩:=hv;cases hr:Lib.atoiAll s.data.toList with
 | ok v =>
  refine (Go.Proofs.Any.strconv_Atoi_ok Tryz.laysC172 s (by omega) v hr w).mono ?_;have hb:=Lib.atoiAll_bounds hr;rintro e w' ⟨rfl,h⟩;refine ⟨⟨v,_,rfl,hb.1,hb.2,.inl ⟨rfl,rfl⟩⟩,?_⟩;rcases h with rfl | ⟨t,rfl⟩
  ·exact Keeps.refl _ _
  ·exact ⟨rfl,rfl,rfl,by rw [Lib.bytesWorld_size];omega,fun k hk _=>Lib.bytesWorld_at_old w _ t k hk⟩
 | range =>
  refine (Go.Proofs.Any.strconv_Atoi_range Tryz.laysC172 s (by omega) hr (.iface te' pe') w h3 (.inr ⟨_,_,rfl⟩)).mono ?_;rintro e w' ⟨N,rfl,-,-,hb⟩;exact ⟨⟨_,_,rfl,by unfold Lib.atoiSat;split <;> omega,by unfold Lib.atoiSat;split <;> omega,.inr ⟨(fun u h=>by cases h),_,_,rfl⟩⟩,z0x hb⟩
 | _ =>
  refine (Go.Proofs.Any.strconv_Atoi_syntax Tryz.laysC172 s (by omega) hr (.iface te pe) w h2 (.inr ⟨_,_,rfl⟩)).mono ?_;rintro e w' ⟨N,rfl,-,-,hb⟩;exact ⟨⟨0,_,rfl,by omega,by omega,.inr ⟨(fun u h=>by cases h),_,_,rfl⟩⟩,z0x hb⟩
theorem z9x (s p:ByteArray) (w:World):Calls Tryz.prog 146 #[.string s,.string p] w fun e w'=>e=.returned (.tuple #[.string ⟨(Lib.trimPrefix s.data.toList p.data.toList).toArray⟩,.bool (Lib.hasPrefix s.data.toList p.data.toList)]) /\ w=w' :=
 (Go.Proofs.Any.strings_CutPrefix Tryz.lays103 s p w).mono (by rintro e w' ⟨h,rfl⟩;exact ⟨h,rfl⟩)
theorem z3t {n:Nat} (hn:n <= 9223372036854775807):(dig n).size <= 21:=by
 rw [z3l,z0u,<- Lib.itoa_nonneg];exact Lib.itoa_length_le n (by omega) (by omega)
theorem z17 (l:Nat) (nm s:ByteArray) (w:World) (h:w.cell? ⟨l,1,none⟩=some (.string nm)) (hnm:nm.size <= 1000) (hs:s.size <= 1000):Calls Tryz.prog 109 #[.pointer (some ⟨l,0,none⟩),.string s] w fun e w'=>e=.returned (.string (fl nm s)) /\ w=w':=by
 go_enter Tryz.func109,Tryz.ntmps109;go_wp2;go_ret;exact ⟨rfl,rfl⟩
theorem z0r (l:Nat) (nm:ByteArray) (n:Nat) (w:World) (hv:Vars w) (h:w.cell? ⟨l,1,none⟩=some (.string nm)) (hnm:nm.size <= 1000) (hn:n <= 9223372036854775807):Calls Tryz.prog 56 #[.pointer (some ⟨l,0,none⟩),.int .i64 n] w fun e w'=>e=.returned (.string (sgf nm n)) /\ Keeps Nb w w':=by
 have IT:=qq (z6u n w hv hn);have H:=qq h;have hd:=z3t hn;clear hv h;go_enter Tryz.func56,Tryz.ntmps56;go_wp2_with fail;refine IT.out.mono ?_;rintro _ w1 ⟨rfl,k1⟩;have FA:=qq (z17 l nm (dig n) w1 ((k1.cell (lt_of_cell H.out) (fun e=>e)).trans H.out) hnm (by omega));go_wp2_with fail;refine FA.out.mono ?_;rintro _ _ ⟨rfl,rfl⟩;have K1:=qq k1;clear k1 FA;go_wp2;go_ret;exact ⟨rfl,K1.out⟩
theorem z3q (l:Nat) (nm:ByteArray) (n:Nat) (w:World) (hv:Vars w) (h:w.cell? ⟨l,1,none⟩=some (.string nm)) (hnm:nm.size <= 1000) (hn:n <= 9223372036854775807):Calls Tryz.prog 76 #[.pointer (some ⟨l,0,none⟩),.int .i64 n] w fun e w'=>e=.returned (.string (snf nm n)) /\ Keeps Nb w w':=by
 have IT:=qq (z6u n w hv hn);have H:=qq h;have hd:=z3t hn;clear hv h;go_enter Tryz.func76,Tryz.ntmps76;go_wp2_with fail;refine IT.out.mono ?_;rintro _ w1 ⟨rfl,k1⟩;have FA:=qq (z17 l nm (sS ++ dig n) w1 ((k1.cell (lt_of_cell H.out) (fun e=>e)).trans H.out) hnm (by rw [ByteArray.size_append];have:sS.size=1:=rfl;omega));go_wp2_with fail;refine FA.out.mono ?_;rintro _ _ ⟨rfl,rfl⟩;have K1:=qq k1;clear k1 FA;go_wp2;go_ret;exact ⟨rfl,K1.out⟩
theorem u161:Tryz.prog.underlying 161=some (.interface (Tryz.prog.methodsAt 161)):=by kernel_rfl
theorem zas (x y:ByteArray):(x == y)=decide (x=y):=by
 rw [Bool.eq_iff_iff,decide_eq_true_iff];cases x with | mk x=>cases y with | mk y =>
 show (x == y)=true ↔ _;simp
theorem z83 (x y:ByteArray):(x.toList == y.toList)=decide (x=y):=by
 rw [ByteArray.toList_eq,ByteArray.toList_eq,Bool.eq_iff_iff,decide_eq_true_iff,beq_iff_eq];exact ⟨fun h=>z3j h,fun h=>by rw [h]⟩
theorem z3c (l:Nat) (nm s ahead:ByteArray) (w:World) (hv:Vars w) (h:w.cell? ⟨l,1,none⟩=some (.string nm)) (hnm:nm.size <= 1000) (hs:s.size <= 1000) (ha:ahead.size <= 1000) :
  Calls Tryz.prog 112 #[.pointer (some ⟨l,0,none⟩),.string s,.string ahead] w fun e w'=>e=.returned (.int .i64 (pn (fl nm ahead) s:Nat)) /\ Keeps Nb w w':=by
 have FA:=qq (z17 l nm ahead w h hnm ha);have q1:∀ (w:World) (t:TypeId) (p:Value),(binOp .neq 161 (.iface t p) .nilIface).run Tryz.prog w=.ok (.bool true) w:=fun w t p=>run_neq_held_nil w 161 t p u161;have q2:∀ (w:World),(binOp .neq 161 .nilIface .nilIface).run Tryz.prog w=.ok (.bool false) w:=fun w=>run_neq_nil_nil w 161 u161;obtain ⟨t,ht⟩:∃ t:ByteArray,(⟨(Lib.trimPrefix s.data.toList (fl nm ahead).data.toList).toArray⟩:ByteArray)=t:=⟨_,rfl⟩
 have HT:=qq ht;have htl:t.data.toList=Lib.trimPrefix s.data.toList (fl nm ahead).data.toList:=by rw [<- ht]
 have hts:t.size <= 1000:=by
  rw [z3l,htl];unfold Lib.trimPrefix;rw [z3l] at hs;split
  ·rw [List.length_drop];omega
  ·exact hs
 have AT:=qq (zfs t w hv (by omega));have HV:=qq hv;have HTL:=qq htl;clear hv h hnm hs ha htl;cases hp:Lib.hasPrefix s.data.toList (fl nm ahead).data.toList with
 | false =>
  have CP:Hid (Calls Tryz.prog 146 #[.string s,.string (fl nm ahead)] w fun e w'=>e=.returned (.tuple #[.string t,.bool false]) /\ w=w'):=by have:=z9x s (fl nm ahead) w;rw [HT.out,hp] at this;exact qq this
  have hres:pn (fl nm ahead) s=0:=by unfold pn;rw [hp];rfl
  rw [hres];clear hp hres ht HT HTL;go_enter Tryz.func112,Tryz.ntmps112;go_wp2_with fail;refine FA.out.mono ?_;rintro _ _ ⟨rfl,rfl⟩;go_wp2_with fail;refine CP.out.mono ?_;rintro _ _ ⟨rfl,rfl⟩;go_wp2_with fail;refine AT.out.mono ?_;rintro _ w1 ⟨⟨v,x,rfl,hv1,hv2,hr⟩,k1⟩;have K1:=qq k1;have HRR:=qq hr;clear hr k1 AT FA;go_wp2;go_ret;exact ⟨rfl,K1.out⟩
 | true =>
  have CP:Hid (Calls Tryz.prog 146 #[.string s,.string (fl nm ahead)] w fun e w'=>e=.returned (.tuple #[.string t,.bool true]) /\ w=w'):=by have:=z9x s (fl nm ahead) w;rw [HT.out,hp] at this;exact qq this
  have hres:pn (fl nm ahead) s=nmb t.data.toList:=by
   unfold pn;rw [if_pos hp,HTL.out];unfold Lib.trimPrefix;rw [if_pos hp]
  rw [hres];clear hp hres ht HT HTL;go_enter Tryz.func112,Tryz.ntmps112;go_wp2_with fail;refine FA.out.mono ?_;rintro _ _ ⟨rfl,rfl⟩;go_wp2_with fail;refine CP.out.mono ?_;rintro _ _ ⟨rfl,rfl⟩;go_wp2_with fail;refine AT.out.mono ?_;rintro _ w1 ⟨⟨v,x,rfl,hv1,hv2,hr⟩,k1⟩;have K1:=qq k1;have HRR:=qq hr;clear hr k1 AT FA;rcases HRR.out with ⟨hok,rfl⟩ | ⟨hno,ty,pv,rfl⟩
  ·
   by_cases h1:1 <= v
   ·
    by_cases h2:v <= 2147483647
    ·
     obtain ⟨k,rfl⟩:∃ k:Nat,v=k:=⟨v.toNat,by omega⟩
     have IT:=qq (z6u k w1 (HV.out.nb K1.out) (by omega));by_cases hd:dig k=t
     ·
      have hn:nmb t.data.toList=k:=by
       unfold nmb;rw [hok];simp only;rw [if_pos ⟨h1,h2,by rw [Lib.itoa_nonneg,<- hd,z0u]⟩];omega
      have HN:=qq hn;have t1:((dig k).toList == t.toList)=true:=by rw [z83];simpa using hd
      have t2:decide ((k:Int) < 1)=false:=by simp;omega
      have t3:decide (2147483647 < (k:Int))=false:=by simp;omega
      clear hok hn hd;go_wp2_with fail;refine IT.out.mono ?_;rintro _ w2 ⟨rfl,k2⟩;have K2:=qq (K1.out.trans_nb k2);clear k2 IT HRR;go_wp2;go_ret;exact ⟨by rw [HN.out];rfl,K2.out⟩
     ·
      have hn:nmb t.data.toList=0:=by
       unfold nmb;rw [hok];simp only;rw [if_neg];rintro ⟨-,-,h⟩;rw [Lib.itoa_nonneg] at h;exact hd (z3j (by rw [z0u,h]))
      have HN:=qq hn;have t1:((dig k).toList == t.toList)=false:=by rw [z83];simpa using hd
      have t2:decide ((k:Int) < 1)=false:=by simp;omega
      have t3:decide (2147483647 < (k:Int))=false:=by simp;omega
      clear hok hn hd;go_wp2_with fail;refine IT.out.mono ?_;rintro _ w2 ⟨rfl,k2⟩;have K2:=qq (K1.out.trans_nb k2);clear k2 IT HRR;go_wp2;go_ret;exact ⟨by rw [HN.out];rfl,K2.out⟩
    ·
     have hn:nmb t.data.toList=0:=by
      unfold nmb;rw [hok];simp only;rw [if_neg (by omega)]
     have HN:=qq hn;have h3:2147483647 < v:=by omega
     have t2:decide (v < 1)=false:=by simp;omega
     have t3:decide (2147483647 < v)=true:=by simp;omega
     clear hok hn HRR h2;go_wp2;go_ret;exact ⟨by rw [HN.out];rfl,K1.out⟩
   ·
    have hn:nmb t.data.toList=0:=by
     unfold nmb;rw [hok];simp only;rw [if_neg (by omega)]
    have HN:=qq hn;have h3:v < 1:=by omega
    have t2:decide (v < 1)=true:=by simp;omega
    clear hok hn HRR h1;go_wp2;go_ret;exact ⟨by rw [HN.out];rfl,K1.out⟩
  ·
   have hn:nmb t.data.toList=0:=by
    unfold nmb;split
    ·rename_i u hu;exact absurd hu (hno u)
    ·rfl
   have HN:=qq hn;clear hno hn HRR;go_wp2;go_ret;exact ⟨by rw [HN.out];rfl,K1.out⟩
end Go.Proofs.YtpjomdmjohjheaaGreatDoor
end
section
namespace Go.Proofs.YtpjomdmjohjheaaGreatDoor
open Go.RowKit Go.Lk Go.Vfs Go.Log Go.ChangeShapes Go.WideShapes
variable {W:World} {H:Type} {enc:TypeId × Value -> H}
theorem arr_of {P:Program} {n fuel:Nat} {e t:TypeId} {k:IntKind} {sp:Nat -> Bool} {cs:List Value} {p:List MemPlace} {zs:List Int} (ht:P.underlying t=some (.array n e)) (he:P.underlying e=some (.int k)) (hc:P.cellsOf e=1) (hct:P.cellsOf t=n)
  (h:DataW.trod enc P W 0 sp false fuel t cs=some (.agg (zs.map fun z=>.lit (.int k z)),p)):cs=zs.map fun z=>.int k z:=by
 obtain ⟨xs,m,-,hx,hl,hn,hel⟩:=DataW.trod_array ht h;simp only [Prod.mk.injEq,DataW.agg.injEq] at hx;obtain ⟨hx,-⟩:=hx;have hzl:zs.length=n:=by
  have:=congrArg List.length hx;simp at this;omega
 refine List.ext_getElem? fun i=>?_;rcases Nat.lt_or_ge i n with hi | hi
 ·
  have h1:=hel i hi;rw [hc,List.getElem?_eq_getElem (by omega),Nat.mul_one] at h1;obtain ⟨z,e1,e2,-⟩:=DataW.trod_int he h1;have h2:=zfz e1;have h3:cs[i]?=some (.int k z):=by
   have:=congrArg (fun l=>l[0]?) h2;simpa using this
  have h4:=congrArg (fun l=>l[i]?) hx;simp only [List.getElem?_map,List.getElem?_eq_getElem (show i < xs.length by omega),List.getElem?_eq_getElem (show i < zs.length by omega),Option.map_some,e2,Option.some.injEq,DataW.lit.injEq,Lit.int.injEq] at h4;rw [h3,List.getElem?_map,List.getElem?_eq_getElem (show i < zs.length by omega),Option.map_some,h4.2]
 ·rw [List.getElem?_eq_none (by omega),List.getElem?_eq_none (by simp;omega)]
theorem gSyn:Tryz.prog.globalNamed "strconv.ErrSyntax" = some 1:=by kernel_rfl
theorem gRng:Tryz.prog.globalNamed "strconv.ErrRange" = some 2:=by kernel_rfl
theorem gTab:Tryz.prog.globalNamed "internal/strconv.uint64pow10" = some 3:=by kernel_rfl
theorem gDb:Tryz.prog.globalNamed "math/bits.deBruijn64tab" = some 5:=by kernel_rfl
theorem tTab:(Tryz.prog.globals[3]?).map (·.type)=some 218:=by kernel_rfl
theorem tRng:(Tryz.prog.globals[2]?).map (·.type)=some 161:=by kernel_rfl
theorem tSyn:(Tryz.prog.globals[1]?).map (·.type)=some 161:=by kernel_rfl
theorem z87 {P:Program} {s:String} {g:Nat} {cs:Array Value} (hg:P.globalNamed s=some g) (hv:W.var? P s=some cs):∃ T f,W.heap[g]?=some (.cells cs T f):=by
 unfold World.var? at hv;rw [hg,Option.bind_some] at hv;cases h:W.heap[g]? with
 | none=>rw [h] at hv;cases hv
 | some o =>
  rw [h] at hv;cases o with
  | cells c T f=>exact ⟨T,f,by cases hv;rfl⟩
  | _=>cases hv
theorem zhf (h:laidMet Tryz.prog Rows.logSplitsRow.laid W):Vars W /\ 6 <= W.heap.size:=by
 obtain ⟨ps,⟨g1,t1,cs1,f1,p1,q1,hg1,ht1,hv1,hd1,⟨g2,t2,cs2,f2,p2,q2,hg2,ht2,hv2,hd2,⟨g3,t3,cs3,f3,p3,q3,hg3,ht3,hv3,hd3,⟨g4,t4,cs4,f4,p4,q4,hg4,ht4,hv4,hd4,⟨g5,t5,cs5,f5,p5,q5,hg5,ht5,hv5,hd5,-,-⟩,-⟩,-⟩,-⟩,-⟩,-⟩:=h;obtain rfl:=Option.some.inj (gDb.symm.trans hg2);obtain rfl:=Option.some.inj (gTab.symm.trans hg3);obtain rfl:=Option.some.inj (gRng.symm.trans hg4);obtain rfl:=Option.some.inj (gSyn.symm.trans hg5);obtain ⟨T2,F2,hb2⟩:=z87 gDb hv2;obtain ⟨T3,F3,hb3⟩:=z87 gTab hv3;rw [tTab] at ht3;cases ht3;rw [tRng] at ht4;cases ht4;rw [tSyn] at ht5;cases ht5;obtain ⟨x4,u4,v4,e4,-⟩:=iface_of_trod Tryz.underlying161 hd4;obtain ⟨x5,u5,v5,e5,-⟩:=iface_of_trod Tryz.underlying161 hd5;refine ⟨⟨⟨T3,F3,?_⟩,⟨u5,v5,?_⟩,⟨u4,v4,?_⟩⟩,lt_of_block hb2⟩
 ·have:=arr_of (p:=p3) (zs:=Lib.pow10Tab) Tryz.underlying218 Tryz.underlying80 (by kernel_rfl) (by kernel_rfl) (hd3.trans (by simp [Rows.laid_internal_strconv_uint64pow10,Lib.pow10Tab,List.range,List.range.loop]));rw [hb3,<- this]
 ·have:=World.var?_cell gSyn hv5 0;rw [Array.eq_one_of_toList e5] at this;simpa using this
 ·have:=World.var?_cell gRng hv4 0;rw [Array.eq_one_of_toList e4] at this;simpa using this
end Go.Proofs.YtpjomdmjohjheaaGreatDoor
end
section
namespace Go.Log
open Go.Lk Go.RowKit Go.Vfs
variable {w w' w2:World} {l d:Nat} {Fd Rd FL RL S:Nat -> Prop} {L:Lg} {X:Ds}
def lcs (d:Nat) (sv lv:Value) (L:Lg):Array Value :=
 #[.pointer (some ⟨d,0,none⟩),.string L.name,.int .i64 (L.most:Nat),.int .i64 (L.first:Nat),.int .i64 (L.segment:Nat),.int .i64 (L.segments:Nat),.int .i64 (L.size:Nat),sv,.bool L.has,lv,.int .i64 (L.synced:Nat),.bool L.bad]
structure NumL (L:Lg):Prop where
 name:mnB L.name=true
 n16:L.name.size <= 16
 most:L.most <= 1048576
 first:L.first <= 4294967296
 segment:L.segment <= 4294967296
 segments:L.segments <= 1000000
 size:L.size <= 33554432
 recs:Recs L.recs
 nrec:L.recs.length <= 4000000000000
 snap:L.snap.length <= mxr
structure LgAt (w:World) (l d:Nat) (Fd Rd FL RL:Nat -> Prop) (L:Lg) (X:Ds):Prop where
 disk:DiskAt w d Fd Rd X.D X.fc
 ex:∃ sv lv vs,w.heap[l]?=some (.cells (lcs d sv lv L) 78 (0,0)) /\ Bytes w RL sv L.snap /\ RowS w FL (fun _=>False) 22 1 lv L.recs.length vs /\ BytesL w RL vs L.recs
 fl:FL l
 apF:∀ k,FL k -> ¬ Fd k /\ ¬ Rd k
 apR:∀ k,RL k -> ¬ Fd k /\ ¬ FL k
 ltF:∀ k,FL k -> k < w.heap.size
 ltR:∀ k,RL k -> k < w.heap.size
 nums:NumL L
 low:∀ k,Fd k \/ FL k -> 6 <= k
theorem LgAt.keeps (h:LgAt w l d Fd Rd FL RL L X) (hk:Keeps S w w') (h1:∀ k,Fd k -> ¬ S k) (h2:∀ k,Rd k -> ¬ S k) (h3:∀ k,FL k -> ¬ S k) (h4:∀ k,RL k -> ¬ S k):LgAt w' l d Fd Rd FL RL L X:=by
 obtain ⟨g1,⟨sv,lv,vs,e1,e2,e3,e4⟩,g3,g4,g5,g6,g7,g8,g9⟩:=h;exact ⟨g1.keeps hk h1 h2,⟨sv,lv,vs,hk.at e1 (h3 l g3),e2.keeps hk h4,e3.keeps hk (fun k hk _=>hk.elim (h3 k) (fun e=>e.elim)),e4.keeps hk h4⟩,g3,g4,g5,fun k e=>Nat.lt_of_lt_of_le (g6 k e) hk.size,fun k e=>Nat.lt_of_lt_of_le (g7 k e) hk.size,g8,g9⟩
theorem LgAt.nb (h:LgAt w l d Fd Rd FL RL L X) (hk:Keeps Nb w w'):LgAt w' l d Fd Rd FL RL L X:=h.keeps hk (fun _ _ e=>e) (fun _ _ e=>e) (fun _ _ e=>e) (fun _ _ e=>e)
theorem LgAt.cells (h:LgAt w l d Fd Rd FL RL L X):∃ sv lv,(∀ u,Keeps Nb w u -> u.heap[l]?=some (.cells (lcs d sv lv L) 78 (0,0))):=by
 obtain ⟨sv,lv,vs,e1,-⟩:=h.ex;exact ⟨sv,lv,fun u hu=>hu.nb e1⟩
def LNow (w w':World) (l d:Nat) (Fd Rd FL RL:Nat -> Prop) (L:Lg) (X:Ds):Prop :=
 ∃ Fd' Rd' FL' RL',LgAt w' l d Fd' Rd' FL' RL' L X /\ (∀ k,Fd' k -> Fd k \/ w.heap.size <= k) /\ (∀ k,Rd' k -> Rd k \/ w.heap.size <= k) /\ (∀ k,FL' k -> FL k \/ w.heap.size <= k) /\ (∀ k,RL' k -> RL k \/ w.heap.size <= k) /\ Keeps (fun k=>Fd k \/ FL k) w w'
theorem LNow.of (h:LgAt w' l d Fd Rd FL RL L X) (hk:Keeps Nb w w'):LNow w w' l d Fd Rd FL RL L X:=⟨Fd,Rd,FL,RL,h,fun _ e=>.inl e,fun _ e=>.inl e,fun _ e=>.inl e,fun _ e=>.inl e,hk.of_nb⟩
theorem Vars.now (hv:Vars w) (h:LgAt w l d Fd Rd FL RL L X) {L':Lg} {X':Ds} (hn:LNow w w' l d Fd Rd FL RL L' X'):Vars w':=by
 obtain ⟨Fd',Rd',FL',RL',h1,h2,h3,h4,h5,h6⟩:=hn;exact hv.keeps h6 (fun k hk e=>by have:=h.low k e;omega)
theorem LgAt.disk_now (h:LgAt w l d Fd Rd FL RL L X) {Y:Ds} (hn:Now w w' d Fd Rd Y.D Y.fc) (hz:6 <= w.heap.size):LNow w w' l d Fd Rd FL RL L Y:=by
 obtain ⟨g1,⟨sv,lv,vs,e1,e2,e3,e4⟩,g3,g4,g5,g6,g7,g8,g9⟩:=h;obtain ⟨Fd',Rd',h1,h2,h3,h4⟩:=hn;have hz4:=h4.size;refine ⟨Fd',Rd',FL,RL,⟨h1,⟨sv,lv,vs,h4.at e1 (fun e=>(g4 l g3).1 e),e2.keeps h4 (fun k hk e=>(g5 k hk).1 e),e3.keeps h4 (fun k hk _ e=>hk.elim (fun hk=>(g4 k hk).1 e) (fun e=>e.elim)),e4.keeps h4 (fun k hk e=>(g5 k hk).1 e)⟩,g3,?_,?_,fun k e=>Nat.lt_of_lt_of_le (g6 k e) hz4,fun k e=>Nat.lt_of_lt_of_le (g7 k e) hz4,g8,?_⟩,h2,h3,fun _ e=>.inl e,fun _ e=>.inl e,h4.mono (fun _ _ e=>.inl e)⟩
 ·intro k hk;have:=g6 k hk;exact ⟨fun e=>(h2 k e).elim (g4 k hk).1 (fun e=>by omega),fun e=>(h3 k e).elim (g4 k hk).2 (fun e=>by omega)⟩
 ·intro k hk;have:=g7 k hk;exact ⟨fun e=>(h2 k e).elim (g5 k hk).1 (fun e=>by omega),(g5 k hk).2⟩
 ·
  intro k hk;rcases hk with hk | hk
  ·exact (h2 k hk).elim (fun e=>g9 k (.inl e)) (fun e=>by omega)
  ·exact g9 k (.inr hk)
theorem zeh (nm:ByteArray) (a:List ByteArray) (s:ByteArray):nxL nm (a ++ [s])=max (nxL nm a) (max (sgn nm s) (snn nm s)):=by
 rw [z8p (List.perm_append_comm (l₁:=a) (l₂:=[s]))];show max (max (sgn nm s) (snn nm s)) (nxL nm a)=_;omega
end Go.Log
end
section
namespace Go.Proofs.YtpjomdmjohjheaaGreatDoor
open Go.RowKit Go.Lk Go.Vfs Go.Log
attribute [local go_sem] Oper.semAt_some
theorem z0z {s:ByteArray} (h:mnB s=true):s.size <= 32:=((zaa s).1 h).2.2
theorem z6w (l d:Nat) (Fd Rd FL RL:Nat -> Prop) (L:Lg) (X:Ds) (w:World) (h:LgAt w l d Fd Rd FL RL L X) (hv:Vars w) :
  Calls Tryz.prog 52 #[.pointer (some ⟨l,0,none⟩)] w fun e w'=>e=.returned (.tuple #[.int .i64 (nxN L.name X:Nat),.int .i64 (nxE L.name X)]) /\ Keeps Nb w w':=by
 obtain ⟨sv,lv,hcs⟩:=h.cells;have H:=qq h;have HV:=qq hv;have HC:=qq hcs;have HN16:=qq h.nums.n16;clear h hv hcs;refine z1j Tryz.func52 rfl ?_;simp only [Tryz.ntmps52,List.size_toArray,List.length_cons,List.length_nil,Nat.reduceAdd,Nat.reduceSub,Array.replicate_succ,Array.replicate_zero,List.push_toArray,List.append_toArray,List.nil_append,List.cons_append];go_wp2_with (first | go_skip | (with_reducible refine zm (t:=40) ?_))
 refine za (vbox1 (v:=.pointer (some ⟨l,0,none⟩)) (by rfl) rfl ?_);intro b1 w1 n1;simp only [Nat.reduceAdd,qn];go_wp2_with (first | go_skip | (with_reducible refine qv (by decide) ?_))
 refine za (valloc (z:=.int .i64 0) (by kernel_rfl) ?_);intro g4 w2 n2;simp only [Nat.reduceAdd,qn];go_wp2_with (first | go_skip | (with_reducible refine qv (by decide) ?_))
 refine za (zc rfl (zd (v:=.int .i64 0) (n:=1) (by kernel_rfl) (by rfl) (by rfl) n2.blk (by rfl) (by simp [Value.cells]) (by simp [Value.cells,Value.oneCell'])) ?_);intro w3 s3;simp only [Nat.reduceAdd,qn];have hb14:b1 < g4:=by have:=n1.lt;have:=n2.ge;omega
 have K3:Hid (Keeps Nb w w3):=qq ((n1.k.trans_nb n2.k).own (k:=g4) (by have:=n1.k.size;have:=n2.ge;omega) s3.k);have B1:Hid (w3.heap[b1]?=some (.cells #[.pointer (some ⟨l,0,none⟩)] 40 (0,0))):=qq (s3.k.at (n2.k.nb n1.blk) (fun e=>by omega));have B4:Hid (w3.heap[g4]?=some (.cells #[.int .i64 (0:Nat)] 3 (0,0))):=qq s3.blk;have G1:Hid (w.heap.size <= b1):=qq n1.ge;clear n1 n2 s3;have c1:w3.cell? ⟨b1,0,none⟩=some (.pointer (some ⟨l,0,none⟩)):=(cell_of_block B1.out).trans rfl;have c2:w3.cell? ⟨l,0,none⟩=some (.pointer (some ⟨d,0,none⟩)):=(cell_of_block (HC.out w3 K3.out)).trans rfl;have FA:=qq (z3u d X.D Fd Rd X.fc w3 (H.out.disk.nb K3.out));go_wp2_with fail;refine FA.out.mono ?_;rintro _ w6 ⟨ns,hperm,a3,a4,rfl,hfa,k6⟩;obtain ⟨ps,hps⟩:∃ ps,(ns.map fun s=>(s,szOf X.D X.fc s))=ps:=⟨_,rfl⟩
 rw [hps] at hfa;have HPS:=qq hps;have HPM:=qq hperm;have HFA:=qq hfa;have K6:=qq k6;have hnx:nxL L.name ns=nx L.name X:=z8p hperm;have HNX:=qq hnx;have hlen:ps.length=ns.length:=by rw [<- hps,List.length_map]
 have HLEN:=qq hlen;have W6:Hid (w6.heap[g4]?=some (.cells #[.int .i64 (nxL L.name (ns.take 0):Nat)] 3 (0,0))):=qq (k6.nb B4.out);have L4:g4 < w3.heap.size:=lt_of_block B4.out;have z36:=k6.size;clear hps hperm hfa k6 hnx hlen FA c1 c2;go_wp2_with (with_reducible refine z19 ?_)
 refine za ((wpIn_wide (n:=9)).1 ?_)
 refine z2a (gf:=95) (lb:=#[.pointer (some ⟨a3,0,none⟩),.pointer (some ⟨a4,0,none⟩)]) (by rfl) (enters_of Tryz.func95 (by kernel_rfl) rfl)
  (z2g 8 (by omega) w3.heap.size a3 a4 ps (fun b=>w6.heap.size <= b \/ b=g4) w6 HFA.out (fun b h1 h2 e=>by omega))
  (fun b hb=>.inl (by unfold Book at hb;omega)) (fun i args W h=>by obtain ⟨p,-,rfl⟩:=h;rfl)
  (fun i W=>W.heap[g4]?=some (.cells #[.int .i64 (nxL L.name (ns.take i):Nat)] 3 (0,0)) /\ Keeps (fun b=>w6.heap.size <= b \/ b=g4) w6 W) (fun _ _=>False)
  (fun i A B h k=>⟨k.at h.1 (fun e=>by unfold Book at e;omega),h.2.trans k (fun j hj e=>by unfold Book at e;omega)⟩) (fun c A B h=>h.elim) ⟨W6.out,Keeps.refl _ _⟩ ?round ?done (fun _ _ h=>h.elim)
 case round =>
  rintro lm i args W rfl hW2 ⟨hbn,hkW⟩ hi ⟨p,hp,rfl⟩;simp only [List.zip_toArray,List.zip_cons_cons,List.zip_nil_right,List.foldl_toArray,List.foldl_cons,List.foldl_nil,List.setIfInBounds_toArray,List.set_cons_succ,List.set_cons_zero];have hns:ns[i]?=some p.1:=by
   rw [<- HPS.out,List.getElem?_map] at hp;obtain ⟨s,h1,h2⟩:=Option.map_eq_some_iff.1 hp;rw [h1,<- h2]
  have hmn:mnB p.1=true:=by
   have h1:=HPM.out.mem_iff.1 (List.mem_of_getElem? hns);obtain ⟨q,hq,e⟩:=List.mem_map.1 h1;rw [<- e];exact H.out.disk.names.files q hq
  obtain ⟨nm,sz⟩:=p;have HNS:=qq hns;have hsz:=z0z hmn;have HBN:=qq hbn;have HKW:=qq hkW;clear hbn hkW hp hns hmn
  repeat (first | (with_reducible refine zg ?_) | (with_reducible refine stop_range ?_) | gi_step)
  refine za (zh (by kernel_rfl) (by rintro ⟨_,_,h⟩;exact h) ?_);go_wp2;refine ⟨Keeps.refl _ _,fun W3 k3=>?_⟩;have KW3:Hid (Keeps (fun b=>w6.heap.size <= b \/ b=g4) w6 W3):=qq (HKW.out.trans k3 (fun j _ e=>by omega));have BN3:Hid (W3.heap[g4]?=some (.cells #[.int .i64 (nxL L.name (ns.take i):Nat)] 3 (0,0))):=qq (k3.at HBN.out (fun e=>by omega));have KK:Hid (Keeps Nb w W3):=qq ((K3.out.trans_nb K6.out).trans KW3.out (fun j hj e=>by have:=K3.out.size;have:=G1.out;omega));have B13:Hid (W3.heap[b1]?=some (.cells #[.pointer (some ⟨l,0,none⟩)] 40 (0,0))):=qq (KW3.out.at (K6.out.nb B1.out) (fun e=>by omega));have zW3:w6.heap.size + 2 <= W3.heap.size:=by have:=k3.size;omega
  obtain ⟨nxi,hnxi⟩:∃ q,nxL L.name (ns.take i)=q:=⟨_,rfl⟩
  have HNXI:=qq hnxi;rw [hnxi] at BN3;clear k3 HBN HKW hnxi
  have PA:Hid (∀ (u:World) (ah:ByteArray),Keeps Nb W3 u -> ah.size <= 1000 -> Calls Tryz.prog 112 #[.pointer (some ⟨l,0,none⟩),.string nm,.string ah] u fun e w'=>e=.returned (.int .i64 (pn (fl L.name ah) nm:Nat)) /\ Keeps Nb u w') :=
   qq (fun u ah hu ha=>z3c l L.name nm ah u (HV.out.nb (KK.out.trans_nb hu)) ((cell_of_block (HC.out u (KK.out.trans_nb hu))).trans rfl) (by have:=HN16.out;omega) (by omega) ha)
  repeat (first | (with_reducible refine zg ?_) | (with_reducible refine stop_range ?_) | gi_step)
  refine za (WT.regionIn (fun u=>u.cell? ⟨g4,0,none⟩=some (.int .i64 (nxi:Nat)) /\ u.cell? ⟨b1,0,none⟩=some (.pointer (some ⟨l,0,none⟩))) 8 [0,1,2,4,5,3,6,7,8] (by kernel_rfl) (by rintro ⟨_,_,h⟩;exact h) (by kernel_rfl) rfl ?_);have HS:Hid ((fun u:World=>u.cell? ⟨g4,0,none⟩=some (.int .i64 (nxi:Nat)) /\ u.cell? ⟨b1,0,none⟩=some (.pointer (some ⟨l,0,none⟩))) W3.drew):=qq ⟨(cell_of_block BN3.out).trans rfl,(cell_of_block B13.out).trans rfl⟩;refine WT.t 0 (v:=.int .i64 (nxi:Nat)) (y:=by rintro w ⟨C1,C2⟩;exact zb (by kernel_rfl) (by rfl) C1) (s:=HS.out) (h:=?_);refine WT.t 1 (v:=.pointer (some ⟨l,0,none⟩)) (y:=by rintro w ⟨C1,C2⟩;exact zb (by kernel_rfl) (by rfl) C2) (s:=HS.out) (h:=?_);refine WT.t 2 (v:=_) (y:=by rintro w ⟨C1,C2⟩;go_simp;with_reducible rfl) (s:=HS.out) (h:=?_);refine WT.t 4 (v:=.pointer (some ⟨l,0,none⟩)) (y:=by rintro w ⟨C1,C2⟩;exact zb (by kernel_rfl) (by rfl) C2) (s:=HS.out) (h:=?_);refine WT.t 5 (v:=_) (y:=by rintro w ⟨C1,C2⟩;go_simp;with_reducible rfl) (s:=HS.out) (h:=?_);refine WT.call 3 (by simp only [qi];rfl) (by kernel_rfl) (by rfl) (by go_simp;first | done | rfl | exact ⟨⟨rfl,rfl⟩,rfl⟩ | exact ⟨⟨rfl,rfl,rfl⟩,rfl⟩) (PA.out _ ByteArray.empty (Keeps.refl Nb W3).drew (by decide)) ?_;rintro _ W4 ⟨rfl,k4⟩;have K4:Hid (Keeps Nb W3 W4):=qq ((Keeps.refl Nb W3).drew.trans_nb k4);clear k4;replace HS:Hid ((fun u:World=>u.cell? ⟨g4,0,none⟩=some (.int .i64 (nxi:Nat)) /\ u.cell? ⟨b1,0,none⟩=some (.pointer (some ⟨l,0,none⟩))) W4):=qq ⟨(cell_of_block (K4.out.nb BN3.out)).trans rfl,(cell_of_block (K4.out.nb B13.out)).trans rfl⟩;refine ⟨_,rfl,HS.out,?_⟩;simp only [Nat.reduceAdd,qn];refine WT.call 6 (by simp only [qi];rfl) (by kernel_rfl) (by rfl) (by go_simp;first | done | rfl | exact ⟨⟨rfl,rfl⟩,rfl⟩ | exact ⟨⟨rfl,rfl,rfl⟩,rfl⟩) (PA.out _ sS K4.out (by decide)) ?_;rintro _ W5 ⟨rfl,k5⟩;have K5:Hid (Keeps Nb W3 W5):=qq (K4.out.trans_nb k5);clear k5;replace HS:Hid ((fun u:World=>u.cell? ⟨g4,0,none⟩=some (.int .i64 (nxi:Nat)) /\ u.cell? ⟨b1,0,none⟩=some (.pointer (some ⟨l,0,none⟩))) W5):=qq ⟨(cell_of_block (K5.out.nb BN3.out)).trans rfl,(cell_of_block (K5.out.nb B13.out)).trans rfl⟩;refine ⟨_,rfl,HS.out,?_⟩;simp only [Nat.reduceAdd,qn];refine WT.t 7 (v:=.int .i64 (max nxi (max (sgn L.name nm) (snn L.name nm)):Nat)) (y:=by rintro w ⟨C1,C2⟩;go_simp;unfold sgn snn;split <;> split <;> omega) (s:=HS.out) (h:=?_);refine WT.stop (by kernel_rfl) ?_;refine WP.onlySkipE 8 (by simp only [qi];rfl) (by kernel_rfl) (by rfl) (zd (v:=.int .i64 (max nxi (max (sgn L.name nm) (snn L.name nm)):Nat)) (n:=1) (by kernel_rfl) (by rfl) (by rfl) (K5.out.nb BN3.out) (by rfl) (by simp [Value.cells]) (by simp [Value.cells,Value.oneCell'])) ?_;intro W6 s6;simp only [Nat.reduceAdd,qn];refine WP.done (by kernel_rfl) ?_;have kf:Keeps (fun b=>(w6.heap.size <= b \/ b=g4) /\ ¬ Book w6 b) W3 W6:=(K5.out.of_nb).trans s6.k (fun j _ e=>⟨.inr e,by have h1:j=g4:=e;subst h1;unfold Book;omega⟩);have hb6:W6.heap[g4]?=some (.cells #[.int .i64 (nxL L.name (ns.take (i + 1)):Nat)] 3 (0,0)):=by
   have hil:=(List.getElem?_eq_some_iff.1 HNS.out).1;rw [List.take_succ_eq_append_getElem hil,zeh,(List.getElem?_eq_some_iff.1 HNS.out).2,HNXI.out];exact s6.blk
  exact ⟨kf,hb6,KW3.out.trans kf (fun j _ e=>e.1)⟩
 case done =>
  rintro W ⟨hbn,hkW⟩ hD;rw [HLEN.out,List.take_length,HNX.out] at hbn;have c4:W.cell? ⟨g4,0,none⟩=some (.int .i64 (nx L.name X:Nat)):=(cell_of_block hbn).trans rfl;have KW:Hid (Keeps Nb w W):=qq ((K3.out.trans_nb K6.out).trans hkW (fun j hj e=>by have:=K3.out.size;have:=G1.out;omega));have HD:=qq hD;have L6:=lt_of_block hD;have z6:w.heap.size <= w6.heap.size:=(K3.out.trans_nb K6.out).size;clear hbn hkW hD;have kp:=zv W w6.heap.size (.deferred none);have KF:Hid (Keeps Nb w (W.putObj w6.heap.size (.deferred none))):=qq (KW.out.trans kp (fun j hj e=>by have:j=w6.heap.size:=e;omega));clear kp;by_cases hm:mxn <= nx L.name X
  ·
   have he:nxE L.name X=5:=by unfold nxE;rw [if_pos hm]
   have HE:=qq he;have HN2:Hid (nxN L.name X=0):=qq (by unfold nxN;rw [if_pos hm]);have i1:(2147483647:Int) <= (nx L.name X:Nat):=by unfold mxn at hm;omega
   clear he hm;go_wp2;refine ⟨by simp,.inl ⟨_,_,rfl,run_takeDeferred HD.out,?_⟩⟩;exact ⟨.tuple #[.int .i64 0,.int .i64 5],by simp [results,Tryz.f52,go_sem],by rw [HE.out,HN2.out];rfl,KF.out⟩
  ·
   have he:nxE L.name X=0:=by unfold nxE;rw [if_neg hm]
   have HE:=qq he;have HN2:Hid (nxN L.name X=nx L.name X + 1):=qq (by unfold nxN;rw [if_neg hm]);have i2:IntKind.i64.wrap (((nx L.name X:Nat):Int) + 1)=((nx L.name X:Nat):Int) + 1:=IntWalk.i64_in _ (by unfold mxn at hm;omega);have i1:decide ((2147483647:Int) <= ((nx L.name X:Nat):Int))=false:=by unfold mxn at hm;simp;omega
   clear he hm;go_wp2;refine ⟨by simp,.inl ⟨_,_,rfl,run_takeDeferred HD.out,?_⟩⟩;exact ⟨.tuple #[.int .i64 ((nx L.name X + 1:Nat):Int),.int .i64 0],by simp [results,Tryz.f52,go_sem],by rw [HE.out,HN2.out],KF.out⟩
end Go.Proofs.YtpjomdmjohjheaaGreatDoor
end
section
namespace Go.Log
open Go.Lk
theorem z6n {cs:Array Value} {off:Nat} {v:Value} (h:off < cs.size):splice cs #[v] off=cs.setIfInBounds off v:=by
 apply Array.ext';unfold splice;simp only [Array.toList_setIfInBounds];rw [List.set_eq_take_append_cons_drop,if_pos (by simpa using h)];simp
end Go.Log
namespace Go.Proofs.YtpjomdmjohjheaaGreatDoor
open Go.RowKit Go.Lk Go.Vfs Go.Log
structure Fv where
 g:Nat
 bnd:Array Value
 caps:Array Value
def Fv.v (f:Fv):Value:=.func (.func f.g) f.bnd f.caps
def AskE (l:Nat) (R:Int -> World -> Prop) (er:Int) (w:World):Prop :=
 ∃ cs,w.heap[l]?=some (.cells cs 78 (0,0)) /\ 11 < cs.size /\ ∀ w',SetAt w w' l (.cells (cs.setIfInBounds 11 (.bool true)) 78 (0,0)) -> R er w'
theorem ask_at (l:Nat) (a:Option Addr) (n c:Nat) (fs:List Fv) (Φ:Nat -> World -> Prop) (R:Int -> World -> Prop) (w:World) (hn:fs.length=n) (hnc:n <= c) (hc:c <= 1000)
  (hg:∀ f ∈ fs,∀ args w,(callFunc f.g args).run Tryz.prog w=.ok (.enter f.g args) w) (hr:∀ i w',i <= n -> Φ i w' -> Has w' a (fs.map Fv.v))
  (h0:Φ 0 w) (hs:∀ i f w',fs[i]?=some f -> Φ i w' -> Calls Tryz.prog f.g (f.bnd ++ f.caps) w' fun e w''=>∃ er:Int,e=.returned (.int .i64 er) /\ ((er=0 /\ Φ (i + 1) w'') \/ (er ≠ 0 /\ AskE l R er w'')))
  (hd:∀ w',Φ n w' -> R 0 w') :
  Calls Tryz.prog 53 #[.pointer (some ⟨l,0,none⟩),.slice a n c] w fun e w'=>∃ er:Int,e=.returned (.int .i64 er) /\ R er w':=by
 have HG:=qq hg;have HR:=qq hr;have H0:=qq h0;have HS:=qq hs;have HD:=qq hd;have HN:=qq hn;clear hg hr h0 hs hd hn;go_enter Tryz.func53,Tryz.ntmps53;go_wp2
 go_loopw [10] (fun i wr=>∃ k:Nat,k <= n /\ i=.int .i64 k /\ Φ k wr) (fun i _=>n - (intOf i).toNat)
 case atStart=>exact ⟨0,Nat.zero_le _,rfl,H0.out⟩
 case round =>
  obtain ⟨k,hk,rfl,hf⟩:=hrel;have HF:=qq hf;clear hf;by_cases hlt:k < n
  ·
   have i1:(k:Int) < (n:Int):=by omega
   obtain ⟨f,hfk⟩:∃ f,fs[k]?=some f:=⟨_,List.getElem?_eq_getElem (by rw [HN.out];exact hlt)⟩
   have HFK:=qq hfk;obtain ⟨b,off,rfl,hck⟩:∃ b off,a=some ⟨b,off,none⟩ /\ wr.cell? ⟨b,off + k,none⟩=some (.func (.func f.g) f.bnd f.caps):=by
    rcases HR.out k wr (by omega) HF.out with h | ⟨b,off,h,hc⟩
    ·have:fs=[]:=List.map_eq_nil_iff.1 h;rw [this] at hfk;cases hfk
    ·exact ⟨b,off,h,hc k _ (by rw [List.getElem?_map,hfk];rfl)⟩
   have ew:=HG.out f (List.mem_of_getElem? hfk);have HST:=qq (HS.out k f wr hfk HF.out);clear hfk;go_wp2_with fail;refine HST.out.mono ?_;rintro _ w1 ⟨er,rfl,⟨rfl,hf1⟩ | ⟨hne,cs,hb,hcs,hR⟩⟩
   ·
    have HF1:=qq hf1;clear hf1 hck ew HST;go_wp2;go_roundw
    case rel=>exact ⟨k + 1,by omega,by go_num,HF1.out⟩
    case measure=>simp [intOf];omega
   ·
    have HRR:=qq hR;have t1:(er != 0)=true:=by simpa using hne
    clear hR hck ew HST hne;go_wp2_with (first | go_skip | (with_reducible refine qv (by decide) ?_))
    refine za (zc rfl (zd (v:=.bool true) (n:=1) (by kernel_rfl) (by rfl) (by rfl) hb (by rfl) (by simp [Value.cells];omega) (by simp [Value.cells,Value.oneCell'])) ?_);intro w2 s2;simp only [Nat.reduceAdd,qn];have hset:=HRR.out w2 (by rw [<- z6n hcs];exact s2);have HF2:=qq hset;clear hset s2 HRR hb;go_wp2;go_ret;exact ⟨er,rfl,HF2.out⟩
  ·
   obtain rfl:k=n:=by omega
   have HR0:=qq (HD.out wr HF.out);go_wp2;go_ret;exact ⟨0,rfl,HR0.out⟩
end Go.Proofs.YtpjomdmjohjheaaGreatDoor
end
section
namespace Go.Log
open Go.Lk Go.RowKit Go.Vfs
variable {w w' w2:World} {l d:Nat} {Fd Rd FL RL S:Nat -> Prop} {L:Lg} {X Y Z:Ds} {e:Int} {s t:ByteArray}
theorem LgAt.setL (h:LgAt w l d Fd Rd FL RL L X) {sv lv:Value} {L':Lg} {cs:Array Value} (hc:w.heap[l]?=some (.cells (lcs d sv lv L) 78 (0,0))) (hs:SetAt w w' l (.cells cs 78 (0,0))) (hcs:cs=lcs d sv lv L') (e1:L'.snap=L.snap) (e2:L'.recs=L.recs) (hn:NumL L') :
  LgAt w' l d Fd Rd FL RL L' X:=by
 subst hcs;obtain ⟨g1,⟨sv',lv',vs,h1,h2,h3,h4⟩,g3,g4,g5,g6,g7,g8,g9⟩:=h;rw [hc] at h1;obtain ⟨rfl,rfl⟩:sv=sv' /\ lv=lv':=by simpa [lcs] using h1
 have k:=hs.k;have hT:∀ k,IsT w 22 k -> ¬ k=l:=fun k ht e=>by subst e;exact (ht.ne ⟨_,_,hc⟩ (by decide)) rfl
 refine ⟨g1.keeps k (fun k hk e=>(g4 l g3).1 (e ▸ hk)) (fun k hk e=>(g4 l g3).2 (e ▸ hk)),⟨sv,lv,vs,hs.blk,?_,?_,?_⟩,g3,g4,g5,fun k e=>Nat.lt_of_lt_of_le (g6 k e) hs.k.size,fun k e=>Nat.lt_of_lt_of_le (g7 k e) hs.k.size,hn,g9⟩
 ·rw [e1];exact h2.keeps k (fun k hk e=>(g5 k hk).2 (e ▸ g3))
 ·rw [e2];exact h3.keeps k (fun k hk ht=>hT k ht)
 ·rw [e2];exact h4.keeps k (fun k hk e=>(g5 k hk).2 (e ▸ g3))
theorem NumL.setBad (h:NumL L) (b:Bool):NumL { L with bad:=b }:=⟨h.name,h.n16,h.most,h.first,h.segment,h.segments,h.size,h.recs,h.nrec,h.snap⟩
def pot (X:Ds):Int:=X.D.changes + 2 * X.D.files.length
theorem z59 (h1:Y.D=(chg X.D).1):pot Y=pot X + 1:=by
 obtain ⟨a,-,-,b,-⟩:=z03 X.D;unfold pot;rw [h1,a,b];omega
theorem z6a (h:mkO s X e Y):pot Y <= pot X + 3:=by
 obtain ⟨n,-,h⟩:=h;obtain ⟨a,-,-,b,-⟩:=z03 X.D;rcases h with ⟨-,-,h,-⟩ | ⟨-,-,-,h,-⟩ | ⟨-,-,-,-,h,-⟩ | ⟨-,-,-,-,-,h,-⟩ | ⟨-,-,-,-,-,⟨-,k,-,h,-⟩ | ⟨-,h,-⟩⟩
 ·unfold pot;rw [h];omega
 ·unfold pot;rw [h];omega
 ·unfold pot;rw [h];omega
 ·unfold pot;rw [h];omega
 ·unfold pot;rw [h];simp only [Dk.make,List.length_append,List.length_cons,List.length_nil];rw [a,b];omega
 ·rw [z59 h];omega
theorem zd0 {bs:List Nat} (h:apO s bs X e Y):pot Y <= pot X + 1:=by
 rcases h with ⟨-,-,h,-⟩ | ⟨-,-,-,h,-⟩ | ⟨b,-,-,⟨-,-,h,-⟩ | ⟨-,-,-,h,-⟩ | ⟨-,-,-,h,-⟩⟩
 ·unfold pot;rw [h];omega
 ·unfold pot;rw [h];omega
 ·unfold pot;rw [h];omega
 ·unfold pot;rw [h];omega
 ·rw [z59 h];omega
theorem z4n (h:syO s X e Y):pot Y <= pot X + 1:=by
 rcases h with ⟨-,-,h,-⟩ | ⟨-,-,-,h,-⟩ | ⟨b,-,-,⟨-,-,h,-⟩ | ⟨-,-,h,-⟩⟩
 ·unfold pot;rw [h];omega
 ·unfold pot;rw [h];omega
 ·unfold pot;rw [h];omega
 ·rw [z59 h];omega
theorem pot_cu {n:Nat} (h:cuO s n X e Y):pot Y <= pot X + 1:=by
 rcases h with ⟨-,-,h,-⟩ | ⟨-,-,-,h,-⟩ | ⟨-,-,-,-,h,-⟩ | ⟨b,-,-,-,⟨-,-,h,-⟩ | ⟨-,-,-,h,-⟩ | ⟨-,-,-,h,-⟩⟩
 ·unfold pot;rw [h];omega
 ·unfold pot;rw [h];omega
 ·unfold pot;rw [h];omega
 ·unfold pot;rw [h];omega
 ·unfold pot;rw [h];omega
 ·rw [z59 h];omega
theorem pot_sd (h:sdO X e Y):pot Y <= pot X + 1:=by
 obtain ⟨⟨-,-,h⟩ | ⟨-,-,h⟩,-⟩:=h
 ·unfold pot;rw [h];omega
 ·
  obtain ⟨a,-,-,b,-⟩:=z03 X.D;unfold pot;rw [h];split
  ·simp only [Dk.sdir];rw [a,b];omega
  ·rw [a,b];omega
theorem pot_rn (h:rnO s t X e Y):pot Y <= pot X + 1:=by
 obtain ⟨⟨-,-,h⟩ | ⟨-,-,-,h⟩ | ⟨-,-,-,-,h⟩ | ⟨b,-,-,hb,⟨-,-,h⟩ | ⟨-,-,h⟩⟩,-⟩:=h
 ·unfold pot;rw [h];omega
 ·unfold pot;rw [h];omega
 ·unfold pot;rw [h];omega
 ·unfold pot;rw [h];omega
 ·
  obtain ⟨a,-,-,c,-⟩:=z03 X.D;unfold pot;rw [h];split
  ·have:=z73 hb t;simp only [Dk.ren,Dk.step];rw [a,c];omega
  ·rw [a,c];omega
theorem z8v (h:rmO s X e Y):pot Y <= pot X + 1 /\ (e=0 -> pot Y <= pot X):=by
 obtain ⟨⟨-,he,h⟩ | ⟨-,-,he,h⟩ | ⟨b,-,hb,⟨-,he,h⟩ | ⟨-,he,h⟩⟩,-⟩:=h
 ·unfold pot;rw [h];omega
 ·unfold pot;rw [h];omega
 ·unfold pot;rw [h];omega
 ·
  obtain ⟨a,-,-,c,-⟩:=z03 X.D;unfold pot;rw [h];split
  ·have:=za2 hb;simp only [Dk.rem,Dk.step];rw [a,c];omega
  ·
   rename_i hk;rw [a,c];refine ⟨by omega,fun h0=>absurd ?_ hk⟩;rw [h0] at he;unfold chg at he ⊢;simp only at he ⊢;split at he
   ·rename_i hf;rw [if_pos hf];simp only at he;exact absurd he.symm hf.1
   ·
    rename_i hf;rw [if_neg hf];split at he
    ·cases he
    ·rename_i hg;rw [if_neg hg]
theorem z7c {a:List Op} {o:Op} (h:askO a X 0 Z) (ho:o Z 0 Y):askO (a ++ [o]) X 0 Y:=by
 induction a generalizing X with
 | nil=>obtain ⟨-,rfl⟩:=h;exact ⟨0,Y,ho,.inr ⟨rfl,rfl,rfl⟩⟩
 | cons p a ih =>
  obtain ⟨e1,W,h1,⟨hne,he,-⟩ | ⟨h0,h2⟩⟩:=h
  ·exact absurd he.symm hne
  ·exact ⟨e1,W,h1,.inr ⟨h0,ih h2⟩⟩
theorem z7d {a b:List Op} {o:Op} (h:askO a X 0 Z) (ho:o Z e Y) (hne:e ≠ 0):askO (a ++ o :: b) X e Y:=by
 induction a generalizing X with
 | nil=>obtain ⟨-,rfl⟩:=h;exact ⟨e,Y,ho,.inl ⟨hne,rfl,rfl⟩⟩
 | cons p a ih =>
  obtain ⟨e1,W,h1,⟨hn,he,-⟩ | ⟨h0,h2⟩⟩:=h
  ·exact absurd he.symm hn
  ·exact ⟨e1,W,h1,.inr ⟨h0,ih h2⟩⟩
def Stable (P:World -> (Nat -> Prop) -> (Nat -> Prop) -> Prop):Prop :=
 ∀ (w w':World) (Fd FL Fd' FL':Nat -> Prop),P w Fd FL -> Keeps (fun k=>Fd k \/ FL k) w w' -> (∀ k,k < w.heap.size -> ¬ Fd k -> ¬ Fd' k) -> (∀ k,k < w.heap.size -> ¬ FL k -> ¬ FL' k) -> P w' Fd' FL'
def Out (w:World) (Fd FL:Nat -> Prop) (k:Nat):Prop:=k < w.heap.size /\ ¬ Fd k /\ ¬ FL k
def Box (b:Nat) (o:Obj) (w:World) (Fd FL:Nat -> Prop):Prop:=w.heap[b]?=some o /\ ¬ Fd b /\ ¬ FL b
theorem zr (b:Nat) (o:Obj):Stable (Box b o):=fun w w' Fd FL Fd' FL' ⟨h1,h2,h3⟩ hk g1 g2 =>
 ⟨hk.at h1 (fun e=>e.elim h2 h3),g1 b (lt_of_block h1) h2,g2 b (lt_of_block h1) h3⟩
def BytesO (v:Value) (bs:List Nat) (w:World) (Fd FL:Nat -> Prop):Prop:=Bytes w (Out w Fd FL) v bs
theorem z7y (v:Value) (bs:List Nat):Stable (BytesO v bs):=fun w w' Fd FL Fd' FL' h hk g1 g2 =>
 (h.keeps hk (fun k hk e=>e.elim hk.2.1 hk.2.2)).mono (fun k h=>⟨Nat.lt_of_lt_of_le h.1 hk.size,g1 k h.1 h.2.1,g2 k h.1 h.2.2⟩)
theorem Stable.and {P Q:World -> (Nat -> Prop) -> (Nat -> Prop) -> Prop} (hP:Stable P) (hQ:Stable Q):Stable (fun w a b=>P w a b /\ Q w a b) :=
 fun w w' Fd FL Fd' FL' h hk g1 g2=>⟨hP w w' Fd FL Fd' FL' h.1 hk g1 g2,hQ w w' Fd FL Fd' FL' h.2 hk g1 g2⟩
end Go.Log
end
section
namespace Go.Proofs.YtpjomdmjohjheaaGreatDoor
open Go.RowKit Go.Lk Go.Vfs Go.Log
def OpE (w:World) (l d:Nat) (Fd Rd FL RL:Nat -> Prop) (L:Lg) (X:Ds) (k:Int) (o:Log.Op) (e:Ending) (w':World):Prop :=
 ∃ er X' L',e=.returned (.int .i64 er) /\ LNow w w' l d Fd Rd FL RL L' X' /\ o X er X' /\ (er=0 -> L'=L) /\ (L'=L \/ L'={ L with bad:=true }) /\ pot X' <= pot X + k
def OpC (l d:Nat) (L:Lg) (k:Int) (f:Fv) (o:Log.Op) (P:World -> (Nat -> Prop) -> (Nat -> Prop) -> Prop):Prop :=
 ∀ w Fd Rd FL RL X,LgAt w l d Fd Rd FL RL L X -> Vars w -> P w Fd FL -> pot X + k <= 999999 -> Calls Tryz.prog f.g (f.bnd ++ f.caps) w (OpE w l d Fd Rd FL RL L X k o)
theorem zbj {P:World -> (Nat -> Prop) -> (Nat -> Prop) -> Prop} (hS:Stable P) {w w':World} {Fd FL Fd' FL':Nat -> Prop} (h:P w Fd FL) (hk:Keeps (fun k=>Fd k \/ FL k) w w') (h1:∀ k,Fd' k -> Fd k \/ w.heap.size <= k) (h2:∀ k,FL' k -> FL k \/ w.heap.size <= k):P w' Fd' FL' :=
 hS w w' Fd FL Fd' FL' h hk (fun k hk hn e=>(h1 k e).elim hn (fun e=>by omega)) (fun k hk hn e=>(h2 k e).elim hn (fun e=>by omega))
def AskI (w:World) (l d:Nat) (Fd Rd FL RL:Nat -> Prop) (L:Lg) (X:Ds) (P:World -> (Nat -> Prop) -> (Nat -> Prop) -> Prop) (os:List Log.Op) (ks:List Int) (i:Nat) (w':World):Prop :=
 ∃ X' Fd' Rd' FL' RL',LgAt w' l d Fd' Rd' FL' RL' L X' /\ (∀ k,Fd' k -> Fd k \/ w.heap.size <= k) /\ (∀ k,Rd' k -> Rd k \/ w.heap.size <= k) /\ (∀ k,FL' k -> FL k \/ w.heap.size <= k) /\ (∀ k,RL' k -> RL k \/ w.heap.size <= k) /\ Keeps (fun k=>Fd k \/ FL k) w w' /\
  Vars w' /\ P w' Fd' FL' /\ askO (os.take i) X 0 X' /\ pot X' <= pot X + (ks.take i).sum
theorem z3i:∀ (l:List Int) (i:Nat),(∀ x ∈ l,0 <= x) -> (l.take i).sum <= l.sum
 | [],i,_=>by simp
 | x :: l,0,h=>by
  have h1:=z3i l 0 (fun y hy=>h y (by simp [hy]));have h2:=h x (by simp);simp at h1 ⊢;omega
 | x :: l,i + 1,h=>by
  have h1:=z3i l i (fun y hy=>h y (by simp [hy]));simp only [List.take_succ_cons,List.sum_cons];omega
theorem zfr (l d:Nat) (Fd Rd FL RL:Nat -> Prop) (L:Lg) (X:Ds) (P:World -> (Nat -> Prop) -> (Nat -> Prop) -> Prop) (hS:Stable P) (a:Option Addr) (n c:Nat) (fs:List Fv) (os:List Log.Op) (ks:List Int) (w:World)
  (h:LgAt w l d Fd Rd FL RL L X) (hv:Vars w) (hP:P w Fd FL) (hn:fs.length=n) (ho:os.length=n) (hk:ks.length=n) (hk0:∀ x ∈ ks,0 <= x) (hnc:n <= c) (hc:c <= 1000) (hpot:pot X + ks.sum <= 999999)
  (hrow:Has w a (fs.map Fv.v)) (hro:∀ b off,a=some ⟨b,off,none⟩ -> ¬ Fd b /\ ¬ FL b)
  (hg:∀ f ∈ fs,∀ args w,(callFunc f.g args).run Tryz.prog w=.ok (.enter f.g args) w)
  (hC:∀ (i:Nat) (f:Fv) (o:Log.Op) (k:Int),fs[i]?=some f -> os[i]?=some o -> ks[i]?=some k -> OpC l d L k f o P) :
  Calls Tryz.prog 53 #[.pointer (some ⟨l,0,none⟩),.slice a n c] w fun e w'=>∃ er X' L',e=.returned (.int .i64 er) /\ LNow w w' l d Fd Rd FL RL L' X' /\ askO os X er X' /\ L'=(if er=0 then L else { L with bad:=true }) /\ pot X' <= pot X + ks.sum:=by
 refine (ask_at l a n c fs (AskI w l d Fd Rd FL RL L X P os ks) (fun er w'=>∃ X' L',LNow w w' l d Fd Rd FL RL L' X' /\ askO os X er X' /\ L'=(if er=0 then L else { L with bad:=true }) /\ pot X' <= pot X + ks.sum) w hn hnc hc hg ?_ ?_ ?_ ?_).mono ?_
 ·rintro i w' hi ⟨X',Fd',Rd',FL',RL',h1,h2,h3,h4,h5,h6,-⟩;exact hrow.keeps h6 (fun b off e _ e2=>e2.elim (hro b off e).1 (hro b off e).2)
 ·exact ⟨X,Fd,Rd,FL,RL,h,fun _ e=>.inl e,fun _ e=>.inl e,fun _ e=>.inl e,fun _ e=>.inl e,Keeps.refl _ _,hv,hP,⟨rfl,rfl⟩,by simp⟩
 ·
  rintro i f w' hf ⟨X',Fd',Rd',FL',RL',h1,h2,h3,h4,h5,h6,h7,h8,h9,h10⟩;have hi:i < n:=by rw [<- hn];exact (List.getElem?_eq_some_iff.1 hf).1
  obtain ⟨o,hoi⟩:∃ o,os[i]?=some o:=⟨_,List.getElem?_eq_getElem (by omega)⟩
  obtain ⟨k,hki⟩:∃ k,ks[i]?=some k:=⟨_,List.getElem?_eq_getElem (by omega)⟩
  have hks:(ks.take (i + 1)).sum=(ks.take i).sum + k:=by
   have hlt:=(List.getElem?_eq_some_iff.1 hki).1;rw [List.take_succ_eq_append_getElem hlt,List.sum_append,(List.getElem?_eq_some_iff.1 hki).2];simp
  have hkl:=z3i ks (i + 1) hk0;have hot:os.take (i + 1)=os.take i ++ [o]:=by
   have hlt:=(List.getElem?_eq_some_iff.1 hoi).1;rw [List.take_succ_eq_append_getElem hlt,(List.getElem?_eq_some_iff.1 hoi).2]
  have hos:os=os.take i ++ o :: os.drop (i + 1):=by
   have hlt:=(List.getElem?_eq_some_iff.1 hoi).1;rw [<- (List.getElem?_eq_some_iff.1 hoi).2,<- List.drop_eq_getElem_cons hlt,List.take_append_drop]
  refine (hC i f o k hf hoi hki w' Fd' Rd' FL' RL' X' h1 h7 h8 (by omega)).mono ?_;rintro e w2 ⟨er,X2,L2,rfl,hnow,hop,hL0,hL,hp⟩;refine ⟨er,rfl,?_⟩;have hv2:=h7.now h1 hnow;obtain ⟨Fd2,Rd2,FL2,RL2,k1,k2,k3,k4,k5,k6⟩:=hnow;have hz:=h6.size;have q2:∀ k,Fd2 k -> Fd k \/ w.heap.size <= k:=fun k e=>(k2 k e).elim (h2 k) (fun e=>.inr (by omega));have q3:∀ k,Rd2 k -> Rd k \/ w.heap.size <= k:=fun k e=>(k3 k e).elim (h3 k) (fun e=>.inr (by omega));have q4:∀ k,FL2 k -> FL k \/ w.heap.size <= k:=fun k e=>(k4 k e).elim (h4 k) (fun e=>.inr (by omega));have q5:∀ k,RL2 k -> RL k \/ w.heap.size <= k:=fun k e=>(k5 k e).elim (h5 k) (fun e=>.inr (by omega));have q6:Keeps (fun k=>Fd k \/ FL k) w w2:=h6.trans k6 (fun j hj e=>e.elim (fun e=>(h2 j e).elim .inl (fun e=>by omega)) (fun e=>(h4 j e).elim .inr (fun e=>by omega)));by_cases he:er=0
  ·refine .inl ⟨he,?_⟩;rw [hL0 he] at k1;subst he;exact ⟨X2,Fd2,Rd2,FL2,RL2,k1,q2,q3,q4,q5,q6,hv2,zbj hS h8 k6 k2 k4,by rw [hot];exact z7c h9 hop,by omega⟩
  ·
   refine .inr ⟨he,?_⟩;obtain ⟨sv,lv,hc2⟩:=k1.cells;have hb:=hc2 w2 (Keeps.refl _ _);refine ⟨_,hb,by simp [lcs],fun w3 hs=>?_⟩;have hset:(lcs d sv lv L2).setIfInBounds 11 (.bool true)=lcs d sv lv { L with bad:=true }:=by
    rcases hL with rfl | rfl <;> rfl
   have hg3:LgAt w3 l d Fd2 Rd2 FL2 RL2 { L with bad:=true } X2:=by
    refine k1.setL hb hs hset ?_ ?_ ?_
    ·rcases hL with rfl | rfl <;> rfl
    ·rcases hL with rfl | rfl <;> rfl
    ·exact (h.nums).setBad true
   refine ⟨X2,_,⟨Fd2,Rd2,FL2,RL2,hg3,q2,q3,q4,q5,q6.trans hs.k (fun j hj e=>by
    have:FL2 j:=e ▸ k1.fl
    exact (q4 j this).elim .inr (fun e=>by omega))⟩,by rw [hos];exact z7d h9 hop he,by rw [if_neg he],by omega⟩
 ·rintro w' ⟨X',Fd',Rd',FL',RL',h1,h2,h3,h4,h5,h6,h7,h8,h9,h10⟩;rw [List.take_of_length_le (by omega)] at h9 h10;exact ⟨X',L,⟨Fd',Rd',FL',RL',h1,h2,h3,h4,h5,h6⟩,h9,by rw [if_pos rfl],h10⟩
 ·rintro e w' ⟨er,rfl,X',L',h1,h2,h3,h4⟩;exact ⟨er,X',L',rfl,h1,h2,h3,h4⟩
def OpL (l d:Nat) (L:Lg) (P:World -> (Nat -> Prop) -> (Nat -> Prop) -> Prop):List Fv -> List Log.Op -> List Int -> Prop
 | [],[],[]=>True
 | f :: fs,o :: os,k :: ks=>OpC l d L k f o P /\ (∀ args w,(callFunc f.g args).run Tryz.prog w=.ok (.enter f.g args) w) /\ 0 <= k /\ OpL l d L P fs os ks
 | _,_,_=>False
theorem OpL.len {l d:Nat} {L:Lg} {P:World -> (Nat -> Prop) -> (Nat -> Prop) -> Prop}:∀ {fs:List Fv} {os:List Log.Op} {ks:List Int},OpL l d L P fs os ks -> os.length=fs.length /\ ks.length=fs.length
 | [],[],[],_=>⟨rfl,rfl⟩
 | _ :: _,_ :: _,_ :: _,h=>by have:=OpL.len h.2.2.2;simp [this.1,this.2]
 | [],[],_ :: _,h=>h.elim
 | [],_ :: _,_,h=>h.elim
 | _ :: _,[],_,h=>h.elim
 | _ :: _,_ :: _,[],h=>h.elim
theorem OpL.nn {l d:Nat} {L:Lg} {P:World -> (Nat -> Prop) -> (Nat -> Prop) -> Prop}:∀ {fs:List Fv} {os:List Log.Op} {ks:List Int},OpL l d L P fs os ks -> (∀ x ∈ ks,0 <= x) /\ ∀ f ∈ fs,∀ args w,(callFunc f.g args).run Tryz.prog w=.ok (.enter f.g args) w
 | [],[],[],_=>⟨by simp,by simp⟩
 | _ :: _,_ :: _,_ :: _,h=>by
  have:=OpL.nn h.2.2.2;exact ⟨fun x hx=>(List.mem_cons.1 hx).elim (fun e=>e ▸ h.2.2.1) (this.1 x),fun f hf=>(List.mem_cons.1 hf).elim (fun e=>e ▸ h.2.1) (this.2 f)⟩
 | [],[],_ :: _,h=>h.elim
 | [],_ :: _,_,h=>h.elim
 | _ :: _,[],_,h=>h.elim
 | _ :: _,_ :: _,[],h=>h.elim
theorem OpL.at {l d:Nat} {L:Lg} {P:World -> (Nat -> Prop) -> (Nat -> Prop) -> Prop}:∀ {fs:List Fv} {os:List Log.Op} {ks:List Int},OpL l d L P fs os ks -> ∀ (i:Nat) (f:Fv) (o:Log.Op) (k:Int),fs[i]?=some f -> os[i]?=some o -> ks[i]?=some k -> OpC l d L k f o P
 | [],[],[],_,i,f,o,k,hf,_,_=>by simp at hf
 | _ :: _,_ :: _,_ :: _,h,0,f,o,k,hf,ho,hk=>by simp at hf ho hk;subst hf ho hk;exact h.1
 | _ :: _,_ :: _,_ :: _,h,i + 1,f,o,k,hf,ho,hk=>OpL.at h.2.2.2 i f o k (by simpa using hf) (by simpa using ho) (by simpa using hk)
 | [],[],_ :: _,h,_,_,_,_,_,_,_=>h.elim
 | [],_ :: _,_,h,_,_,_,_,_,_,_=>h.elim
 | _ :: _,[],_,h,_,_,_,_,_,_,_=>h.elim
 | _ :: _,_ :: _,[],h,_,_,_,_,_,_,_=>h.elim
theorem OpC.mono {l d:Nat} {L:Lg} {k:Int} {f:Fv} {o:Log.Op} {P Q:World -> (Nat -> Prop) -> (Nat -> Prop) -> Prop} (h:OpC l d L k f o Q) (hPQ:∀ w a b,P w a b -> Q w a b):OpC l d L k f o P :=
 fun w Fd Rd FL RL X h1 h2 h3 h4=>h w Fd Rd FL RL X h1 h2 (hPQ _ _ _ h3) h4
def AskR (w:World) (l d:Nat) (Fd Rd FL RL:Nat -> Prop) (L:Lg) (X:Ds) (os:List Log.Op) (k:Int) (e:Ending) (w':World):Prop :=
 ∃ er X' L',e=.returned (.int .i64 er) /\ LNow w w' l d Fd Rd FL RL L' X' /\ askO os X er X' /\ L'=(if er=0 then L else { L with bad:=true }) /\ pot X' <= pot X + k
theorem z16 {l d:Nat} {Fd Rd FL RL:Nat -> Prop} {L:Lg} {X:Ds} {P:World -> (Nat -> Prop) -> (Nat -> Prop) -> Prop} (hS:Stable P) {fs:List Fv} {os:List Log.Op} {ks:List Int} {g n:Nat} {w:World} (hL:OpL l d L P fs os ks)
  (h:LgAt w l d Fd Rd FL RL L X) (hv:Vars w) (hP:P w Fd FL) (hn:fs.length=n) (hc:n <= 1000) (hpot:pot X + ks.sum <= 999999) (hrow:Has w (some ⟨g,0,none⟩) (fs.map Fv.v)) (hro:¬ Fd g /\ ¬ FL g) :
  Calls Tryz.prog 53 #[.pointer (some ⟨l,0,none⟩),.slice (some ⟨g,0,none⟩) n n] w (AskR w l d Fd Rd FL RL L X os ks.sum):=by
 have h1:=hL.len;have h2:=hL.nn;exact zfr l d Fd Rd FL RL L X P hS _ n n fs os ks w h hv hP hn (h1.1.trans hn) (h1.2.trans hn) h2.1 (Nat.le_refl _) hc hpot hrow (fun b off e=>by cases e;exact hro) h2.2 hL.at
end Go.Proofs.YtpjomdmjohjheaaGreatDoor
end
section
namespace Go.Proofs.YtpjomdmjohjheaaGreatDoor
open Go.RowKit Go.Lk Go.Vfs Go.Log
theorem LgAt.six {w:World} {l d:Nat} {Fd Rd FL RL:Nat -> Prop} {L:Lg} {X:Ds} (h:LgAt w l d Fd Rd FL RL L X):6 <= w.heap.size:=by
 have h1:=h.ltF l h.fl;have h2:=h.low l (.inr h.fl);omega
theorem z1v {w w1:World} {l d:Nat} {Fd Rd FL RL:Nat -> Prop} {L:Lg} {X:Ds} {k er:Int} {o:Log.Op} {D':Dk} {fc':Nat -> Fl} (h:LgAt w l d Fd Rd FL RL L X) (hn:Now w.drew w1 d Fd Rd D' fc') (ho:o X er ⟨D',fc'⟩) (hp:pot ⟨D',fc'⟩ <= pot X + k) :
  OpE w l d Fd Rd FL RL L X k o (.returned (.int .i64 er)) w1:=by
 have hd:LgAt w.drew l d Fd Rd FL RL L X:=h.nb (Keeps.refl Nb w).drew;obtain ⟨Fd',Rd',FL',RL',h1,h2,h3,h4,h5,h6⟩:=hd.disk_now (Y:=⟨D',fc'⟩) hn (by have:=LgAt.six h;exact this);exact ⟨er,_,L,rfl,⟨Fd',Rd',FL',RL',h1,h2,h3,h4,h5,((Keeps.refl _ w).drew).trans h6 (fun _ _ e=>e)⟩,ho,fun _=>rfl,.inl rfl,hp⟩
def LB (b3 l:Nat):World -> (Nat -> Prop) -> (Nat -> Prop) -> Prop:=Box b3 (.cells #[.pointer (some ⟨l,0,none⟩)] 40 (0,0))
def SB (b4:Nat) (s:ByteArray):World -> (Nat -> Prop) -> (Nat -> Prop) -> Prop:=Box b4 (.cells #[.string s] 9 (0,0))
theorem z0b {X:Ds} {k:Int} (h:pot X + k <= 999999) (hk:0 <= k):X.D.changes < 1000000:=by unfold pot at h;omega
theorem put1_c (l d b3 b4:Nat) (L:Lg) (s:ByteArray) (hs:s.size <= maxLen):OpC l d L 3 ⟨126,#[],#[.pointer (some ⟨b3,0,none⟩),.pointer (some ⟨b4,0,none⟩)]⟩ (mkO s) (fun w a b=>LB b3 l w a b /\ SB b4 s w a b):=by
 rintro w Fd Rd FL RL X h hv ⟨⟨hb3,-,-⟩,⟨hb4,-,-⟩⟩ hp;obtain ⟨sv,lv,hcs⟩:=h.cells;have c1:w.cell? ⟨b3,0,none⟩=some (.pointer (some ⟨l,0,none⟩)):=(cell_of_block hb3).trans rfl;have c2:w.cell? ⟨b4,0,none⟩=some (.string s):=(cell_of_block hb4).trans rfl;have c3:w.cell? ⟨l,0,none⟩=some (.pointer (some ⟨d,0,none⟩)):=(cell_of_block (hcs w (Keeps.refl _ _))).trans rfl;have H:=qq h;have MA:=qq (z50 d s X.D Fd Rd X.fc w.drew (h.disk.nb ((Keeps.refl Nb w).drew)) hs (z0b hp (by omega)));clear h hv hb3 hb4 hcs hp;show Calls Tryz.prog 126 #[.pointer (some ⟨b3,0,none⟩),.pointer (some ⟨b4,0,none⟩)] w _;go_enter Tryz.func126,Tryz.ntmps126;go_wp2
 go_still_tail 5,(by kernel_rfl)
 go_wp2_with fail;refine MA.out.mono ?_;rintro _ w1 ⟨er,D',fc',rfl,hn,hr⟩;have ho:mkO s X er ⟨D',fc'⟩:=⟨w.heap.size,fun b hb=>H.out.disk.ltF b (H.out.disk.file b hb).2,hr⟩
 have F:=qq (z1v (k:=3) H.out hn ho (z6a ho));clear hn hr ho MA;go_wp2;go_ret;exact F.out
theorem put3_c (l d b3 b4:Nat) (L:Lg) (s:ByteArray) (hs:s.size <= maxLen):OpC l d L 1 ⟨130,#[],#[.pointer (some ⟨b3,0,none⟩),.pointer (some ⟨b4,0,none⟩)]⟩ (syO s) (fun w a b=>LB b3 l w a b /\ SB b4 s w a b):=by
 rintro w Fd Rd FL RL X h hv ⟨⟨hb3,-,-⟩,⟨hb4,-,-⟩⟩ hp;obtain ⟨sv,lv,hcs⟩:=h.cells;have c1:w.cell? ⟨b3,0,none⟩=some (.pointer (some ⟨l,0,none⟩)):=(cell_of_block hb3).trans rfl;have c2:w.cell? ⟨b4,0,none⟩=some (.string s):=(cell_of_block hb4).trans rfl;have c3:w.cell? ⟨l,0,none⟩=some (.pointer (some ⟨d,0,none⟩)):=(cell_of_block (hcs w (Keeps.refl _ _))).trans rfl;have H:=qq h;have MA:=qq (z3r d s X.D Fd Rd X.fc w.drew (h.disk.nb ((Keeps.refl Nb w).drew)) hs (z0b hp (by omega)));clear h hv hb3 hb4 hcs hp;show Calls Tryz.prog 130 #[.pointer (some ⟨b3,0,none⟩),.pointer (some ⟨b4,0,none⟩)] w _;go_enter Tryz.func130,Tryz.ntmps130;go_wp2
 go_still_tail 5,(by kernel_rfl)
 go_wp2_with fail;refine MA.out.mono ?_;rintro _ w1 ⟨er,D',fc',rfl,hn,hr⟩;have ho:syO s X er ⟨D',fc'⟩:=hr;have F:=qq (z1v (k:=1) H.out hn ho (z4n ho));clear hn hr ho MA;go_wp2;go_ret;exact F.out
def YB (b7:Nat) (v:Value) (bs:List Nat):World -> (Nat -> Prop) -> (Nat -> Prop) -> Prop:=fun w a b=>Box b7 (.cells #[v] 22 (0,0)) w a b /\ BytesO v bs w a b
theorem z2e (b7:Nat) (v:Value) (bs:List Nat):Stable (YB b7 v bs):=(zr _ _).and (z7y _ _)
theorem zgo (l d b3 b4 b7:Nat) (L:Lg) (s:ByteArray) (ad:Option Addr) (n c:Nat) (bs:List Nat) (hs:s.size <= maxLen):OpC l d L 1 ⟨129,#[],#[.pointer (some ⟨b3,0,none⟩),.pointer (some ⟨b4,0,none⟩),.pointer (some ⟨b7,0,none⟩)]⟩ (apO s bs) (fun w a b=>(LB b3 l w a b /\ SB b4 s w a b) /\ YB b7 (.slice ad n c) bs w a b):=by
 rintro w Fd Rd FL RL X h hv ⟨⟨⟨hb3,-,-⟩,⟨hb4,-,-⟩⟩,⟨hb7,-,-⟩,hby⟩ hp;obtain ⟨sv,lv,hcs⟩:=h.cells;have c1:w.cell? ⟨b3,0,none⟩=some (.pointer (some ⟨l,0,none⟩)):=(cell_of_block hb3).trans rfl;have c2:w.cell? ⟨b4,0,none⟩=some (.string s):=(cell_of_block hb4).trans rfl;have c3:w.cell? ⟨l,0,none⟩=some (.pointer (some ⟨d,0,none⟩)):=(cell_of_block (hcs w (Keeps.refl _ _))).trans rfl;have c4:w.cell? ⟨b7,0,none⟩=some (.slice ad n c):=(cell_of_block hb7).trans rfl;have H:=qq h;have MA:=qq (zc0 d s (.slice ad n c) bs X.D Fd Rd (Out w Fd FL) X.fc w.drew (h.disk.nb ((Keeps.refl Nb w).drew)) hs (hby.keeps ((Keeps.refl Nb w).drew) (fun _ _ e=>e)) (fun k hk=>hk.2.1) (z0b hp (by omega)));clear h hv hb3 hb4 hcs hp hb7 hby;show Calls Tryz.prog 129 #[.pointer (some ⟨b3,0,none⟩),.pointer (some ⟨b4,0,none⟩),.pointer (some ⟨b7,0,none⟩)] w _;go_enter Tryz.func129,Tryz.ntmps129;go_wp2
 go_still_tail 6,(by kernel_rfl)
 go_wp2_with fail;refine MA.out.mono ?_;rintro _ w1 ⟨er,D',fc',rfl,hn,hr⟩;have ho:apO s bs X er ⟨D',fc'⟩:=hr;have F:=qq (z1v (k:=1) H.out hn ho (zd0 ho));clear hn hr ho MA;go_wp2;go_ret;exact F.out
theorem zfu (f:Fv) (w:World) (R:Ending -> World -> Prop) (hg:∀ args w,(callFunc f.g args).run Tryz.prog w=.ok (.enter f.g args) w) (h:Calls Tryz.prog f.g (f.bnd ++ f.caps) w fun e w'=>∃ er:Int,e=.returned (.int .i64 er) /\ R e w') :
  Calls Tryz.prog 128 #[.int .i64 0,.func (.func f.g) f.bnd f.caps] w R:=by
 have HC:=qq h;clear h;go_enter Tryz.func128,Tryz.ntmps128;go_wp2_with fail;refine HC.out.mono ?_;rintro _ w1 ⟨er,rfl,hr⟩;have HR:=qq hr;clear hr HC hg;go_wp2;exact HR.out
theorem put2_c (l d b8 b3 b4 b7:Nat) (L:Lg) (s:ByteArray) (ad:Option Addr) (n c:Nat) (bs:List Nat) (hs:s.size <= maxLen):OpC l d L 1 ⟨127,#[],#[.pointer (some ⟨b8,0,none⟩),.pointer (some ⟨b3,0,none⟩),.pointer (some ⟨b4,0,none⟩),.pointer (some ⟨b7,0,none⟩)]⟩ (apO s bs)
  (fun w a b=>((LB b3 l w a b /\ SB b4 s w a b) /\ YB b7 (.slice ad n c) bs w a b) /\ Box b8 (.cells #[.int .i64 0] 24 (0,0)) w a b):=by
 rintro w Fd Rd FL RL X h hv ⟨hP,⟨hb8,-,-⟩⟩ hp;have c1:w.cell? ⟨b8,0,none⟩=some (.int .i64 0):=(cell_of_block hb8).trans rfl
 have CC:=qq (zfu ⟨129,#[],#[.pointer (some ⟨b3,0,none⟩),.pointer (some ⟨b4,0,none⟩),.pointer (some ⟨b7,0,none⟩)]⟩ w (OpE w l d Fd Rd FL RL L X 1 (apO s bs)) (enters_of Tryz.func129 (by kernel_rfl) rfl)
  ((zgo l d b3 b4 b7 L s ad n c bs hs w Fd Rd FL RL X h hv hP hp).mono (fun e w' hE=>by obtain ⟨er,X',L',rfl,hr⟩:=id hE;exact ⟨er,rfl,hE⟩)))
 clear h hv hP hp hb8;show Calls Tryz.prog 127 #[.pointer (some ⟨b8,0,none⟩),.pointer (some ⟨b3,0,none⟩),.pointer (some ⟨b4,0,none⟩),.pointer (some ⟨b7,0,none⟩)] w _;go_enter Tryz.func127,Tryz.ntmps127;go_wp2_with fail;refine CC.out.mono ?_;rintro e w1 hE;obtain ⟨er,X',L',rfl,hr⟩:=id hE;have HR:=qq hE;clear hE hr CC;go_wp2;go_ret;exact HR.out
def PutP (l:Nat) (s:ByteArray) (b3 b4 b7 b8:Nat) (v:Value) (bs:List Nat):World -> (Nat -> Prop) -> (Nat -> Prop) -> Prop :=
 fun w a b=>((LB b3 l w a b /\ SB b4 s w a b) /\ YB b7 v bs w a b) /\ Box b8 (.cells #[.int .i64 0] 24 (0,0)) w a b
theorem z9j (l:Nat) (s:ByteArray) (b3 b4 b7 b8:Nat) (v:Value) (bs:List Nat):Stable (PutP l s b3 b4 b7 b8 v bs):=(((zr _ _).and (zr _ _)).and (z2e _ _ _)).and (zr _ _)
def putF (b3 b4 b7 b8:Nat):List Fv:=[⟨126,#[],#[.pointer (some ⟨b3,0,none⟩),.pointer (some ⟨b4,0,none⟩)]⟩,⟨127,#[],#[.pointer (some ⟨b8,0,none⟩),.pointer (some ⟨b3,0,none⟩),.pointer (some ⟨b4,0,none⟩),.pointer (some ⟨b7,0,none⟩)]⟩,⟨130,#[],#[.pointer (some ⟨b3,0,none⟩),.pointer (some ⟨b4,0,none⟩)]⟩]
theorem put_l (l d b3 b4 b7 b8:Nat) (L:Lg) (s:ByteArray) (ad:Option Addr) (n c:Nat) (bs:List Nat) (hs:s.size <= maxLen):OpL l d L (PutP l s b3 b4 b7 b8 (.slice ad n c) bs) (putF b3 b4 b7 b8) [mkO s,apO s bs,syO s] [3,1,1] :=
 ⟨(put1_c l d b3 b4 L s hs).mono (fun _ _ _ h=>h.1.1),enters_of Tryz.func126 (by kernel_rfl) rfl,by omega,put2_c l d b8 b3 b4 b7 L s ad n c bs hs,enters_of Tryz.func127 (by kernel_rfl) rfl,by omega,(put3_c l d b3 b4 L s hs).mono (fun _ _ _ h=>h.1.1),enters_of Tryz.func130 (by kernel_rfl) rfl,by omega,trivial⟩
theorem el138:ElemT Tryz.prog 138 47 1 8 .nilFunc:=⟨by kernel_rfl,by kernel_rfl,rfl,by decide⟩
theorem _root_.Go.Log.LNow.from {w w1 w2:World} {l d:Nat} {Fd Rd FL RL:Nat -> Prop} {L:Lg} {X:Ds} (h:LNow w1 w2 l d Fd Rd FL RL L X) (hk:Keeps Nb w w1):LNow w w2 l d Fd Rd FL RL L X:=by
 obtain ⟨Fd',Rd',FL',RL',h1,h2,h3,h4,h5,h6⟩:=h;have hz:=hk.size;exact ⟨Fd',Rd',FL',RL',h1,fun k e=>(h2 k e).imp id (fun e=>by omega),fun k e=>(h3 k e).imp id (fun e=>by omega),fun k e=>(h4 k e).imp id (fun e=>by omega),fun k e=>(h5 k e).imp id (fun e=>by omega),hk.of_nb.trans h6 (fun _ _ e=>e)⟩
theorem zq {w:World} {l d:Nat} {Fd Rd FL RL:Nat -> Prop} {L:Lg} {X:Ds} (h:LgAt w l d Fd Rd FL RL L X) {k:Nat} (hk:w.heap.size <= k):¬ Fd k /\ ¬ FL k :=
 ⟨fun e=>by have:=h.disk.ltF k e;omega,fun e=>by have:=h.ltF k e;omega⟩
theorem AskR.opE {w w1 w2:World} {l d:Nat} {Fd Rd FL RL:Nat -> Prop} {L:Lg} {X:Ds} {os:List Log.Op} {k:Int} {e:Ending} (h:AskR w1 l d Fd Rd FL RL L X os k e w2) (hk:Keeps Nb w w1):OpE w l d Fd Rd FL RL L X k (askO os) e w2:=by
 obtain ⟨er,X',L',rfl,h1,h2,h3,h4⟩:=h;refine ⟨er,X',L',rfl,h1.from hk,h2,fun h0=>by rw [h3,if_pos h0],?_,h4⟩;rw [h3];split
 ·exact .inl rfl
 ·exact .inr rfl
theorem zfi (l d:Nat) (Fd Rd FL RL:Nat -> Prop) (L:Lg) (X:Ds) (s:ByteArray) (v:Value) (bs:List Nat) (w:World) (h:LgAt w l d Fd Rd FL RL L X) (hv:Vars w) (hs:s.size <= maxLen) (hb:BytesO v bs w Fd FL) (hl:bs.length <= mxr) (hp:pot X + 5 <= 999999) :
  Calls Tryz.prog 75 #[.pointer (some ⟨l,0,none⟩),.string s,v] w (OpE w l d Fd Rd FL RL L X 5 (putO s bs)):=by
 obtain ⟨a,c,rfl,hq⟩:=id hb;have H:=qq h;have HV:=qq hv;have HS:=qq hs;have HP:=qq hp;have HB:Hid (Bytes w (Out w Fd FL) (.slice a bs.length c) bs):=qq hb;have HL:=qq hl;obtain ⟨m,hm⟩:∃ m,bs.length=m:=⟨_,rfl⟩
 rw [hm] at HB ⊢;have HM:=qq hm;clear h hv hs hb hp hq hl hm;go_enter Tryz.func75,Tryz.ntmps75;go_wp2_with (first | go_skip | (with_reducible refine zm (t:=40) ?_) | (with_reducible refine zm (t:=9) ?_))
 refine za (vbox1 (v:=.pointer (some ⟨l,0,none⟩)) (by rfl) rfl ?_);intro b3 w1 n1;simp only [Nat.reduceAdd,qn];go_wp2_with (first | go_skip | (with_reducible refine zm (t:=40) ?_) | (with_reducible refine zm (t:=9) ?_))
 refine za (vbox1 (v:=.string s) (by rfl) rfl ?_);intro b4 w2 n2;simp only [Nat.reduceAdd,qn];have K2:Hid (Keeps Nb w w2):=qq (n1.k.trans_nb n2.k);have B3:=qq (n2.k.nb n1.blk);have B4:=qq n2.blk;have G3:Hid (w.heap.size <= b3):=qq n1.ge;have G4:Hid (w.heap.size <= b4):=qq (by have:=n2.ge;have:=n1.k.size;omega);have RA:=qq (z7s (.slice a m c) bs (Out w Fd FL) w2 (HB.out.keeps K2.out (fun _ _ e=>e)) (fun k hk=>Nat.lt_of_lt_of_le hk.1 K2.out.size) HL.out);clear n1 n2;go_wp2_with fail;refine RA.out.mono ?_;rintro _ w3 ⟨v',rfl,hb3,k3⟩;obtain ⟨a7,c7,rfl,-⟩:=id hb3;have K3:=qq (K2.out.trans_nb k3);have HB3:=qq hb3;have K23:=qq k3;obtain ⟨rl,hrl⟩:∃ r,(recd bs).length=r:=⟨_,rfl⟩
 rw [hrl] at HB3 ⊢;clear hb3 k3 RA;go_wp2_with (first | go_skip | (with_reducible refine qv (by decide) ?_))
 refine za (valloc (z:=.slice none 0 0) (by kernel_rfl) ?_);intro b7 w4 n4;simp only [Nat.reduceAdd,qn];go_wp2_with (first | go_skip | (with_reducible refine qv (by decide) ?_))
 refine za (valloc (z:=.int .i64 0) (by kernel_rfl) ?_);intro b8 w5 n5;simp only [Nat.reduceAdd,qn];go_wp2_with (first | go_skip | (with_reducible refine qv (by decide) ?_))
 refine za (zc rfl (zd (v:=.slice a7 rl c7) (n:=1) (by kernel_rfl) (by rfl) (by rfl) (n5.k.nb n4.blk) (by rfl) (by simp [Value.cells]) (by simp [Value.cells,Value.oneCell'])) ?_);intro w6 s6;simp only [Nat.reduceAdd,qn];go_wp2_with (first | go_skip | (with_reducible refine qv (by decide) ?_))
 refine za (zc rfl (zd (v:=.int .i64 0) (n:=1) (by kernel_rfl) (by rfl) (by rfl) (s6.k.at n5.blk (fun e=>by have:=n4.lt;have:=n5.ge;omega)) (by rfl) (by simp [Value.cells]) (by simp [Value.cells,Value.oneCell'])) ?_);intro w7 s7;simp only [Nat.reduceAdd,qn];have h78:b7 < b8:=by have:=n4.lt;have:=n5.ge;omega
 have G7:Hid (w3.heap.size <= b7):=qq n4.ge;have K37:Hid (Keeps Nb w3 w7):=qq (((n4.k.trans_nb n5.k).own (k:=b7) n4.ge s6.k).own (k:=b8) (by have:=n4.ge;omega) s7.k);have B7:Hid (w7.heap[b7]?=some (.cells #[.slice a7 rl c7] 22 (0,0))):=qq (s7.k.at s6.blk (fun e=>by omega));have B8:Hid (w7.heap[b8]?=some (.cells #[.int .i64 0] 24 (0,0))):=qq s7.blk;clear n4 n5 s6 s7;have B37:=qq (K37.out.nb (K23.out.nb B3.out));have B47:=qq (K37.out.nb (K23.out.nb B4.out));have K7:=qq (K3.out.trans_nb K37.out);have c3:w7.cell? ⟨b3,0,none⟩=some (.pointer (some ⟨l,0,none⟩)):=(cell_of_block B37.out).trans rfl;go_wp2_with (first | go_skip | (with_reducible refine qv (by decide) ?_))
 refine za (zi rfl (zl el138 [.func (.func 126) #[] #[.pointer (some ⟨b3,0,none⟩),.pointer (some ⟨b4,0,none⟩)],.func (.func 127) #[] #[.pointer (some ⟨b8,0,none⟩),.pointer (some ⟨b3,0,none⟩),.pointer (some ⟨b4,0,none⟩),.pointer (some ⟨b7,0,none⟩)],.func (.func 130) #[] #[.pointer (some ⟨b3,0,none⟩),.pointer (some ⟨b4,0,none⟩)]] rfl (by simp [List.range'_succ];first | done | rfl | exact ⟨rfl,rfl⟩ | exact ⟨rfl,rfl,rfl⟩ | exact ⟨rfl,rfl,rfl,rfl⟩ | exact ⟨rfl,rfl,rfl,rfl,rfl⟩ | exact ⟨rfl,rfl,rfl,rfl,rfl,rfl⟩) (by simp [Value.cells]) (by simp)) ?_);rintro _ w8 ⟨b9,rfl,n9⟩;simp only [Nat.reduceAdd,qn];have K8:=qq (K7.out.trans_nb n9.k);have hn9:=n9.ge;have H8:=H.out.nb K8.out;have hout:∀ {k:Nat},w.heap.size <= k -> ¬ Fd k /\ ¬ FL k:=fun hk=>zq H.out hk;have hz37:=K3.out.size;have hP8:PutP l s b3 b4 b7 b8 (.slice a7 rl c7) (recd bs) w8 Fd FL:=by
  refine ⟨⟨⟨⟨n9.k.nb B37.out,hout G3.out⟩,⟨n9.k.nb B47.out,hout G4.out⟩⟩,⟨⟨n9.k.nb B7.out,hout (by have:=G7.out;omega)⟩,?_⟩⟩,⟨n9.k.nb B8.out,hout (by have:=G7.out;omega)⟩⟩;have hb:=(HB3.out.keeps (K37.out.trans_nb n9.k) (fun _ _ e=>e))
  refine hb.mono (fun k hk=>?_);have hk2:w.heap.size <= k:=by have:=hk.1;have:=K2.out.size;omega
  exact ⟨by have:=hk.2;have:=K37.out.size;have:=n9.k.size;omega,hout hk2⟩
 have hrow:Has w8 (some ⟨b9,0,none⟩) ((putF b3 b4 b7 b8).map Fv.v):=zt n9.blk;have AR:=qq (z16 (n:=3) (z9j l s b3 b4 b7 b8 (.slice a7 rl c7) (recd bs)) (put_l l d b3 b4 b7 b8 L s a7 rl c7 (recd bs) HS.out) H8 (HV.out.nb K8.out) hP8 rfl (by omega) (by have:=HP.out;simpa using this) hrow (hout (by have:=K7.out.size;omega)));clear hP8 hrow H8 hn9 n9 c3;go_wp2_with fail;refine AR.out.mono ?_;rintro e w9 hR;obtain ⟨er,X',L',rfl,hq⟩:=id hR;have F:=qq (hR.opE K8.out);clear hR hq AR;go_wp2;go_ret;exact F.out
end Go.Proofs.YtpjomdmjohjheaaGreatDoor
end
section
namespace Go.Lk
open Go.RowKit
end Go.Lk
namespace Go.Proofs.YtpjomdmjohjheaaGreatDoor
open Go.RowKit Go.Lk Go.Vfs Go.Log
theorem opE_disk' {w w1:World} {l d:Nat} {Fd Rd FL RL:Nat -> Prop} {L:Lg} {X:Ds} {k er:Int} {o:Log.Op} {D':Dk} {fc':Nat -> Fl} (h:LgAt w l d Fd Rd FL RL L X) (hn:Now w w1 d Fd Rd D' fc') (ho:o X er ⟨D',fc'⟩) (hp:pot ⟨D',fc'⟩ <= pot X + k) :
  OpE w l d Fd Rd FL RL L X k o (.returned (.int .i64 er)) w1:=by
 obtain ⟨Fd',Rd',FL',RL',h1,h2,h3,h4,h5,h6⟩:=h.disk_now (Y:=⟨D',fc'⟩) hn (LgAt.six h);exact ⟨er,_,L,rfl,⟨Fd',Rd',FL',RL',h1,h2,h3,h4,h5,h6⟩,ho,fun _=>rfl,.inl rfl,hp⟩
theorem OpE.from {w w1 w2:World} {l d:Nat} {Fd Rd FL RL:Nat -> Prop} {L:Lg} {X:Ds} {k:Int} {o:Log.Op} {e:Ending} (h:OpE w1 l d Fd Rd FL RL L X k o e w2) (hk:Keeps Nb w w1):OpE w l d Fd Rd FL RL L X k o e w2:=by
 obtain ⟨er,X',L',rfl,h1,h2⟩:=h;exact ⟨er,X',L',rfl,h1.from hk,h2⟩
theorem z6k (l d:Nat) (L:Lg) (P:World -> (Nat -> Prop) -> (Nat -> Prop) -> Prop):OpC l d L 1 ⟨64,#[.pointer (some ⟨d,0,none⟩)],#[]⟩ sdO P:=by
 intro w Fd Rd FL RL X h hv hP hp;refine (zh3 d X.D Fd Rd X.fc w h.disk (z0b hp (by omega))).mono ?_;rintro e w' ⟨er,D',rfl,hn,hr⟩;exact opE_disk' h hn (o:=sdO) ⟨hr,rfl⟩ (pot_sd (Y:=⟨D',X.fc⟩) ⟨hr,rfl⟩)
theorem man1_c (l d b3 b4:Nat) (L:Lg) (s:ByteArray) (hs:s.size <= maxLen):OpC l d L 1 ⟨114,#[],#[.pointer (some ⟨b3,0,none⟩),.pointer (some ⟨b4,0,none⟩)]⟩ (rmnO s) (fun w a b=>LB b3 l w a b /\ SB b4 s w a b):=by
 rintro w Fd Rd FL RL X h hv ⟨⟨hb3,-,-⟩,⟨hb4,-,-⟩⟩ hp;obtain ⟨sv,lv,hcs⟩:=h.cells;have c1:w.cell? ⟨b3,0,none⟩=some (.pointer (some ⟨l,0,none⟩)):=(cell_of_block hb3).trans rfl;have c2:w.cell? ⟨b4,0,none⟩=some (.string s):=(cell_of_block hb4).trans rfl;have c3:w.cell? ⟨l,0,none⟩=some (.pointer (some ⟨d,0,none⟩)):=(cell_of_block (hcs w (Keeps.refl _ _))).trans rfl;have H:=qq h;have MA:=qq (z6h d s X.D Fd Rd X.fc w.drew (h.disk.nb ((Keeps.refl Nb w).drew)) hs (z0b hp (by omega)));clear h hv hb3 hb4 hcs hp;show Calls Tryz.prog 114 #[.pointer (some ⟨b3,0,none⟩),.pointer (some ⟨b4,0,none⟩)] w _;go_enter Tryz.func114,Tryz.ntmps114;go_wp2
 go_still_tail 5,(by kernel_rfl)
 go_wp2_with fail;refine MA.out.mono ?_;rintro _ w1 ⟨er,D',rfl,hn,hr⟩;have hrm:rmO s X er ⟨D',X.fc⟩:=⟨hr,rfl⟩
 by_cases h6:er=6
 ·subst h6;have F:=qq (z1v (k:=1) (er:=0) (o:=rmnO s) H.out hn ⟨6,hrm,rfl⟩ (z8v hrm).1);clear hn hr hrm MA;go_wp2;go_ret;exact F.out
 ·
  have F:=qq (z1v (k:=1) (er:=er) (o:=rmnO s) H.out hn ⟨er,hrm,by rw [if_neg h6]⟩ (z8v hrm).1);have t1:(er != 6)=true:=by simpa using h6
  clear hn hr hrm MA h6;go_wp2;go_ret;exact F.out
theorem man2_c (l d b3 b4 b7 b9:Nat) (L:Lg) (s:ByteArray) (a1 a2:Option Addr) (n1 n2 c1 c2:Nat) (x y:Nat) (hs:s.size <= maxLen):OpC l d L 5 ⟨116,#[],#[.pointer (some ⟨b3,0,none⟩),.pointer (some ⟨b4,0,none⟩),.pointer (some ⟨b7,0,none⟩),.pointer (some ⟨b9,0,none⟩)]⟩ (putO s (mrec x y))
  (fun w a b=>(LB b3 l w a b /\ SB b4 s w a b) /\ YB b7 (.slice a1 n1 c1) (be 8 x) w a b /\ YB b9 (.slice a2 n2 c2) (be 8 y) w a b):=by
 rintro w Fd Rd FL RL X h hv ⟨⟨⟨hb3,o3⟩,⟨hb4,o4⟩⟩,⟨⟨hb7,o7⟩,hy1⟩,⟨hb9,o9⟩,hy2⟩ hp;have OO:=qq (And.intro (And.intro o3 o4) (And.intro o7 o9));clear o3 o4 o7 o9;have e1:w.cell? ⟨b3,0,none⟩=some (.pointer (some ⟨l,0,none⟩)):=(cell_of_block hb3).trans rfl;have e2:w.cell? ⟨b4,0,none⟩=some (.string s):=(cell_of_block hb4).trans rfl;have e3:w.cell? ⟨b7,0,none⟩=some (.slice a1 n1 c1):=(cell_of_block hb7).trans rfl;have e4:w.cell? ⟨b9,0,none⟩=some (.slice a2 n2 c2):=(cell_of_block hb9).trans rfl;have H:=qq h;have HV:=qq hv;have HP:=qq hp;have HY1:=qq hy1;have HY2:=qq hy2;clear h hv hp hb3 hb4 hb7 hb9 hy1 hy2;show Calls Tryz.prog 116 #[.pointer (some ⟨b3,0,none⟩),.pointer (some ⟨b4,0,none⟩),.pointer (some ⟨b7,0,none⟩),.pointer (some ⟨b9,0,none⟩)] w _;go_enter Tryz.func116,Tryz.ntmps116;go_wp2;refine WT.region (fun u=>u.cell? ⟨b3,0,none⟩=some (.pointer (some ⟨l,0,none⟩)) /\ u.cell? ⟨b4,0,none⟩=some (.string s) /\ u.cell? ⟨b7,0,none⟩=some (.slice a1 n1 c1) /\ u.cell? ⟨b9,0,none⟩=some (.slice a2 n2 c2)) 7 8 [0,1,2,3,4,5,6,7] (by kernel_rfl) rfl ?_;have HS:Hid ((fun u:World=>u.cell? ⟨b3,0,none⟩=some (.pointer (some ⟨l,0,none⟩)) /\ u.cell? ⟨b4,0,none⟩=some (.string s) /\ u.cell? ⟨b7,0,none⟩=some (.slice a1 n1 c1) /\ u.cell? ⟨b9,0,none⟩=some (.slice a2 n2 c2)) w.drew):=qq ⟨e1,e2,e3,e4⟩;refine WT.t 0 (v:=.pointer (some ⟨l,0,none⟩)) (y:=by rintro w ⟨C1,C2⟩;exact zb (by kernel_rfl) (by rfl) C1) (s:=HS.out) (h:=?_);refine WT.t 1 (v:=.string s) (y:=by rintro w ⟨C1,C2,C3⟩;exact zb (by kernel_rfl) (by rfl) C2) (s:=HS.out) (h:=?_);refine WT.t 2 (v:=.slice a1 n1 c1) (y:=by rintro w ⟨C1,C2,C3,C4⟩;exact zb (by kernel_rfl) (by rfl) C3) (s:=HS.out) (h:=?_);refine WT.t 3 (v:=.slice a2 n2 c2) (y:=by rintro w ⟨C1,C2,C3,C4⟩;exact zb (by kernel_rfl) (by rfl) C4) (s:=HS.out) (h:=?_);refine WT.o 4 (y:=zl el27 [.slice a1 n1 c1,.slice a2 n2 c2] rfl (by simp [List.range'_succ];first | done | rfl | exact ⟨rfl,rfl⟩ | exact ⟨rfl,rfl,rfl⟩ | exact ⟨rfl,rfl,rfl,rfl⟩ | exact ⟨rfl,rfl,rfl,rfl,rfl⟩ | exact ⟨rfl,rfl,rfl,rfl,rfl,rfl⟩) (by simp [Value.cells]) (by simp)) (h:=?_);rintro _ w2 ⟨b2,rfl,n2'⟩;simp only [Nat.reduceAdd,qn];have hk2:Keeps Nb w w2:=((Keeps.refl Nb w).drew).trans_nb n2'.k;have K2:=qq hk2;have JA:=qq (za6 b2 2 [.slice a1 n1 c1,.slice a2 n2 c2] [be 8 x,be 8 y] (Out w Fd FL) w2 n2'.blk (.cons (HY1.out.keeps hk2 (fun _ _ e=>e)) (.cons (HY2.out.keeps hk2 (fun _ _ e=>e)) (.nil _ _))) rfl (by omega) (by omega) (by simp [zx]))
 have fac:∀ u,Keeps (fun k=>Fd k \/ FL k) w u -> (fun u:World=>u.cell? ⟨b3,0,none⟩=some (.pointer (some ⟨l,0,none⟩)) /\ u.cell? ⟨b4,0,none⟩=some (.string s) /\ u.cell? ⟨b7,0,none⟩=some (.slice a1 n1 c1) /\ u.cell? ⟨b9,0,none⟩=some (.slice a2 n2 c2)) u:=fun u hu =>
  ⟨(hu.cell (lt_of_cell e1) (fun e=>e.elim OO.out.1.1.1 OO.out.1.1.2)).trans e1,(hu.cell (lt_of_cell e2) (fun e=>e.elim OO.out.1.2.1 OO.out.1.2.2)).trans e2,(hu.cell (lt_of_cell e3) (fun e=>e.elim OO.out.2.1.1 OO.out.2.1.2)).trans e3,(hu.cell (lt_of_cell e4) (fun e=>e.elim OO.out.2.2.1 OO.out.2.2.2)).trans e4⟩
 have FAC:=qq fac;clear n2' hk2 fac;refine ⟨FAC.out w2 K2.out.of_nb,?_⟩;refine WT.call 5 (by simp only [qi];rfl) (by kernel_rfl) (by rfl) (by go_simp;first | done | rfl | exact ⟨⟨rfl,rfl⟩,rfl⟩ | exact ⟨⟨rfl,rfl,rfl⟩,rfl⟩) JA.out ?_;rintro _ w3 ⟨v,rfl,hb,k3⟩;have hfl:[be 8 x,be 8 y].flatten=mrec x y:=by simp [mrec]
 rw [hfl] at hb;have K3:=qq (K2.out.trans_nb k3);have hbo:BytesO v (mrec x y) w3 Fd FL:=hb.mono (fun k hk=>⟨hk.2,zq H.out (by have:=hk.1;have:=K2.out.size;omega)⟩);have PW:=qq (zfi l d Fd Rd FL RL L X s v (mrec x y) w3 (H.out.nb K3.out) (HV.out.nb K3.out) hs hbo (by simp [mrec,zx,mxr]) HP.out);clear hb hbo k3 hfl JA;refine ⟨_,rfl,FAC.out w3 K3.out.of_nb,?_⟩;simp only [Nat.reduceAdd,qn];refine WT.call 6 (by simp only [qi];rfl) (by kernel_rfl) (by rfl) (by go_simp;first | done | rfl | exact ⟨⟨rfl,rfl⟩,rfl⟩ | exact ⟨⟨rfl,rfl,rfl⟩,rfl⟩ | exact ⟨⟨rfl,rfl,rfl,rfl⟩,rfl⟩) PW.out ?_;rintro e w4 hE;obtain ⟨er,X',L',rfl,hq⟩:=id hE;have hF:=OpE.from hE K3.out;have hS4:=FAC.out w4 (by obtain ⟨er2,X2,L2,-,hnow,-⟩:=hF;obtain ⟨_,_,_,_,_,_,_,_,_,hk⟩:=hnow;exact hk);have F:=qq hF;clear hE hq PW hF;refine ⟨_,rfl,hS4,?_⟩;simp only [Nat.reduceAdd,qn];refine WT.stop (by kernel_rfl) ?_;refine WP.o 7 (v:=_) (y:=by go_simp;first | with_reducible rfl | exact ⟨rfl,rfl⟩) (h:=?_);refine WP.done (by kernel_rfl) ?_;go_wp2;go_ret;exact F.out
theorem man3_c (l d b3 b4:Nat) (L:Lg) (s:ByteArray) (hs:s.size <= maxLen):OpC l d L 1 ⟨117,#[],#[.pointer (some ⟨b3,0,none⟩),.pointer (some ⟨b4,0,none⟩)]⟩ (rnO s (manf L.name)) (fun w a b=>LB b3 l w a b /\ SB b4 s w a b):=by
 rintro w Fd Rd FL RL X h hv ⟨⟨hb3,o3,-⟩,⟨hb4,o4,-⟩⟩ hp;have OO:=qq (And.intro o3 o4);clear o3 o4;obtain ⟨sv,lv,hcs⟩:=h.cells;have c1:w.cell? ⟨b3,0,none⟩=some (.pointer (some ⟨l,0,none⟩)):=(cell_of_block hb3).trans rfl;have c2:w.cell? ⟨b4,0,none⟩=some (.string s):=(cell_of_block hb4).trans rfl;have c3:w.cell? ⟨l,0,none⟩=some (.pointer (some ⟨d,0,none⟩)):=(cell_of_block (hcs w (Keeps.refl _ _))).trans rfl;have c4:w.drew.cell? ⟨l,1,none⟩=some (.string L.name):=(cell_of_block (hcs w (Keeps.refl _ _))).trans rfl;have H:=qq h;have h16:=h.nums.n16;have FA:=qq (z17 l L.name sMan w.drew c4 (by omega) (by decide));have MA:=qq (ren_at d s (manf L.name) X.D Fd Rd X.fc w.drew (h.disk.nb ((Keeps.refl Nb w).drew)) hs (by rw [show (manf L.name).size=L.name.size + 4 by unfold manf fl;rw [ByteArray.size_append,ByteArray.size_append];rfl];unfold maxLen;omega) (z0b hp (by omega)));clear h hv hb3 hb4 hcs hp c4;show Calls Tryz.prog 117 #[.pointer (some ⟨b3,0,none⟩),.pointer (some ⟨b4,0,none⟩)] w _;go_enter Tryz.func117,Tryz.ntmps117;go_wp2;refine WT.region (fun u=>u.cell? ⟨b3,0,none⟩=some (.pointer (some ⟨l,0,none⟩)) /\ u.cell? ⟨b4,0,none⟩=some (.string s) /\ u.cell? ⟨l,0,none⟩=some (.pointer (some ⟨d,0,none⟩))) 8 9 [0,1,2,3,4,5,6,7,8] (by kernel_rfl) rfl ?_;have HS:Hid ((fun u:World=>u.cell? ⟨b3,0,none⟩=some (.pointer (some ⟨l,0,none⟩)) /\ u.cell? ⟨b4,0,none⟩=some (.string s) /\ u.cell? ⟨l,0,none⟩=some (.pointer (some ⟨d,0,none⟩))) w.drew):=qq ⟨c1,c2,c3⟩;refine WT.t 0 (v:=.pointer (some ⟨l,0,none⟩)) (y:=by rintro w ⟨C1,C2⟩;exact zb (by kernel_rfl) (by rfl) C1) (s:=HS.out) (h:=?_);refine WT.t 1 (v:=_) (y:=by rintro w ⟨C1,C2⟩;go_simp;with_reducible rfl) (s:=HS.out) (h:=?_);refine WT.t 2 (v:=_) (y:=by rintro w ⟨C1,C2⟩;go_simp;with_reducible rfl) (s:=HS.out) (h:=?_);refine WT.t 3 (v:=.pointer (some ⟨d,0,none⟩)) (y:=by rintro w ⟨C1,C2,C3⟩;exact zb (by kernel_rfl) (by rfl) C3) (s:=HS.out) (h:=?_);refine WT.t 4 (v:=.string s) (y:=by rintro w ⟨C1,C2,C3⟩;exact zb (by kernel_rfl) (by rfl) C2) (s:=HS.out) (h:=?_);refine WT.t 5 (v:=.pointer (some ⟨l,0,none⟩)) (y:=by rintro w ⟨C1,C2⟩;exact zb (by kernel_rfl) (by rfl) C1) (s:=HS.out) (h:=?_);refine WT.call 6 (by simp only [qi];rfl) (by kernel_rfl) (by rfl) (by go_simp;first | done | rfl | exact ⟨⟨rfl,rfl⟩,rfl⟩ | exact ⟨⟨rfl,rfl,rfl⟩,rfl⟩) FA.out ?_;rintro _ _ ⟨rfl,rfl⟩;refine ⟨_,rfl,HS.out,?_⟩;simp only [Nat.reduceAdd,qn];refine WT.call 7 (by simp only [qi];rfl) (by kernel_rfl) (by rfl) (by go_simp;first | done | rfl | exact ⟨⟨rfl,rfl⟩,rfl⟩ | exact ⟨⟨rfl,rfl,rfl⟩,rfl⟩ | exact ⟨⟨rfl,rfl,rfl,rfl⟩,rfl⟩) MA.out ?_;rintro _ w1 ⟨er,D',rfl,hn,hr⟩;have ho:rnO s (manf L.name) X er ⟨D',X.fc⟩:=⟨hr,rfl⟩
 have F:=qq (z1v (k:=1) H.out hn ho (pot_rn ho));have hk:Keeps Fd w.drew w1:=by obtain ⟨_,_,_,_,_,hk⟩:=hn;exact hk
 have hS1:=And.intro ((hk.cell (lt_of_cell (w:=w.drew) c1) OO.out.1).trans c1) (And.intro ((hk.cell (lt_of_cell (w:=w.drew) c2) OO.out.2).trans c2) ((hk.cell (lt_of_cell (w:=w.drew) c3) (H.out.apF l H.out.fl).1).trans c3));clear hn hr ho MA FA hk;refine ⟨_,rfl,hS1,?_⟩;simp only [Nat.reduceAdd,qn];refine WT.stop (by kernel_rfl) ?_;refine WP.o 8 (v:=_) (y:=by go_simp;first | with_reducible rfl | exact ⟨rfl,rfl⟩) (h:=?_);refine WP.done (by kernel_rfl) ?_;go_wp2;go_ret;exact F.out
end Go.Proofs.YtpjomdmjohjheaaGreatDoor
end
section
namespace Go.Proofs.YtpjomdmjohjheaaGreatDoor
open Go.RowKit Go.Lk Go.Vfs Go.Log
theorem z5c {nm s:ByteArray} (h:nm.size <= 16) (hs:s.size <= 1000):(fl nm s).size <= maxLen:=by
 unfold fl;rw [ByteArray.size_append,ByteArray.size_append];have:sDot.size=1:=rfl;unfold maxLen;omega
def ManP (l:Nat) (s:ByteArray) (b3 b4 b7 b9:Nat) (v1 v2:Value) (x y:Nat):World -> (Nat -> Prop) -> (Nat -> Prop) -> Prop :=
 fun w a b=>(LB b3 l w a b /\ SB b4 s w a b) /\ YB b7 v1 (be 8 x) w a b /\ YB b9 v2 (be 8 y) w a b
theorem z9e (l:Nat) (s:ByteArray) (b3 b4 b7 b9:Nat) (v1 v2:Value) (x y:Nat):Stable (ManP l s b3 b4 b7 b9 v1 v2 x y):=((zr _ _).and (zr _ _)).and ((z2e _ _ _).and (z2e _ _ _))
def manF (d b3 b4 b7 b9:Nat):List Fv:=[⟨114,#[],#[.pointer (some ⟨b3,0,none⟩),.pointer (some ⟨b4,0,none⟩)]⟩,⟨116,#[],#[.pointer (some ⟨b3,0,none⟩),.pointer (some ⟨b4,0,none⟩),.pointer (some ⟨b7,0,none⟩),.pointer (some ⟨b9,0,none⟩)]⟩,
 ⟨64,#[.pointer (some ⟨d,0,none⟩)],#[]⟩,⟨117,#[],#[.pointer (some ⟨b3,0,none⟩),.pointer (some ⟨b4,0,none⟩)]⟩,⟨64,#[.pointer (some ⟨d,0,none⟩)],#[]⟩]
theorem man_l (l d b3 b4 b7 b9:Nat) (L:Lg) (a1 a2:Option Addr) (n1 n2 c1 c2:Nat) (x y:Nat) (h16:L.name.size <= 16):OpL l d L (ManP l (newf L.name) b3 b4 b7 b9 (.slice a1 n1 c1) (.slice a2 n2 c2) x y) (manF d b3 b4 b7 b9)
  [rmnO (newf L.name),putO (newf L.name) (mrec x y),sdO,rnO (newf L.name) (manf L.name),sdO] [1,5,1,1,1] :=
 have hs:(newf L.name).size <= maxLen:=z5c h16 (by decide)
 ⟨(man1_c l d b3 b4 L _ hs).mono (fun _ _ _ h=>h.1),enters_of Tryz.func114 (by kernel_rfl) rfl,by omega,man2_c l d b3 b4 b7 b9 L _ a1 a2 n1 n2 c1 c2 x y hs,enters_of Tryz.func116 (by kernel_rfl) rfl,by omega,
  z6k l d L _,enters_of Tryz.func64 (by kernel_rfl) rfl,by omega,(man3_c l d b3 b4 L _ hs).mono (fun _ _ _ h=>h.1),enters_of Tryz.func117 (by kernel_rfl) rfl,by omega,z6k l d L _,enters_of Tryz.func64 (by kernel_rfl) rfl,by omega,trivial⟩
theorem zfh (l d:Nat) (Fd Rd FL RL:Nat -> Prop) (L:Lg) (X:Ds) (x y:Nat) (w:World) (h:LgAt w l d Fd Rd FL RL L X) (hv:Vars w) (hx:x <= 4294967296) (hy:y <= 4294967296) (hp:pot X + 9 <= 999999) :
  Calls Tryz.prog 58 #[.pointer (some ⟨l,0,none⟩),.int .i64 x,.int .i64 y] w (OpE w l d Fd Rd FL RL L X 9 (manO L.name x y)):=by
 obtain ⟨sv,lv,hcs⟩:=h.cells;have h16:=h.nums.n16;have H:=qq h;have HV:=qq hv;have HP:=qq hp;have HC:=qq hcs;have P1:=qq (z6b x 8 (.inr rfl) (by omega));have P2:=qq (z6b y 8 (.inr rfl) (by omega));clear h hv hp hcs;go_enter Tryz.func58,Tryz.ntmps58;go_wp2_with (first | go_skip | (with_reducible refine zm (t:=40) ?_))
 refine za (vbox1 (v:=.pointer (some ⟨l,0,none⟩)) (by rfl) rfl ?_);intro b3 w1 n1;simp only [Nat.reduceAdd,qn];have B3:=qq n1.blk;have G3:Hid (w.heap.size <= b3):=qq n1.ge;have K1:=qq n1.k;clear n1;go_wp2_with fail;refine (P1.out w1).mono ?_;rintro _ w2 ⟨v1,rfl,hb1,k2⟩;obtain ⟨a1,c1,rfl,-⟩:=id hb1;have HB1:=qq hb1;have K2:=qq k2;rw [zx] at *;clear hb1 k2;go_wp2_with (first | go_skip | (with_reducible refine qv (by decide) ?_))
 refine za (valloc (z:=.slice none 0 0) (by kernel_rfl) ?_);intro b7 w3 n3;simp only [Nat.reduceAdd,qn];go_wp2_with (first | go_skip | (with_reducible refine qv (by decide) ?_))
 refine za (zc rfl (zd (v:=.slice a1 8 c1) (n:=1) (by kernel_rfl) (by rfl) (by rfl) n3.blk (by rfl) (by simp [Value.cells]) (by simp [Value.cells,Value.oneCell'])) ?_);intro w4 s4;simp only [Nat.reduceAdd,qn];have B7:=qq s4.blk;have K14:Hid (Keeps Nb w1 w4):=qq (K2.out.trans_nb (n3.k.own (k:=b7) n3.ge s4.k));have K24:Hid (Keeps Nb w2 w4):=qq (n3.k.own (k:=b7) n3.ge s4.k);have G7:Hid (w.heap.size <= b7):=qq (by have:=n3.ge;have:=K2.out.size;have:=K1.out.size;omega);clear n3 s4;go_wp2_with fail;refine (P2.out w4).mono ?_;rintro _ w5 ⟨v2,rfl,hb2,k5⟩;obtain ⟨a2,c2,rfl,-⟩:=id hb2;have HB2:=qq hb2;have K5:=qq k5;rw [zx] at *;clear hb2 k5;go_wp2_with (first | go_skip | (with_reducible refine qv (by decide) ?_))
 refine za (valloc (z:=.slice none 0 0) (by kernel_rfl) ?_);intro b9 w6 n6;simp only [Nat.reduceAdd,qn];go_wp2_with (first | go_skip | (with_reducible refine qv (by decide) ?_))
 refine za (zc rfl (zd (v:=.slice a2 8 c2) (n:=1) (by kernel_rfl) (by rfl) (by rfl) n6.blk (by rfl) (by simp [Value.cells]) (by simp [Value.cells,Value.oneCell'])) ?_);intro w7 s7;simp only [Nat.reduceAdd,qn];have B9:=qq s7.blk;have K57:Hid (Keeps Nb w5 w7):=qq (n6.k.own (k:=b9) n6.ge s7.k);have G9:Hid (w.heap.size <= b9):=qq (by have:=n6.ge;have:=K5.out.size;have:=K14.out.size;have:=K1.out.size;omega);clear n6 s7;have K17:Hid (Keeps Nb w1 w7):=qq ((K14.out.trans_nb K5.out).trans_nb K57.out);have K7:Hid (Keeps Nb w w7):=qq (K1.out.trans_nb K17.out);have e3:w7.cell? ⟨b3,0,none⟩=some (.pointer (some ⟨l,0,none⟩)):=(cell_of_block (K17.out.nb B3.out)).trans rfl;have FA:=qq (z17 l L.name sNew w7 ((cell_of_block (HC.out w7 K7.out)).trans rfl) (by omega) (by decide));go_wp2_with fail;refine FA.out.mono ?_;rintro _ _ ⟨rfl,rfl⟩;go_wp2_with (first | go_skip | (with_reducible refine qv (by decide) ?_))
 refine za (valloc (z:=.string ByteArray.empty) (by kernel_rfl) ?_);intro b4 w8 n8;simp only [Nat.reduceAdd,qn];go_wp2_with (first | go_skip | (with_reducible refine qv (by decide) ?_))
 refine za (zc rfl (zd (v:=.string (newf L.name)) (n:=1) (by kernel_rfl) (by rfl) (by rfl) n8.blk (by rfl) (by simp [Value.cells]) (by simp [Value.cells,Value.oneCell'])) ?_);intro w9 s9;simp only [Nat.reduceAdd,qn];have B4:=qq s9.blk;have K79:Hid (Keeps Nb w7 w9):=qq (n8.k.own (k:=b4) n8.ge s9.k);have G4:Hid (w.heap.size <= b4):=qq (by have:=n8.ge;have:=K7.out.size;omega);clear n8 s9 e3 FA;have K9:=qq (K7.out.trans_nb K79.out);go_wp2;have e3:w9.cell? ⟨b3,0,none⟩=some (.pointer (some ⟨l,0,none⟩)):=(cell_of_block ((K17.out.trans_nb K79.out).nb B3.out)).trans rfl;have el:w9.cell? ⟨l,0,none⟩=some (.pointer (some ⟨d,0,none⟩)):=(cell_of_block (HC.out w9 K9.out)).trans rfl;refine WT.region (fun u=>u.cell? ⟨b3,0,none⟩=some (.pointer (some ⟨l,0,none⟩)) /\ u.cell? ⟨l,0,none⟩=some (.pointer (some ⟨d,0,none⟩))) 16 17 [0,1,2,3,4,5,6,7,8,9,10,11,12,13,14,15,16] (by kernel_rfl) rfl ?_;have HS:Hid ((fun u:World=>u.cell? ⟨b3,0,none⟩=some (.pointer (some ⟨l,0,none⟩)) /\ u.cell? ⟨l,0,none⟩=some (.pointer (some ⟨d,0,none⟩))) w9):=qq ⟨e3,el⟩;refine WT.t 0 (v:=.pointer (some ⟨l,0,none⟩)) (y:=by rintro w ⟨C1,C2⟩;exact zb (by kernel_rfl) (by rfl) C1) (s:=HS.out) (h:=?_);refine WT.t 1 (v:=_) (y:=by rintro w ⟨C1,C2⟩;go_simp;with_reducible rfl) (s:=HS.out) (h:=?_);refine WT.t 2 (v:=_) (y:=by rintro w ⟨C1,C2⟩;go_simp;with_reducible rfl) (s:=HS.out) (h:=?_);refine WT.t 3 (v:=.pointer (some ⟨l,0,none⟩)) (y:=by rintro w ⟨C1,C2⟩;exact zb (by kernel_rfl) (by rfl) C1) (s:=HS.out) (h:=?_);refine WT.t 4 (v:=_) (y:=by rintro w ⟨C1,C2⟩;go_simp;with_reducible rfl) (s:=HS.out) (h:=?_);refine WT.t 5 (v:=_) (y:=by rintro w ⟨C1,C2⟩;go_simp;with_reducible rfl) (s:=HS.out) (h:=?_);refine WT.t 6 (v:=.pointer (some ⟨d,0,none⟩)) (y:=by rintro w ⟨C1,C2⟩;exact zb (by kernel_rfl) (by rfl) C2) (s:=HS.out) (h:=?_);refine WT.t 7 (v:=_) (y:=by rintro w ⟨C1,C2⟩;go_simp;with_reducible rfl) (s:=HS.out) (h:=?_);refine WT.t 8 (v:=_) (y:=by rintro w ⟨C1,C2⟩;go_simp;with_reducible rfl) (s:=HS.out) (h:=?_);refine WT.t 9 (v:=.pointer (some ⟨l,0,none⟩)) (y:=by rintro w ⟨C1,C2⟩;exact zb (by kernel_rfl) (by rfl) C1) (s:=HS.out) (h:=?_);refine WT.t 10 (v:=_) (y:=by rintro w ⟨C1,C2⟩;go_simp;with_reducible rfl) (s:=HS.out) (h:=?_);refine WT.t 11 (v:=_) (y:=by rintro w ⟨C1,C2⟩;go_simp;with_reducible rfl) (s:=HS.out) (h:=?_);refine WT.t 12 (v:=.pointer (some ⟨d,0,none⟩)) (y:=by rintro w ⟨C1,C2⟩;exact zb (by kernel_rfl) (by rfl) C2) (s:=HS.out) (h:=?_);refine WT.t 13 (v:=_) (y:=by rintro w ⟨C1,C2⟩;go_simp;with_reducible rfl) (s:=HS.out) (h:=?_);refine WT.o 14 (y:=zl el138 ((manF d b3 b4 b7 b9).map Fv.v) rfl (by simp [List.range'_succ];first | done | rfl | exact ⟨rfl,rfl⟩ | exact ⟨rfl,rfl,rfl⟩ | exact ⟨rfl,rfl,rfl,rfl⟩ | exact ⟨rfl,rfl,rfl,rfl,rfl⟩ | exact ⟨rfl,rfl,rfl,rfl,rfl,rfl⟩) (by simp [Value.cells,manF,Fv.v]) (by simp [manF])) (h:=?_);rintro _ w10 ⟨b10,rfl,n10⟩;simp only [Nat.reduceAdd,qn];have N10:Hid (Keeps Nb w9 w10):=qq (((Keeps.refl Nb w9).drew).trans_nb n10.k);have K10:=qq (K9.out.trans_nb N10.out);have H10:=H.out.nb K10.out;have hout:∀ {k:Nat},w.heap.size <= k -> ¬ Fd k /\ ¬ FL k:=fun hk=>zq H.out hk;have KB:Hid (Keeps Nb w1 w10):=qq ((K17.out.trans_nb K79.out).trans_nb N10.out);have KX:Hid (Keeps Nb w5 w10):=qq ((K57.out.trans_nb K79.out).trans_nb N10.out);have KY:Hid (Keeps Nb w4 w10):=qq (K5.out.trans_nb KX.out);have hP:ManP l (newf L.name) b3 b4 b7 b9 (.slice a1 8 c1) (.slice a2 8 c2) x y w10 Fd FL:=by
  refine ⟨⟨⟨KB.out.nb B3.out,hout G3.out⟩,⟨N10.out.nb B4.out,hout G4.out⟩⟩,⟨⟨KY.out.nb B7.out,hout G7.out⟩,?_⟩,⟨⟨(K79.out.trans_nb N10.out).nb B9.out,hout G9.out⟩,?_⟩⟩
  ·refine (HB1.out.keeps (K24.out.trans_nb KY.out) (fun _ _ e=>e)).mono (fun k hk=>?_);have:=hk.1;have:=hk.2;have:=K1.out.size;have:=K24.out.size;have:=KY.out.size;exact ⟨by omega,hout (by omega)⟩
  ·refine (HB2.out.keeps KX.out (fun _ _ e=>e)).mono (fun k hk=>?_);have:=hk.1;have:=hk.2;have:=K1.out.size;have:=K14.out.size;have:=KX.out.size;exact ⟨by omega,hout (by omega)⟩
 have hrow:Has w10 (some ⟨b10,0,none⟩) ((manF d b3 b4 b7 b9).map Fv.v):=zt n10.blk;have AR:=qq (z16 (n:=5) (z9e l (newf L.name) b3 b4 b7 b9 (.slice a1 8 c1) (.slice a2 8 c2) x y) (man_l l d b3 b4 b7 b9 L a1 a2 8 8 c1 c2 x y h16) H10 (HV.out.nb K10.out) hP rfl (by omega) (by have:=HP.out;simpa using this) hrow (hout (by have:=n10.ge;have:=N10.out.size;have:=K9.out.size;have:w9.drew.heap.size=w9.heap.size:=rfl;omega)));have G3o:=hout G3.out;clear hP hrow H10 n10;refine ⟨⟨(cell_of_block (KB.out.nb B3.out)).trans rfl,(cell_of_block (HC.out w10 K10.out)).trans rfl⟩,?_⟩;refine WT.call 15 (by simp only [qi];rfl) (by kernel_rfl) (by rfl) (by go_simp;first | done | rfl | exact ⟨⟨rfl,rfl⟩,rfl⟩ | exact ⟨⟨rfl,rfl,rfl⟩,rfl⟩ | exact ⟨⟨rfl,rfl,rfl,rfl⟩,rfl⟩) AR.out ?_;rintro e w11 hR;obtain ⟨er,X',L',rfl,hq⟩:=id hR;have F:=qq (hR.opE K10.out);have hS:w11.cell? ⟨b3,0,none⟩=some (.pointer (some ⟨l,0,none⟩)) /\ w11.cell? ⟨l,0,none⟩=some (.pointer (some ⟨d,0,none⟩)):=by
  obtain ⟨⟨Fd',Rd',FL',RL',k1,-,-,-,-,k6⟩,-⟩:=id hq;obtain ⟨sv',lv',hc'⟩:=k1.cells;refine ⟨(cell_of_block (k6.at (KB.out.nb B3.out) (fun e=>e.elim G3o.1 G3o.2))).trans rfl,(cell_of_block (hc' w11 (Keeps.refl _ _))).trans rfl⟩
 clear hR hq AR;refine ⟨_,rfl,hS,?_⟩;simp only [Nat.reduceAdd,qn];refine WT.stop (by kernel_rfl) ?_;refine WP.o 16 (v:=_) (y:=by go_simp;first | with_reducible rfl | exact ⟨rfl,rfl⟩) (h:=?_);refine WP.done (by kernel_rfl) ?_;go_wp2;go_ret;exact F.out
end Go.Proofs.YtpjomdmjohjheaaGreatDoor
end
section
namespace Go.Proofs.YtpjomdmjohjheaaGreatDoor
open Go.RowKit Go.Lk Go.Vfs Go.Log
theorem z18 {d:Nat} {D:Dk} {F R:Nat -> Prop} {fc:Nat -> Fl} {w:World} (h:DiskAt w d F R D fc) (s:ByteArray):(readOf D fc s).1.length <= 16777216 /\ ∀ z ∈ (readOf D fc s).1,z < 256:=by
 rcases z04 D s with ⟨q1,q2⟩ | ⟨q1,q2,q3⟩ | ⟨b,q1,q2,q3⟩
 ·unfold readOf;rw [q2];simp
 ·unfold readOf;rw [q3];simp
 ·unfold readOf;rw [q3];obtain ⟨⟨v,z1,⟨a,c,-,-,-,-,z5,-⟩,z3,z4⟩,-⟩:=h.file b (z1f q2);exact ⟨z4,z5⟩
def OneD (o:Option (List Nat)) (w:World) (e:Ending) (w':World):Prop :=
 (match o with | none=>e=.returned (.tuple #[.slice none 0 0,.bool false]) | some b=>∃ v,e=.returned (.tuple #[v,.bool true]) /\ Bytes w' (SinceB w w') v b) /\ Keeps Nb w w'
theorem zcy (l d:Nat) (s:ByteArray) (X:Ds) (F R:Nat -> Prop) (w:World) (h:DiskAt w d F R X.D X.fc) (hc:w.cell? ⟨l,0,none⟩=some (.pointer (some ⟨d,0,none⟩))) (hs:s.size <= maxLen) :
  Calls Tryz.prog 110 #[.pointer (some ⟨l,0,none⟩),.string s] w (OneD (oneR X s) w):=by
 obtain ⟨hl,hby⟩:=z18 h s;have RA:=qq (z3o d s X.D F R X.fc w h hs)
 have ho:oneR X s=if (readOf X.D X.fc s).2=0 /\ (whole (readOf X.D X.fc s).1).2.2=true /\ (whole (readOf X.D X.fc s).1).1.length=1 /\ (whole (readOf X.D X.fc s).1).2.1=(readOf X.D X.fc s).1.length
  then (whole (readOf X.D X.fc s).1).1.head? else none:=rfl
 generalize hr:readOf X.D X.fc s=rr at hl RA ho hby;obtain ⟨bs,er⟩:=rr;clear hr;simp only at hl ho hby;have HO:=qq ho;have HL:=qq hl;have HY:=qq hby;clear h hs ho hl hby;go_enter Tryz.func110,Tryz.ntmps110;go_wp2_with fail;refine RA.out.mono ?_;rintro _ w1 ⟨v,rfl,hv,k1⟩;simp only at hv ⊢;have HV:Hid (Bytes w1 (SinceB w w1) v bs):=qq (z0m hv HY.out);have K1:=qq k1;have WA:=qq (z5s v bs _ w1 HV.out (fun _ e=>e.1.2) HL.out);clear hv k1 RA hc;obtain ⟨av,cv,rfl,-⟩:=id HV.out;go_wp2_with fail;refine WA.out.mono ?_;rintro _ w2 ⟨lv,vs,rfl,hrow,hbl,k2⟩;generalize hwh:whole bs=ww at hrow hbl HO ⊢;obtain ⟨rs,n,rt⟩:=ww;simp only at hrow hbl HO ⊢;obtain ⟨g1,g2,a,c,rfl,g3,g4,g5,g6,-⟩:=hrow;obtain ⟨m,hm⟩:∃ m,rs.length=m:=⟨_,rfl⟩
 obtain ⟨q,hq⟩:∃ q,bs.length=q:=⟨_,rfl⟩
 have K2:=qq (K1.out.trans_nb k2);rw [hm] at HO g1 g3;rw [hq] at HO;have W0:=qq hwh;have G5:=qq g5;have G1:=qq g1;have HB:=qq hbl;have HM:=qq hm;have K12:=qq k2;clear hwh g5 g1 g6 g2 g3 g4 hbl k2 WA;rw [hm,hq];clear hm hq;rcases Classical.em (er ≠ 0) with h1 | h1
 ·
  have HN:Hid (oneR X s=none):=qq (by rw [HO.out,if_neg (fun e=>h1 e.1)]);have t1:(er != 0)=true:=by simpa using h1
  clear h1;go_wp2;go_ret2;exact ⟨by rw [HN.out];first | done | rfl,K2.out⟩
 have h1:=Classical.not_not.1 h1;subst h1;cases rt
 ·have HN:Hid (oneR X s=none):=qq (by rw [HO.out,if_neg (fun e=>by simp at e)]);go_wp2;go_ret2;exact ⟨by rw [HN.out];first | done | rfl,K2.out⟩
 rcases Classical.em (m ≠ 1) with h3 | h3
 ·
  have HN:Hid (oneR X s=none):=qq (by rw [HO.out,if_neg (fun e=>h3 e.2.2.1)]);have t3:((m:Int) != 1)=true:=by simpa using (by omega:(m:Int) ≠ 1)
  clear h3;go_wp2;go_ret2;exact ⟨by rw [HN.out];first | done | rfl,K2.out⟩
 have h3:=Classical.not_not.1 h3;subst h3;rcases Classical.em (n ≠ q) with h4 | h4
 ·
  have HN:Hid (oneR X s=none):=qq (by rw [HO.out,if_neg (fun e=>h4 e.2.2.2)]);have t4:((n:Int) != (q:Int))=true:=by simpa using (by omega:(n:Int) ≠ q)
  clear h4;go_wp2;go_ret2;exact ⟨by rw [HN.out];first | done | rfl,K2.out⟩
 have h4:=Classical.not_not.1 h4;subst h4;obtain ⟨r0,hr0⟩:∃ r,rs=[r]:=List.length_eq_one_iff.1 HM.out;subst hr0;have HN:Hid (oneR X s=some r0):=qq (by rw [HO.out,if_pos ⟨rfl,rfl,rfl,rfl⟩];rfl);obtain ⟨v0,hv0⟩:∃ v,vs=[v]:=List.length_eq_one_iff.1 (by have:=G1.out;omega);subst hv0;obtain ⟨b0,off,rfl,hcell⟩:∃ b off,a=some ⟨b,off,none⟩ /\ w2.cell? ⟨b,off,none⟩=some v0:=by
  rcases G5.out with h | ⟨b,off,e,h⟩
  ·cases h
  ·exact ⟨b,off,e,h 0 v0 rfl⟩
 have hbb:=HB.out.2 0 v0 r0 rfl rfl;have HBB:Hid (Bytes w2 (SinceB w w2) v0 r0):=qq (hbb.mono (fun k e=>⟨⟨by have:=e.1.1;have:=K1.out.size;omega,e.1.2⟩,e.2⟩));obtain ⟨av0,cv0,rfl,-⟩:=id hbb;clear hbb;go_wp2;go_ret2;exact ⟨by rw [HN.out];exact ⟨_,rfl,HBB.out⟩,K2.out⟩
end Go.Proofs.YtpjomdmjohjheaaGreatDoor
end
section
namespace Go
theorem z0q {fn:Func} {t u v z:Tmp} (h:fn.results=#[.tmp t,.tmp u,.tmp v,.tmp z]) (tmps:Array Value) (P:Program) (w:World) :
  (results fn tmps).run P w=.ok (.tuple #[tmps.getD t undef,tmps.getD u undef,tmps.getD v undef,tmps.getD z undef]) w:=by
 simp [results,h]
end Go
namespace Go.Log
open Go.Lk Go.RowKit Go.Vfs
theorem z62:∀ (f at':Nat) (b:List Nat),(∀ x ∈ b,x < 256) -> ∀ q ∈ items f at' b,0 <= q.1 -> q.2.length <= mxr /\ ∀ x ∈ q.2,x < 256
 | 0,_,_,_,q,hq=>by simp [items] at hq
 | f + 1,at',b,hb,q,hq=>by
  unfold items at hq;split at hq
  ·simp at hq
  ·
   split at hq
   ·simp at hq
   ·
    split at hq
    ·rw [List.mem_singleton] at hq;subst hq;intro h;simp at h
    ·
     rename_i h1 h2 h3;rcases List.mem_cons.1 hq with rfl | hq
     ·intro _;refine ⟨?_,fun x hx=>hb x (List.mem_of_mem_drop (List.mem_of_mem_take hx))⟩;have:¬ mxr < num (b.take 4):=fun e=>h3 (.inl e);simp only [List.length_take];omega
     ·exact z62 f _ _ (fun x hx=>hb x (List.mem_of_mem_drop hx)) q hq
theorem tw_p {α:Type} (f:α -> Bool):∀ (l:List α) (q:α),q ∈ l.takeWhile f -> f q=true /\ q ∈ l
 | [],q,h=>by simp at h
 | x :: l,q,h=>by
  rw [List.takeWhile_cons] at h;split at h
  ·
   rename_i hx;rcases List.mem_cons.1 h with rfl | h
   ·exact ⟨hx,by simp⟩
   ·have:=tw_p f l q h;exact ⟨this.1,by simp [this.2]⟩
  ·simp at h
theorem z45 {b:List Nat} (h:∀ x ∈ b,x < 256):Recs (whole b).1:=by
 intro r hr;unfold whole wholeI at hr;obtain ⟨q,hq,rfl⟩:=List.mem_map.1 hr;obtain ⟨h1,h2⟩:=tw_p _ _ q hq;exact z62 _ _ _ h q h2 (by simpa using h1)
theorem z8r {X:Ds} {s:ByteArray} {b:List Nat} (h:∀ x ∈ (Go.Proofs.YtpjomdmjohjheaaGreatDoor.readOf X.D X.fc s).1,x < 256) (ho:oneR X s=some b):b.length <= mxr /\ ∀ x ∈ b,x < 256:=by
 unfold oneR at ho;split at ho
 ·exact z45 h b (List.mem_of_head? ho)
 ·cases ho
def numS (o:Option (List Nat)):Nat × Option (List Nat):=match o with | none=>(0,none) | some l=>if 8 <= l.length then (num (l.take 8),some (l.drop 8)) else (0,none)
def endS (o:Option (List Nat)):Int:=match o with | none=>4 | some l=>if l=[] then 0 else 4
theorem man_s (b:List Nat):manN b=if endS (numS (numS (some b)).2).2=0 /\ (numS (some b)).1 <= mxn /\ 1 <= (numS (numS (some b)).2).1 /\ (numS (numS (some b)).2).1 <= mxn then some ((numS (some b)).1,(numS (numS (some b)).2).1) else none:=by
 rcases Nat.lt_or_ge b.length 8 with h | h
 ·
  have e1:numS (some b)=(0,none):=by unfold numS;simp only;rw [if_neg (by omega)]
  rw [e1];have:¬ b.length=16:=by omega
  unfold manN;rw [if_neg (fun e=>this e.1),if_neg (fun e=>by have:=e.1;simp [numS,endS] at this)]
 ·
  have e1:numS (some b)=(num (b.take 8),some (b.drop 8)):=by unfold numS;simp only;rw [if_pos h]
  rw [e1];simp only;rcases Nat.lt_or_ge b.length 16 with h2 | h2
  ·
   have e2:numS (some (b.drop 8))=(0,none):=by unfold numS;simp only;rw [if_neg (by rw [List.length_drop];omega)]
   rw [e2];have:¬ b.length=16:=by omega
   unfold manN;rw [if_neg (fun e=>this e.1),if_neg (fun e=>by have:=e.1;simp [endS] at this)]
  ·
   have e2:numS (some (b.drop 8))=(num ((b.drop 8).take 8),some ((b.drop 8).drop 8)):=by unfold numS;simp only;rw [if_pos (by rw [List.length_drop];omega)]
   rw [e2];simp only;by_cases h16:b.length=16
   ·have e3:(b.drop 8).drop 8=[]:=List.drop_of_length_le (by rw [List.length_drop];omega);have e4:(b.drop 8).take 8=b.drop 8:=List.take_of_length_le (by rw [List.length_drop];omega);rw [e3,e4];unfold manN;simp [endS,h16]
   ·
    have e3:(b.drop 8).drop 8 ≠ []:=fun e=>by have:=congrArg List.length e;simp at this;omega
    unfold manN;rw [if_neg (fun e=>h16 e.1),if_neg (fun e=>by have:=e.1;simp only [endS] at this;rw [if_neg e3] at this;omega)]
def fndR (nm:ByteArray) (X:Ds):(Nat × Nat) × Bool × Int :=
 match flook X.D.files (manf nm) with
 | none=>((0,0),false,0)
 | some _=>match (oneR X (manf nm)).bind manN with
  | none=>((0,0),true,10)
  | some p=>(p,true,0)
end Go.Log
namespace Go.Proofs.YtpjomdmjohjheaaGreatDoor
open Go.RowKit Go.Lk Go.Vfs Go.Log
def RdS (w:World) (R:Nat -> Prop) (g:Nat) (o:Option (List Nat)):Prop:=match o with | none=>RdNo w g | some l=>RdAt w R g l
theorem zad (g:Nat) (R:Nat -> Prop) (o:Option (List Nat)) (w:World) (h:RdS w R g o) :
  Calls Tryz.prog 103 #[.pointer (some ⟨g,0,none⟩),.int .i64 8] w fun e w'=>e=.returned (.int .u64 ((numS o).1:Nat)) /\ RdS w' R g (numS o).2 /\ Keeps (·=g) w w':=by
 cases o with
 | none =>
  refine (zcv g 8 (.inr rfl) w h).mono ?_;rintro e w' ⟨rfl,rfl⟩;exact ⟨rfl,h,Keeps.refl _ _⟩
 | some l =>
  rcases Nat.lt_or_ge l.length 8 with hl | hl
  ·
   refine (z8o g 8 (.inr rfl) R l w h hl).mono ?_;rintro e w' ⟨rfl,h1,h2⟩;have e1:numS (some l)=(0,none):=by unfold numS;simp only;rw [if_neg (by omega)]
   rw [e1];exact ⟨rfl,h1,h2⟩
  ·
   refine (z4k g 8 (.inr rfl) R l w h hl).mono ?_;rintro e w' ⟨rfl,h1,h2⟩;have e1:numS (some l)=(num (l.take 8),some (l.drop 8)):=by unfold numS;simp only;rw [if_pos hl]
   rw [e1];exact ⟨rfl,h1,h2⟩
theorem zg0 (g:Nat) (R:Nat -> Prop) (o:Option (List Nat)) (w:World) (h:RdS w R g o) :
  Calls Tryz.prog 111 #[.pointer (some ⟨g,0,none⟩)] w fun e w'=>e=.returned (.int .i64 (endS o)) /\ w=w':=by
 cases o with
 | none=>exact end_no g w h
 | some l=>exact end_ok g R l w h
theorem ze1 (l d:Nat) (nm:ByteArray) (X:Ds) (F R:Nat -> Prop) (w:World) (h:DiskAt w d F R X.D X.fc) (hc:w.cell? ⟨l,0,none⟩=some (.pointer (some ⟨d,0,none⟩))) (hc1:w.cell? ⟨l,1,none⟩=some (.string nm)) (h16:nm.size <= 16) (hm:mnB nm=true) :
  Calls Tryz.prog 51 #[.pointer (some ⟨l,0,none⟩)] w fun e w'=>e=.returned (.tuple #[.int .i64 ((fndR nm X).1.1:Nat),.int .i64 ((fndR nm X).1.2:Nat),.bool (fndR nm X).2.1,.int .i64 (fndR nm X).2.2]) /\ Keeps Nb w w':=by
 have hms:(manf nm).size <= maxLen:=z5c h16 (by decide);have FA:=qq (z17 l nm sMan w.drew hc1 (by omega) (by decide));have LA:=qq (ze9 d (manf nm) X.D F R X.fc w.drew (h.nb ((Keeps.refl Nb w).drew)) hms);have hlo:lastsOf X.D X.fc (manf nm)=match flook X.D.files (manf nm) with | none=>(0,6) | some b=>(((X.fc b).lasts:Nat),0):=by
  have:=z2r hm h16;rcases z04 X.D (manf nm) with ⟨q1,q2⟩ | ⟨q1,q2,q3⟩ | ⟨b,q1,q2,q3⟩
  ·rw [this] at q1;cases q1
  ·unfold lastsOf;rw [q3,q2]
  ·unfold lastsOf;rw [q3,q2]
 have H:=qq h;clear h;go_enter Tryz.func51,Tryz.ntmps51;go_wp2;refine WT.region (fun u=>u.cell? ⟨l,0,none⟩=some (.pointer (some ⟨d,0,none⟩)) /\ u.cell? ⟨l,1,none⟩=some (.string nm)) 11 12 [0,1,2,3,4,5,6,7,8,9,10,11] (by kernel_rfl) rfl ?_;have HS:Hid ((fun u:World=>u.cell? ⟨l,0,none⟩=some (.pointer (some ⟨d,0,none⟩)) /\ u.cell? ⟨l,1,none⟩=some (.string nm)) w.drew):=qq ⟨hc,hc1⟩;refine WT.t 0 (v:=_) (y:=by rintro w ⟨C1,C2⟩;go_simp;with_reducible rfl) (s:=HS.out) (h:=?_);refine WT.t 1 (v:=_) (y:=by rintro w ⟨C1,C2⟩;go_simp;with_reducible rfl) (s:=HS.out) (h:=?_);refine WT.t 2 (v:=_) (y:=by rintro w ⟨C1,C2⟩;go_simp;with_reducible rfl) (s:=HS.out) (h:=?_);refine WT.t 3 (v:=.pointer (some ⟨d,0,none⟩)) (y:=by rintro w ⟨C1,C2⟩;exact zb (by kernel_rfl) (by rfl) C1) (s:=HS.out) (h:=?_);refine WT.t 4 (v:=_) (y:=by rintro w ⟨C1,C2⟩;go_simp;with_reducible rfl) (s:=HS.out) (h:=?_);refine WT.call 5 (by simp only [qi];rfl) (by kernel_rfl) (by rfl) (by go_simp;first | done | rfl | exact ⟨⟨rfl,rfl⟩,rfl⟩ | exact ⟨⟨rfl,rfl,rfl⟩,rfl⟩) FA.out ?_;rintro _ _ ⟨rfl,rfl⟩;refine ⟨_,rfl,HS.out,?_⟩;simp only [Nat.reduceAdd,qn];refine WT.call 6 (by simp only [qi];rfl) (by kernel_rfl) (by rfl) (by go_simp;first | done | rfl | exact ⟨⟨rfl,rfl⟩,rfl⟩ | exact ⟨⟨rfl,rfl,rfl⟩,rfl⟩ | exact ⟨⟨rfl,rfl,rfl,rfl⟩,rfl⟩) LA.out ?_;rintro _ w1 ⟨rfl,k1⟩;have HS1:Hid ((fun u:World=>u.cell? ⟨l,0,none⟩=some (.pointer (some ⟨d,0,none⟩)) /\ u.cell? ⟨l,1,none⟩=some (.string nm)) w1):=qq ⟨(k1.cell (lt_of_cell (w:=w.drew) hc) (fun e=>e)).trans hc,(k1.cell (lt_of_cell (w:=w.drew) hc1) (fun e=>e)).trans hc1⟩;have K1:=qq (((Keeps.refl Nb w).drew).trans_nb k1);clear HS FA LA k1;have HS:=HS1;refine ⟨_,rfl,HS.out,?_⟩;simp only [Nat.reduceAdd,qn];generalize lastsOf X.D X.fc (manf nm)=lo at hlo ⊢;obtain ⟨la,le⟩:=lo;have HLo:=qq hlo;clear hlo hc hc1;refine WT.t 7 (v:=_) (y:=by rintro w ⟨C1,C2⟩;go_simp;with_reducible rfl) (s:=HS.out) (h:=?_);refine WT.t 8 (v:=_) (y:=by rintro w ⟨C1,C2⟩;go_simp;with_reducible rfl) (s:=HS.out) (h:=?_);refine WT.t 9 (v:=_) (y:=by rintro w ⟨C1,C2⟩;go_simp;with_reducible rfl) (s:=HS.out) (h:=?_);refine WT.t 10 (v:=_) (y:=by rintro w ⟨C1,C2⟩;go_simp;with_reducible rfl) (s:=HS.out) (h:=?_);refine WT.stop (by kernel_rfl) ?_;refine WP.o 11 (v:=_) (y:=by go_simp;first | with_reducible rfl | exact ⟨rfl,rfl⟩) (h:=?_);refine WP.done (by kernel_rfl) ?_;cases hfl:flook X.D.files (manf nm) with
 | none =>
  rw [hfl] at HLo;have e1:le=6:=(congrArg Prod.snd HLo.out)
  subst e1;have HN:Hid (fndR nm X=((0,0),false,0)):=qq (by unfold fndR;rw [hfl]);clear hfl HLo;go_wp2
  (try simp only [Exit.inBlock,Exit.then])
  refine bodyPost_ret (z0q rfl _ _ _) rfl ?_;exact ⟨by rw [HN.out];first | done | rfl,K1.out⟩
 | some fb =>
  rw [hfl] at HLo;have e1:le=0:=(congrArg Prod.snd HLo.out)
  subst e1;have HFL:=qq hfl;clear hfl HLo;have F2:=qq (z17 l nm sMan w1 HS.out.2 (by omega) (by decide));have O2:=qq (zcy l d (manf nm) X F R w1 (H.out.nb K1.out) HS.out.1 hms);clear HS1;go_wp2_with fail;refine F2.out.mono ?_;rintro _ _ ⟨rfl,rfl⟩;go_wp2_with fail;refine O2.out.mono ?_;rintro e2 w2 ⟨ho,k2⟩;have hby:=(z18 H.out (manf nm)).2;have fin:∀ (v:Value) (b:List Nat) (wh:Bool),e2=.returned (.tuple #[v,.bool wh]) -> Bytes w2 (SinceB w1 w2) v b -> b.length <= mxr -> ((wh=false /\ (oneR X (manf nm)).bind manN=none) \/ (wh=true /\ (oneR X (manf nm)).bind manN=manN b)) -> ∃ v b wh,e2=.returned (.tuple #[v,.bool wh]) /\ Bytes w2 (SinceB w1 w2) v b /\ b.length <= mxr /\ (oneR X (manf nm)).bind manN=if wh=true then manN b else none:=by
   rintro v b wh h1 h2 h3 h4;refine ⟨v,b,wh,h1,h2,h3,?_⟩;rcases h4 with ⟨rfl,h4⟩ | ⟨rfl,h4⟩ <;> simp [h4]
  obtain ⟨v,b,wh,rfl,hb,hbl,hm2⟩:∃ v b wh,e2=.returned (.tuple #[v,.bool wh]) /\ Bytes w2 (SinceB w1 w2) v b /\ b.length <= mxr /\ (oneR X (manf nm)).bind manN=if wh=true then manN b else none:=by
   cases hor:oneR X (manf nm) with
   | none =>
    rw [hor] at ho;exact ⟨_,[],false,ho,Bytes.nil _ _,by decide,by simp⟩
   | some b =>
    rw [hor] at ho;obtain ⟨v,ho,hb⟩:=ho;exact ⟨v,b,true,ho,hb,(z8r hby hor).1,by simp⟩
  clear fin ho hby;have RA:=qq (read_at' v b _ w2 hb (by unfold mxr at hbl;omega));have K2:=qq (K1.out.trans_nb k2);obtain ⟨av,cv,rfl,-⟩:=id hb;clear hb hbl k2 O2 F2;go_wp2_with fail;refine RA.out.mono ?_;rintro _ w3 ⟨g,rfl,k3,hrd,hge⟩;have N1:=qq (zad g _ (some b) w3 hrd);clear hrd RA;go_wp2_with fail;refine N1.out.mono ?_;rintro _ w4 ⟨rfl,hr4,k4⟩;have N2:=qq (zad g _ _ w4 hr4);clear hr4 N1;go_wp2_with fail;refine N2.out.mono ?_;rintro _ w5 ⟨rfl,hr5,k5⟩;have E5:=qq (zg0 g _ _ w5 hr5);have K5:Hid (Keeps Nb w w5):=qq (((K2.out.trans_nb k3).own (k:=g) (by have:=K2.out.size;omega) k4).own (k:=g) (by have:=K2.out.size;omega) k5);clear hr5 N2 k3 k4 k5 hge;have hman:=man_s b;rw [hman] at hm2;clear hman;generalize numS (some b)=n1 at hm2 E5 ⊢;obtain ⟨sn,o1⟩:=n1;simp only at hm2 E5 ⊢;generalize numS o1=n2 at hm2 E5 ⊢;obtain ⟨fi,o2⟩:=n2;simp only at hm2 E5 ⊢;generalize endS o2=er at hm2 E5;have hno:(oneR X (manf nm)).bind manN=none -> fndR nm X=((0,0),true,10):=fun e=>by unfold fndR;rw [HFL.out,e]
  have hyes:∀ q,(oneR X (manf nm)).bind manN=some q -> fndR nm X=(q,true,0):=fun q e=>by unfold fndR;rw [HFL.out,e]
  have HM:=qq hm2;have HNO:=qq hno;have HYE:=qq hyes;clear hm2 hno hyes H HS;cases wh
  ·
   have HN:=qq (HNO.out (by rw [HM.out];rfl));go_wp2
   (try simp only [Exit.inBlock,Exit.then])
   refine bodyPost_ret (z0q rfl _ _ _) rfl ?_;exact ⟨by rw [HN.out];first | done | rfl,K5.out⟩
  ·
   go_wp2_with fail;refine E5.out.mono ?_;rintro _ _ ⟨rfl,rfl⟩;rcases Classical.em (er ≠ 0) with h1 | h1
   ·
    have HN:=qq (HNO.out (by rw [HM.out,if_pos trivial,if_neg (fun e=>h1 e.1)]));have t1:(er != 0)=true:=by simpa using h1
    clear h1 E5;go_wp2
    (try simp only [Exit.inBlock,Exit.then])
    refine bodyPost_ret (z0q rfl _ _ _) rfl ?_;exact ⟨by rw [HN.out];first | done | rfl,K5.out⟩
   have h1:=Classical.not_not.1 h1;subst h1;rcases Nat.lt_or_ge mxn sn with h2 | h2
   ·
    have HN:=qq (HNO.out (by rw [HM.out,if_pos trivial,if_neg (fun e=>by omega)]));have t1:decide (2147483647 < (sn:Int))=true:=by unfold mxn at h2;simpa using (by omega:(2147483647:Int) < sn)
    clear h2 E5;go_wp2
    (try simp only [Exit.inBlock,Exit.then])
    refine bodyPost_ret (z0q rfl _ _ _) rfl ?_;exact ⟨by rw [HN.out];first | done | rfl,K5.out⟩
   have t2:decide (2147483647 < (sn:Int))=false:=by unfold mxn at h2;simpa using (by omega:(sn:Int) <= 2147483647)
   rcases Nat.lt_or_ge fi 1 with h3 | h3
   ·
    have HN:=qq (HNO.out (by rw [HM.out,if_pos trivial,if_neg (fun e=>by omega)]));have t1:decide ((fi:Int) < 1)=true:=by simpa using (by omega:(fi:Int) < 1)
    clear h2 h3 E5;go_wp2
    (try simp only [Exit.inBlock,Exit.then])
    refine bodyPost_ret (z0q rfl _ _ _) rfl ?_;exact ⟨by rw [HN.out];first | done | rfl,K5.out⟩
   have t3:decide ((fi:Int) < 1)=false:=by simpa using (by omega:(1:Int) <= fi)
   rcases Nat.lt_or_ge mxn fi with h4 | h4
   ·
    have HN:=qq (HNO.out (by rw [HM.out,if_pos trivial,if_neg (fun e=>by omega)]));have t1:decide (2147483647 < (fi:Int))=true:=by unfold mxn at h4;simpa using (by omega:(2147483647:Int) < fi)
    clear h2 h3 h4 E5;go_wp2
    (try simp only [Exit.inBlock,Exit.then])
    refine bodyPost_ret (z0q rfl _ _ _) rfl ?_;exact ⟨by rw [HN.out];first | done | rfl,K5.out⟩
   have t4:decide (2147483647 < (fi:Int))=false:=by unfold mxn at h4;simpa using (by omega:(fi:Int) <= 2147483647)
   have HN:=qq (HYE.out (sn,fi) (by rw [HM.out,if_pos trivial,if_pos ⟨rfl,h2,h3,h4⟩]));have hw1:IntKind.i64.wrap (sn:Int)=sn:=by unfold mxn at h2;exact IntWalk.i64_in _ (by omega)
   have hw2:IntKind.i64.wrap (fi:Int)=fi:=by unfold mxn at h4;exact IntWalk.i64_in _ (by omega)
   clear h2 h3 h4 E5;go_wp2
   (try simp only [Exit.inBlock,Exit.then])
   refine bodyPost_ret (z0q rfl _ _ _) rfl ?_;exact ⟨by rw [HN.out];first | done | rfl,K5.out⟩
end Go.Proofs.YtpjomdmjohjheaaGreatDoor
end
section
namespace Go.Lk
open Go.RowKit
variable {P:Program} {w w':World} {t e:TypeId} {size bytes:Nat} {z:Value} {a:Act} {s x:Operand} {dst:Option Tmp} {ty:TypeId} {pos:String} {aft:Array Edge} {gd:Option (Nat × Bool)}
theorem zd5 (E:ElemT P t e size bytes z) {v:Value} {ad:Option Addr} {m c2 n base:Nat} {xs news:List Value} (hv:w.ownsRow base e size v n xs) (hs:a.eval s=v) (hx:a.eval x=.slice ad m c2)
  (hsrc:Has w ad news) (hl:news.length=m * size) (h1:∀ u ∈ news,u.oneCell'=true) (h63:n + m <= maxLen) (hbytes:(n + m) * bytes <= 140737488355328) (hb:base <= w.heap.size) :
  ∃ v' w',(execOp a.eval ⟨dst,.call ⟨.builtin .append,#[s,x],#[t,t]⟩,ty,pos,aft,gd⟩).run P w=.ok (.value v') w' /\ (w'.ownsRow base e size v' (n + m) (xs ++ news) /\ w.grownBy w' v.ownBlock):=by
 obtain ⟨v',w',h2,h3,h4,-⟩:=z2l (P:=P) (c:=c2) ty E base n xs news hv hsrc hl h1 h63 hbytes hb;exact ⟨v',w',z4s hs hx h2,h3,h4⟩
end Go.Lk
namespace Go.Proofs.YtpjomdmjohjheaaGreatDoor
open Go.RowKit Go.Lk Go.Vfs Go.Log
theorem ze4 {l:List Nat} {zs:List Int} (h:zs.Perm (l.map fun n:Nat=>(n:Int))) (hs:zs.Pairwise (· <= ·)):∃ ms:List Nat,ms.Perm l /\ ms.Pairwise (· <= ·) /\ zs=ms.map fun n:Nat=>(n:Int):=by
 have hz:∀ z ∈ zs,0 <= z:=fun z hz=>by
  obtain ⟨n,-,rfl⟩:=List.mem_map.1 (h.mem_iff.1 hz);omega
 have e:zs=(zs.map Int.toNat).map fun n:Nat=>(n:Int):=by
  rw [List.map_map]
  conv=>lhs;rw [<- List.map_id zs]
  exact List.map_congr_left fun z hz'=>by have:=hz z hz';simp;omega
 refine ⟨zs.map Int.toNat,?_,?_,e⟩
 ·
  have:=h.map Int.toNat
  rw [List.map_map] at this;have e2:l.map (Int.toNat ∘ fun n:Nat=>(n:Int))=l:=by
   conv=>rhs;rw [<- List.map_id l]
   exact List.map_congr_left fun z _=>by simp
  rwa [e2] at this
 ·rw [List.pairwise_map];exact hs.imp fun h=>Int.toNat_le_toNat h
theorem zar (v:Value) (l:List Nat) (base:Nat) (w:World) (h:w.ownsRow base 3 1 v l.length (l.map fun n:Nat=>Value.int .i64 n)) (hl:l.length <= 1000000) :
  Calls Tryz.prog 119 #[v] w fun e w'=>e=.returned (.tuple #[]) /\ (∃ ms:List Nat,ms.Perm l /\ ms.Pairwise (· <= ·) /\ w'.ownsRow base 3 1 v l.length (ms.map fun n:Nat=>Value.int .i64 n)) /\ Keeps (fun k=>v.ownBlock=some k) w w':=by
 have hm:∀ l:List Nat,(l.map fun n:Nat=>Value.int .i64 n)=(l.map fun n:Nat=>(n:Int)).map (Value.int .i64):=fun l=>by rw [List.map_map];rfl
 obtain ⟨h1,h2⟩:=id h;rcases h2 with ⟨rfl,h0⟩ | ⟨g,cap,cur,rfl,hbg,hg,hnc,hcm,hcs,htake⟩
 ·have hnil:l=[]:=List.length_eq_zero_iff.1 h0;subst hnil;refine (AnyM.slices_Sort_int_none Tryz.sort119 none 0 w).mono ?_;rintro e w' ⟨rfl,rfl⟩;exact ⟨rfl,⟨[],List.Perm.refl _,List.Pairwise.nil,h⟩,Keeps.refl _ _⟩
 ·have hH:Go.Sort.Holds (Value.int .i64) w g 0 (l.map fun n:Nat=>(n:Int)).toArray:=holds_of_blockI hg (by rw [<- hm,List.length_map];simpa using htake);have key:=AnyM.slices_Sort_int Tryz.sort119 g 0 cap (l.map fun n:Nat=>(n:Int)) w hH (lt_of_block hg) (by rw [List.length_map];omega);rw [List.length_map] at key;refine key.mono ?_;rintro e w' ⟨rfl,n,os,rfl⟩;obtain ⟨ms,k1,k2,k3⟩:=ze4 (List.mergeSort_perm (l.map fun n:Nat=>(n:Int)) fun x y=>decide (x <= y)) ((List.pairwise_mergeSort (le:=fun x y:Int=>decide (x <= y)) (fun a b c h1 h2=>by simp at *;omega) (fun a b=>by simp;omega) _).imp fun h=>by simpa using h);rw [k3];refine ⟨rfl,⟨ms,k1,k2,?_⟩,(Keeps.refl _ w).grown (grownBy_sortedI _) (fun k hk _=>by cases hk;rfl)⟩;rw [hm ms];have:=ownsRow_sortedI (n:=n) (os:=os) (ss:=l.map fun n:Nat=>(n:Int)) (ts:=ms.map fun n:Nat=>(n:Int)) (by simp [k1.length_eq]) hbg hg (by rw [List.length_map];exact hnc) hcm hcs;rw [List.length_map] at this;exact this
theorem el35:ElemT Tryz.prog 35 3 1 8 (.int .i64 0):=⟨by kernel_rfl,by kernel_rfl,rfl,by decide⟩
end Go.Proofs.YtpjomdmjohjheaaGreatDoor
end
section
namespace Go.Lk
open Go.RowKit
variable {P:Program} {w w':World} {F R:Nat -> Prop} {t e:TypeId} {size bytes:Nat} {z:Value} {a:Act} {s x:Operand} {dst:Option Tmp} {ty:TypeId} {pos:String} {aft:Array Edge} {gd:Option (Nat × Bool)}
theorem zda (ty:TypeId) (E:ElemT P t e size bytes z) {ad ad2:Option Addr} {c2 n c:Nat} (hn:n <= c) :
  (Builtin.append_ #[t,t] ty #[.slice ad n c,.slice ad2 0 c2]).run P w=.ok (.slice ad n c) w:=by
 obtain ⟨i,hi,h4⟩:=Option.map_eq_some_iff.1 E.hi;cases ad2 with
 | none=>cases ad <;> simp [Builtin.append_,run_underlying E.ht,sizeOf,typeInfo,hi,Builtin.lenOf,Builtin.firstCells,hn,storeCells]
 | some p=>cases ad <;> simp [Builtin.append_,run_underlying E.ht,sizeOf,typeInfo,hi,Builtin.lenOf,Builtin.firstCells,hn,storeCells,loadCells,loadCellsFrom]
theorem re_push' (E:ElemT P t e size bytes z) {v:Value} {ad:Option Addr} {m c2 n:Nat} {xs news:List Value} (hv:RowS w F R e size v n xs) (hs:a.eval s=v) (hx:a.eval x=.slice ad m c2)
  (hsrc:Has w ad news) (hl:news.length=m * size) (h1:∀ u ∈ news,u.oneCell'=true) (h63:n + m <= maxLen) (hbytes:(n + m) * bytes <= 140737488355328) :
  ∃ v' w',(execOp a.eval ⟨dst,.call ⟨.builtin .append,#[s,x],#[t,t]⟩,ty,pos,aft,gd⟩).run P w=.ok (.value v') w' /\ IsPush F R e size (n + m) (xs ++ news) w v' w':=by
 rcases Nat.eq_zero_or_pos m with h | h
 ·subst h;have hn:news=[]:=List.length_eq_zero_iff.1 (by omega);subst hn;obtain ⟨k1,k2,a',c,rfl,k4,k5,k6,k7,k8⟩:=id hv;refine ⟨_,w,z4s hs hx (zda ty E k4),?_⟩;rw [List.append_nil];exact ⟨hv.mono (fun k h=>.inl h) (fun _ h=>h),Nb,Keeps.refl _ _,fun k h=>h.elim⟩
 ·exact z1w E hv hs hx hsrc hl h1 h h63 hbytes
end Go.Lk
namespace Go.Lk
theorem RowS.typed {w:World} {F R:Nat -> Prop} {e:TypeId} {size n:Nat} {v:Value} {xs:List Value} (h:RowS w F R e size v n xs):RowS w (fun k=>F k /\ IsT w e k) R e size v n xs:=by
 obtain ⟨h1,h2,a,c,rfl,h4,h5,h6,h7,h8⟩:=h;refine ⟨h1,h2,a,c,rfl,h4,h5,h6,fun b off e hz=>⟨(h7 b off e hz).1.imp (fun hf=>⟨hf,(h7 b off e hz).2⟩) id,(h7 b off e hz).2⟩,h8.imp id fun ⟨x,y⟩=>⟨x,fun g hg=>⟨y g hg,?_⟩⟩⟩;rcases x.2 with ⟨e,-⟩ | ⟨g',cap,cur,e,-,hb,-⟩
 ·rw [e] at hg;cases hg
 ·rw [e] at hg;cases hg;exact ⟨_,_,hb⟩
end Go.Lk
namespace Go.Log
open Go.Lk Go.RowKit Go.Vfs
variable {w w' w2:World} {l d:Nat} {Fd Rd FL RL FN RN S:Nat -> Prop} {L L':Lg} {X:Ds}
def LUp (w w':World) (l d:Nat) (Fd Rd FL RL:Nat -> Prop) (L:Lg) (X:Ds):Prop :=
 ∃ FL' RL',LgAt w' l d Fd Rd FL' RL' L X /\ (∀ k,FL' k -> FL k \/ w.heap.size <= k) /\ (∀ k,RL' k -> RL k \/ w.heap.size <= k) /\ Keeps FL w w'
theorem LUp.of (h:LgAt w' l d Fd Rd FL RL L X) (hk:Keeps FL w w'):LUp w w' l d Fd Rd FL RL L X:=⟨FL,RL,h,fun _ e=>.inl e,fun _ e=>.inl e,hk⟩
theorem LgAt.lt6 (h:LgAt w l d Fd Rd FL RL L X):6 <= w.heap.size:=by
 have:=h.low l (.inr h.fl);have:=h.ltF l h.fl;omega
theorem LgAt.put {w0 wa:World} {sv lv:Value} {vs:List Value} (h:LgAt wa l d Fd Rd FL RL L X) (hz:wa.heap.size <= w.heap.size) (hd:DiskAt w d Fd Rd X.D X.fc) (hT:∃ cs,w.heap[l]?=some (.cells cs 78 (0,0))) (hs:SetAt w w' l (.cells (lcs d sv lv L') 78 (0,0)))
  (h0:∀ k,(Fd k \/ Rd k \/ FL k \/ RL k) -> k < w0.heap.size) (h6:6 <= w0.heap.size) (hn:NumL L')
  (hb:Bytes w (fun k=>RL k \/ (w0.heap.size <= k /\ k < w.heap.size /\ IsT w 5 k)) sv L'.snap) (hr:RowS w (fun k=>FL k \/ (w0.heap.size <= k /\ k < w.heap.size /\ IsT w 22 k)) (fun _=>False) 22 1 lv L'.recs.length vs)
  (hl:BytesL w (fun k=>RL k \/ (w0.heap.size <= k /\ k < w.heap.size /\ IsT w 5 k)) vs L'.recs) :
  LgAt w' l d Fd Rd (fun k=>FL k \/ (w0.heap.size <= k /\ k < w.heap.size /\ IsT w 22 k)) (fun k=>RL k \/ (w0.heap.size <= k /\ k < w.heap.size /\ IsT w 5 k)) L' X:=by
 obtain ⟨-,-,g3,g4,g5,g6,g7,g8,g9⟩:=h;have g1:=hd;have k:=hs.k;have hll:l < w0.heap.size:=h0 l (.inr (.inr (.inl g3)));have hRl:∀ k,(RL k \/ (w0.heap.size <= k /\ k < w.heap.size /\ IsT w 5 k)) -> ¬ k=l:=fun k e h=>by
  rw [h] at e;exact e.elim (fun e=>(g5 l e).2 g3) (fun e=>by omega)
 have hTl:∀ k,IsT w 22 k -> ¬ k=l:=fun k ht e=>by subst e;obtain ⟨cs,hc⟩:=hT;exact (ht.ne ⟨_,_,hc⟩ (by decide)) rfl
 refine ⟨g1.keeps k (fun k hk e=>(g4 l g3).1 (e ▸ hk)) (fun k hk e=>(g4 l g3).2 (e ▸ hk)),⟨sv,lv,vs,hs.blk,hb.keeps k hRl,hr.keeps k (fun k hk ht=>hTl k ht),hl.keeps k hRl⟩,.inl g3,?_,?_,?_,?_,hn,?_⟩
 ·
  rintro k (e | e)
  ·exact g4 k e
  ·exact ⟨fun e2=>by have:=h0 k (.inl e2);omega,fun e2=>by have:=h0 k (.inr (.inl e2));omega⟩
 ·
  rintro k (e | e)
  ·exact ⟨(g5 k e).1,fun e2=>e2.elim (g5 k e).2 (fun e2=>by have:=h0 k (.inr (.inr (.inr e)));omega)⟩
  ·exact ⟨fun e2=>by have:=h0 k (.inl e2);omega,fun e2=>e2.elim (fun e2=>by have:=h0 k (.inr (.inr (.inl e2)));omega) (fun e2=>(e2.2.2.ne e.2.2 (by decide)) rfl)⟩
 ·
  rintro k (e | e)
  ·exact Nat.lt_of_lt_of_le (g6 k e) (Nat.le_trans hz hs.k.size)
  ·exact Nat.lt_of_lt_of_le e.2.1 hs.k.size
 ·
  rintro k (e | e)
  ·exact Nat.lt_of_lt_of_le (g7 k e) (Nat.le_trans hz hs.k.size)
  ·exact Nat.lt_of_lt_of_le e.2.1 hs.k.size
 ·
  rintro k (e | e | e)
  ·exact g9 k (.inl e)
  ·exact g9 k (.inr e)
  ·omega
end Go.Log
end
section
namespace Go.Proofs.YtpjomdmjohjheaaGreatDoor
open Go.RowKit Go.Lk Go.Vfs Go.Log
theorem z5n (X:Ds) (n:Nat) (ns:List Nat) (L:Lg) (e:Nat):rdl X (n :: ns) L e =
  if (whole (readOf X.D X.fc (sgf L.name n)).1).2.2=true /\ ((readOf X.D X.fc (sgf L.name n)).1.length <= (whole (readOf X.D X.fc (sgf L.name n)).1).2.1 \/ ns=[]) then
   rdl X ns { L with recs:=L.recs ++ (whole (readOf X.D X.fc (sgf L.name n)).1).1,segment:=n,size:=(readOf X.D X.fc (sgf L.name n)).1.length } (whole (readOf X.D X.fc (sgf L.name n)).1).2.1
  else none:=rfl
def ReadD (w:World) (l d:Nat) (Fd Rd FL RL:Nat -> Prop) (X:Ds) (r:Option (Lg × Nat)) (e:Ending) (w':World):Prop :=
 match r with
 | none=>e=.returned (.tuple #[.int .i64 0,.int .i64 10]) /\ DiskAt w' d Fd Rd X.D X.fc /\ Keeps FL w w'
 | some p=>e=.returned (.tuple #[.int .i64 (p.2:Nat),.int .i64 0]) /\ LUp w w' l d Fd Rd FL RL p.1 X
def segL (nm:ByteArray) (first:Nat) (l:List ByteArray):List Nat:=(l.map (sgn nm)).filter fun n=>decide (first <= n)
def NumsI (w6:World) (b6:Nat) (nm:ByteArray) (first:Nat) (l:List ByteArray) (W:World):Prop :=
 ∃ v,W.heap[b6]?=some (.cells #[v] 35 (0,0)) /\ W.ownsRow (w6.heap.size + 2) 3 1 v (segL nm first l).length ((segL nm first l).map fun n:Nat=>Value.int .i64 n) /\ Keeps (fun b=>w6.heap.size <= b \/ b=b6) w6 W
theorem NumsI.book {w6 A B:World} {b6:Nat} {nm:ByteArray} {first:Nat} {l:List ByteArray} (h:NumsI w6 b6 nm first l A) (k:Keeps (Book w6) A B) (hb:b6 < w6.heap.size):NumsI w6 b6 nm first l B:=by
 obtain ⟨v,h1,h2,h3⟩:=h;exact ⟨v,k.at h1 (fun e=>by unfold Book at e;omega),z08 h2 k (fun j hj e=>by unfold Book at e;omega),h3.trans k (fun j hj e=>by unfold Book at e;omega)⟩
def ReadI (X:Ds) (ms:List Nat) (W1:World) (l d:Nat) (Fd Rd FL RL:Nat -> Prop) (L1:Lg) (k:Nat) (Lk:Lg) (en:Nat) (wr:World):Prop :=
 LUp W1 wr l d Fd Rd FL RL Lk X /\ rdl X ms L1 0=rdl X (ms.drop k) Lk en /\ Lk.name=L1.name /\ Lk.recs.length <= k * 2097153
theorem zea (l d s:Nat) (Fd Rd FL RL:Nat -> Prop) (L:Lg) (X:Ds) (w:World) (h:LgAt w l d Fd Rd FL RL L X) (hv:Vars w) (hs:s <= mxn) (hr0:L.recs=[]) :
  Calls Tryz.prog 59 #[.pointer (some ⟨l,0,none⟩),.int .i64 s] w fun e w'=>∃ r,readR X L s r /\ ReadD w l d Fd Rd FL RL X r e w':=by
 have H:=qq h;have HV:=qq hv;have h6:Hid (6 <= w.heap.size):=qq h.lt6;clear h hv;refine z1j Tryz.func59 rfl ?_;simp only [Tryz.ntmps59,List.size_toArray,List.length_cons,List.length_nil,Nat.reduceAdd,Nat.reduceSub,Array.replicate_succ,Array.replicate_zero,List.push_toArray,List.append_toArray,List.nil_append,List.cons_append];go_wp2_with (first | go_skip | (with_reducible refine zm (t:=40) ?_))
 refine za (vbox1 (v:=.pointer (some ⟨l,0,none⟩)) (by rfl) rfl ?_);intro b2 w1 n1;simp only [Nat.reduceAdd,qn];have B2:=qq n1.blk;have G2:Hid (w.heap.size <= b2 /\ b2 < w1.heap.size):=qq ⟨n1.ge,n1.lt⟩;have K1:=qq n1.k;clear n1;have H1:=qq (H.out.nb K1.out);by_cases h0:s=0
 ·
  have hb2l:b2 ≠ l:=fun e=>by have:=H.out.ltF l H.out.fl;have:=G2.out.1;omega
  have c2:w1.cell? ⟨b2,0,none⟩=some (.pointer (some ⟨l,0,none⟩)):=(cell_of_block B2.out).trans rfl
  obtain ⟨L1,HG,HSN,hnm,hfi,hrc⟩:∃ L1,Hid (LUp w1 w1 l d Fd Rd FL RL L1 X) /\ Hid (snapR X L s=some L1) /\ L1.name=L.name /\ L1.first=L.first /\ L1.recs=[] :=
   ⟨L,qq (LUp.of H1.out (Keeps.refl _ _)),qq (by unfold snapR;rw [if_pos h0]),rfl,rfl,hr0⟩
  have t0:¬ 0 < s:=by omega
  clear h0;obtain ⟨FL1,RL1,H1',hFL1,hRL1,kA⟩:=HG.out;have HA:=qq H1';have KA:=qq kA;have HFL1:=qq hFL1;have HRL1:=qq hRL1;have HNM:=qq hnm;have HFI:=qq hfi;have HRC:=qq hrc;clear H1' hFL1 hRL1 kA HG hnm hfi hrc;go_wp2_with (first | go_skip | (with_reducible refine qv (by decide) ?_))
  refine za (valloc (z:=.slice none 0 0) (by kernel_rfl) ?_);intro b6 wB nB;simp only [Nat.reduceAdd,qn];have B6:=qq nB.blk;have KB:=qq nB.k;have G6:Hid (w1.heap.size <= b6 /\ b6 < wB.heap.size):=qq ⟨nB.ge,nB.lt⟩;clear nB;have HB':=qq (HA.out.nb KB.out);obtain ⟨sv',lv',hcs⟩:=HB'.out.cells;have HC:=qq hcs;have B2B:=qq (KB.out.nb B2.out);have cB2:wB.cell? ⟨b2,0,none⟩=some (.pointer (some ⟨l,0,none⟩)):=(cell_of_block B2B.out).trans rfl;have cl:wB.cell? ⟨l,0,none⟩=some (.pointer (some ⟨d,0,none⟩)):=(cell_of_block (HC.out wB (Keeps.refl _ _))).trans rfl;have FA:=qq (z3u d X.D Fd Rd X.fc wB HB'.out.disk);clear hcs c2;go_wp2_with fail;refine FA.out.mono ?_;rintro _ w6 ⟨ns,hperm,a3,a4,rfl,hfa,k6⟩;obtain ⟨ps,hps⟩:∃ ps,(ns.map fun s=>(s,szOf X.D X.fc s))=ps:=⟨_,rfl⟩
  rw [hps] at hfa;have HPS:=qq hps;have HPM:=qq hperm;have HFA:=qq hfa;have K6:=qq k6;have HLEN:Hid (ps.length=ns.length):=qq (by rw [<- hps,List.length_map]);have W6:Hid (w6.heap[b6]?=some (.cells #[.slice none 0 0] 35 (0,0))):=qq (k6.nb B6.out);have L6:b6 < wB.heap.size:=lt_of_block B6.out;have z36:=k6.size;have HV6:Hid (Vars w6):=qq ((((HV.out.nb K1.out).keeps KA.out (fun k hk e=>by have:=H.out.low k (.inr e);omega)).nb KB.out).nb K6.out);clear hps hperm hfa k6 FA cB2 cl;go_wp2_with (with_reducible refine z19 ?_)
  refine za ((wpIn_wide (n:=9)).1 ?_);have hlw:l < w.heap.size:=H.out.ltF l H.out.fl;have hzA:w1.heap.size <= w1.heap.size:=KA.out.size
  refine z2a (gf:=95) (lb:=#[.pointer (some ⟨a3,0,none⟩),.pointer (some ⟨a4,0,none⟩)]) (by rfl) (enters_of Tryz.func95 (by kernel_rfl) rfl)
   (z2g 8 (by omega) wB.heap.size a3 a4 ps (fun b=>w6.heap.size <= b \/ b=b6) w6 HFA.out (fun b h1 h2 e=>by omega))
   (fun b hb=>.inl (by unfold Book at hb;omega)) (fun i args W h=>by obtain ⟨p,-,rfl⟩:=h;rfl)
   (fun i W=>NumsI w6 b6 L1.name L1.first (ns.take i) W) (fun _ _=>False)
   (fun i A B h k=>h.book k (by omega)) (fun c A B h=>h.elim) ⟨_,W6.out,⟨rfl,.inl ⟨rfl,rfl⟩⟩,Keeps.refl _ _⟩ ?_ ?_ (fun _ _ h=>h.elim)
  ·
   rintro lm i args W rfl hW2 hI hi ⟨p,hp,rfl⟩;simp only [List.zip_toArray,List.zip_cons_cons,List.zip_nil_right,List.foldl_toArray,List.foldl_cons,List.foldl_nil,List.setIfInBounds_toArray,List.set_cons_succ,List.set_cons_zero];have hns:ns[i]?=some p.1:=by
    rw [<- HPS.out,List.getElem?_map] at hp;obtain ⟨s,h1,h2⟩:=Option.map_eq_some_iff.1 hp;rw [h1,<- h2]
   have hmn:mnB p.1=true:=by
    have h1:=HPM.out.mem_iff.1 (List.mem_of_getElem? hns);obtain ⟨q,hq,e⟩:=List.mem_map.1 h1;rw [<- e];exact H.out.disk.names.files q hq
   obtain ⟨nm,sz⟩:=p;have HNS:=qq hns;have hsz:=z0z hmn;have HI:=qq hI;clear hI hp hns hmn
   repeat (first | (with_reducible refine zg ?_) | (with_reducible refine stop_range ?_) | gi_step)
   refine za (zh (by kernel_rfl) (by rintro ⟨_,_,h⟩;exact h) ?_);go_wp2;refine ⟨Keeps.refl _ _,fun W3 k3=>?_⟩;have kb3:Keeps (Book w6) W W3:=k3.mono (fun i _ e=>.inr e);obtain ⟨v,e1,e2,e3⟩:=HI.out.book kb3 (by omega);have KW3:=qq e3;have E1:=qq e1;have E2:=qq e2;have c2:W3.cell? ⟨b2,0,none⟩=some (.pointer (some ⟨l,0,none⟩)):=(cell_of_block (KW3.out.at (K6.out.nb B2B.out) (fun e=>by have:=G2.out;have:=G6.out;omega))).trans rfl;have bl3:W3.heap[l]?=some (.cells (lcs d sv' lv' L1) 78 (0,0)):=KW3.out.at (HC.out w6 K6.out) (fun e=>by have:=G2.out;have:=G6.out;omega)
   have BL3:=qq bl3;have HV3:Hid (Vars W3):=qq (HV6.out.keeps KW3.out (fun k hk e=>by have:=h6.out;have:=G2.out;have:=G6.out;omega));have PA:=qq (z3c l L1.name nm ByteArray.empty W3 HV3.out ((cell_of_block bl3).trans rfl) (by rw [HNM.out];have:=H.out.nums.n16;omega) (by omega) (by decide));have zW3:w6.heap.size + 2 <= W3.heap.size:=by have:=k3.size;omega
   clear k3 e1 e2 e3 kb3 bl3
   repeat (first | (with_reducible refine zg ?_) | (with_reducible refine stop_range ?_) | gi_step)
   refine za (zh (by kernel_rfl) (by rintro ⟨_,_,h⟩;exact h) ?_);go_wp2_with fail;refine PA.out.mono ?_;rintro _ W4 ⟨rfl,k4⟩;have c4:W4.cell? ⟨b2,0,none⟩=some (.pointer (some ⟨l,0,none⟩)):=(k4.cell (lt_of_cell c2) (fun e=>e)).trans c2;have c43:W4.cell? ⟨l,3,none⟩=some (.int .i64 (L1.first:Nat)):=(cell_of_block (k4.nb BL3.out)).trans rfl;have E14:=qq (k4.nb E1.out);have c46:W4.cell? ⟨b6,0,none⟩=some v:=(cell_of_block E14.out).trans rfl;have E24:=qq (z08 E2.out k4 (fun _ _ e=>e));have KW4:=qq k4;clear k4 c2 PA HI;have hsg:pn (fl L1.name ByteArray.empty) nm=sgn L1.name nm:=rfl;rw [hsg];have hsplit:segL L1.name L1.first (ns.take (i + 1))=segL L1.name L1.first (ns.take i) ++ (if L1.first <= sgn L1.name nm then [sgn L1.name nm] else []):=by
    have hil:=(List.getElem?_eq_some_iff.1 HNS.out).1;rw [List.take_succ_eq_append_getElem hil,(List.getElem?_eq_some_iff.1 HNS.out).2];unfold segL;rw [List.map_append,List.filter_append];by_cases hle:L1.first <= sgn L1.name nm <;> simp [hle]
   have HSP:=qq hsplit;clear hsplit hsg;obtain ⟨n,hn⟩:∃ n,sgn L1.name nm=n:=⟨_,rfl⟩
   rw [hn] at HSP ⊢;clear hn;have c43':Hid (W4.cell? ⟨b2,0,none⟩=some (.pointer (some ⟨l,0,none⟩))):=qq c4;by_cases hle:L1.first <= n
   ·
    rw [if_pos hle] at HSP;go_wp2
    repeat (first | (with_reducible refine zg ?_) | (with_reducible refine stop_range ?_) | gi_step)
    refine za (zh (by kernel_rfl) (by rintro ⟨_,_,h⟩;exact h) ?_);go_wp2
    repeat (first | (with_reducible refine zg ?_) | (with_reducible refine stop_range ?_) | gi_step)
    refine za (zh (by kernel_rfl) (by rintro ⟨_,_,h⟩;exact h) ?_);go_wp2_with (first | go_skip | (with_reducible refine qv (by decide) ?_))
    refine za (zi rfl (zl el35 [.int .i64 n] rfl (by simp [List.range'_succ];first | done | rfl | exact ⟨rfl,rfl⟩ | exact ⟨rfl,rfl,rfl⟩ | exact ⟨rfl,rfl,rfl,rfl⟩ | exact ⟨rfl,rfl,rfl,rfl,rfl⟩ | exact ⟨rfl,rfl,rfl,rfl,rfl,rfl⟩) (by simp [Value.cells]) (by simp)) ?_);rintro _ W5 ⟨g8,rfl,n8⟩;simp only [Nat.reduceAdd,qn];have HH8:Hid (Has W5 (some ⟨g8,0,none⟩) [.int .i64 n]):=qq (zt n8.blk);have K5:=qq n8.k;have O5:=qq (z08 E24.out K5.out (fun _ _ e=>e));have zk:(segL L1.name L1.first (ns.take i)).length <= 1000000:=by
     have h1:(segL L1.name L1.first (ns.take i)).length <= (ns.take i).length:=by unfold segL;exact Nat.le_trans (List.length_filter_le _ _) (by simp)
     have h2:=HPM.out.length_eq;have h3:=H.out.disk.nums.nf;simp at h1 h2;omega
    clear n8;go_wp2_with (first | go_skip | (with_reducible refine qv (by decide) ?_))
    refine za (zi rfl (zd5 (base:=w6.heap.size + 2) el35 O5.out (by rfl) (by rfl) HH8.out rfl (by intro u hu;rw [List.mem_singleton.1 hu];rfl) (by unfold maxLen;omega) (by omega) (by have:=KW4.out.size;have:=K5.out.size;omega)) ?_);rintro v2 W6 ⟨o6,g6⟩;simp only [Nat.reduceAdd,qn];obtain ⟨a6,c6,rfl,-,-,-,-⟩:=z05 o6;have hob:∀ k,v.ownBlock=some k -> w6.heap.size + 2 <= k:=fun k e=>by
     rcases E2.out.2 with ⟨e2,-⟩ | ⟨g,cap,cur,e2,hg,-⟩
     ·rw [e2] at e;simp [Value.ownBlock] at e
     ·rw [e2] at e;simp only [Value.ownBlock,Option.some.injEq] at e;omega
    have kk6:Keeps (fun k=>w6.heap.size + 2 <= k) W5 W6:=(Keeps.refl _ W5).grown g6 (fun k hk _=>hob k hk);have b66:W6.heap[b6]?=some (.cells #[v] 35 (0,0)):=kk6.at (K5.out.nb E14.out) (fun e=>by have:=G6.out;omega)
    have kf6:Keeps (fun b=>(w6.heap.size <= b \/ b=b6) /\ ¬ Book w6 b) W3 W6:=((KW4.out.trans_nb K5.out).of_nb).trans kk6 (fun j _ e=>⟨.inl (by omega),fun h=>by unfold Book at h;omega⟩);have O6:=qq o6;clear kk6 g6 o6;go_wp2_with (first | go_skip | (with_reducible refine qv (by decide) ?_))
    refine za (zc rfl (zd (v:=.slice a6 ((segL L1.name L1.first (ns.take i)).length + 1) c6) (n:=1) (by kernel_rfl) (by rfl) (by rfl) b66 (by rfl) (by simp [Value.cells]) (by simp [Value.cells,Value.oneCell'])) ?_);intro W7 s7;simp only [Nat.reduceAdd,qn];refine wpList_nil ?_;have hk7:b6 < w6.heap.size:=by have:=G6.out;omega
    have kf:Keeps (fun b=>(w6.heap.size <= b \/ b=b6) /\ ¬ Book w6 b) W3 W7:=kf6.trans s7.k (fun j _ e=>by have h1:j=b6:=e;subst h1;exact ⟨.inr rfl,by unfold Book;omega⟩);refine ⟨kf,_,s7.blk,?_,KW3.out.trans kf (fun j _ e=>e.1)⟩;rw [HSP.out,List.length_append,List.map_append];exact z08 O6.out s7.k (fun j hj e=>by have h1:j=b6:=e;omega)
   ·
    rw [if_neg hle,List.append_nil] at HSP;go_wp2
    repeat (first | (with_reducible refine zg ?_) | (with_reducible refine stop_range ?_) | gi_step)
    refine za (zh (by kernel_rfl) (by rintro ⟨_,_,h⟩;exact h) ?_);go_wp2
    gi_wp2
    have kf:Keeps (fun b=>(w6.heap.size <= b \/ b=b6) /\ ¬ Book w6 b) W3 W4:=KW4.out.of_nb;refine ⟨kf,v,E14.out,?_,KW3.out.trans kf (fun j _ e=>e.1)⟩;rw [HSP.out];exact E24.out
  ·
   rintro W ⟨nv,en1,en2,en3⟩ hD;rw [HLEN.out,List.take_length] at en2;obtain ⟨nums,hnums⟩:∃ q,segL L1.name L1.first ns=q:=⟨_,rfl⟩
   rw [hnums] at en2;have hn6:nums.length <= 1000000:=by
    have h1:(segL L1.name L1.first ns).length <= ns.length:=by unfold segL;exact Nat.le_trans (List.length_filter_le _ _) (by simp)
    have h2:=HPM.out.length_eq;have h3:=H.out.disk.nums.nf;rw [hnums] at h1;simp at h2;omega
   have hnb:∀ n ∈ nums,n <= mxn:=fun n hn=>by
    rw [<- hnums] at hn;obtain ⟨q,-,rfl⟩:=List.mem_map.1 (List.mem_filter.1 hn).1;by_cases h0:sgn L1.name q=0
    ·rw [h0];exact Nat.zero_le _
    ·exact (z30 h0).2.2
   have hsegs:∀ ms:List Nat,ms.Perm nums -> ms.Pairwise (· <= ·) -> SegsOf L1.name L1.first X ms:=fun ms h1 h2=>⟨h2,by
    rw [<- hnums] at h1
    exact h1.trans ((HPM.out.map _).filter _)⟩
   have HSEG:=qq hsegs;have HN6:=qq hn6;have HNB:=qq hnb;clear hnums hn6 hnb hsegs;obtain ⟨an,cn,rfl,hcn1,hcn2,-,han⟩:=z05 en2;obtain ⟨m,hm⟩:∃ m,nums.length=m:=⟨_,rfl⟩
   have ltA:Hid (∀ k,(Fd k \/ Rd k \/ FL1 k \/ RL1 k) -> k < w1.heap.size):=qq (fun k e=>e.elim (HA.out.disk.ltF k) fun e=>e.elim (HA.out.disk.ltR k) fun e=>e.elim (HA.out.ltF k) (HA.out.ltR k));have HW:Hid (LgAt W l d Fd Rd FL1 RL1 L1 X):=qq ((HA.out.nb (KB.out.trans_nb K6.out)).keeps en3 (fun k hk e=>by have:=ltA.out k (.inl hk);have:=G6.out;omega) (fun k hk e=>by have:=ltA.out k (.inr (.inl hk));have:=G6.out;omega) (fun k hk e=>by have:=ltA.out k (.inr (.inr (.inl hk)));have:=G6.out;omega) (fun k hk e=>by have:=ltA.out k (.inr (.inr (.inr hk)));have:=G6.out;omega));have SO:=qq (zar _ nums (w6.heap.size + 2) W en2 HN6.out);have c6:W.cell? ⟨b6,0,none⟩=some (.slice an nums.length cn):=(cell_of_block en1).trans rfl;have EN1:=qq en1;have EN3:=qq en3;have HD:=qq hD;clear en1 en2 en3 hD han;have HM:=qq hm;rw [hm] at SO c6 HN6 EN1;clear hm;go_wp2_with fail;refine SO.out.mono ?_;rintro _ W1 ⟨rfl,⟨ms,hperm,hsort,ho⟩,k1⟩
   have KS:Hid (Keeps (fun k=>w6.heap.size + 2 <= k) W W1):=qq (k1.mono (fun k _ e=>by
    have e:(Value.slice an m cn).ownBlock=some k:=e;rcases ho.2 with ⟨e2,-⟩ | ⟨g,cap,cur,e2,hg,-⟩
    ·rw [e2] at e;simp [Value.ownBlock] at e
    ·rw [e2] at e;simp only [Value.ownBlock,Option.some.injEq] at e;omega))
   have hml:ms.length=m:=by rw [hperm.length_eq];exact HM.out
   have HSG:=qq (HSEG.out ms hperm hsort);have HMB:Hid (∀ n ∈ ms,n <= mxn):=qq (fun n hn=>HNB.out n (hperm.mem_iff.1 hn));have HML:=qq hml;obtain ⟨a',c',ea,-,-,hhas,hbl⟩:=z05 ho;cases ea;have HHAS:=qq hhas;have HBL:Hid (∀ b off,an=some ⟨b,off,none⟩ -> w6.heap.size + 2 <= b):=qq (fun b off e=>(hbl b off e).2.2.1);have hzs:w6.heap.size < W.heap.size:=lt_of_block HD.out;have B61:=qq (KS.out.at EN1.out (fun e=>by have:=G6.out;omega));have HD1:=qq (KS.out.at HD.out (fun e=>by omega));have B21:=qq (KS.out.at (EN3.out.at (K6.out.nb B2B.out) (fun e=>by have:=G2.out;have:=G6.out;omega)) (fun e=>by have:=G2.out;have:=G6.out;omega));have HW1:Hid (LgAt W1 l d Fd Rd FL1 RL1 L1 X):=qq (HW.out.keeps KS.out (fun k hk e=>by have:=ltA.out k (.inl hk);have:=G6.out;omega) (fun k hk e=>by have:=ltA.out k (.inr (.inl hk));have:=G6.out;omega) (fun k hk e=>by have:=ltA.out k (.inr (.inr (.inl hk)));have:=G6.out;omega) (fun k hk e=>by have:=ltA.out k (.inr (.inr (.inr hk)));have:=G6.out;omega));have HV1:Hid (Vars W1):=qq ((HV6.out.keeps EN3.out (fun k hk e=>by have:=h6.out;have:=G2.out;have:=G6.out;omega)).keeps KS.out (fun k hk e=>by have:=h6.out;have:=G2.out;have:=G6.out;omega));have KW1:Hid (Keeps FL w W1):=qq (((((K1.out.of_nb).trans KA.out (fun _ _ e=>e)).trans_nb (KB.out.trans_nb K6.out)).trans EN3.out (fun j hj e=>by have:=G2.out;have:=G6.out;omega)).trans KS.out (fun j hj e=>by have:=G2.out;have:=G6.out;omega));have hF2:¬ FL1 b2:=fun e=>(HFL1.out b2 e).elim (fun e=>by have:=H.out.ltF b2 e;have:=G2.out;omega) (fun e=>by have:=G2.out;omega);have hF6:¬ FL1 b6:=fun e=>by have:=ltA.out b6 (.inr (.inr (.inl e)));have:=G6.out;omega
   have hzw:w1.heap.size <= W1.heap.size /\ w6.heap.size < W1.heap.size:=by have:=KS.out.size;have:=G6.out;omega
   have HF:=qq (And.intro hF2 hF6);have HZW:=qq hzw;clear SO k1 hperm hsort ho hml hhas hbl c6 hF2 hF6 hzw;have c61:W1.cell? ⟨b6,0,none⟩=some (.slice an m cn):=(cell_of_block B61.out).trans rfl;go_wp2
   go_loopw [9,62] (fun ev iv wr=>∃ k Lk en,k <= m /\ ev=.int .i64 (en:Nat) /\ iv=.int .i64 (k:Nat) /\ ReadI X ms W1 l d Fd Rd FL1 RL1 L1 k Lk en wr) (fun _ iv _=>m - (intOf iv).toNat)
   case atStart=>exact ⟨0,L1,0,Nat.zero_le _,rfl,rfl,LUp.of HW1.out (Keeps.refl _ _),rfl,rfl,by rw [HRC.out];simp⟩
   case round =>
    obtain ⟨k,Lk,en,hk,rfl,rfl,hup,hrd,hkn,hkr⟩:=hrel;obtain ⟨FLk,RLk,hlk,hFk,hRk,kk⟩:=hup;have HLK:=qq hlk;have HFK:=qq hFk;have HRK:=qq hRk;have KK:=qq kk;have HRD:=qq hrd;have HKN:=qq hkn;have HKR:=qq hkr;clear hlk hFk hRk kk hrd hkn hkr;have B2r:=qq (KK.out.at B21.out HF.out.1);have B6r:=qq (KK.out.at B61.out HF.out.2);have HDr:=qq (KK.out.at HD1.out (fun e=>by have:=ltA.out _ (.inr (.inr (.inl e)));have:=G6.out;omega));have HVr:Hid (Vars wr):=qq (HV1.out.keeps KK.out (fun k hk e=>by have:=HW1.out.low k (.inr e);omega));have KWr:Hid (Keeps FL w wr):=qq (KW1.out.trans KK.out (fun j hj e=>(HFL1.out j e).elim id (fun e=>by have:=G2.out;omega)));have c2:wr.cell? ⟨b2,0,none⟩=some (.pointer (some ⟨l,0,none⟩)):=(cell_of_block B2r.out).trans rfl;have c6:wr.cell? ⟨b6,0,none⟩=some (.slice an m cn):=(cell_of_block B6r.out).trans rfl;by_cases hlt:k < m
    ·
     have HLT:=qq hlt;have i1:(k:Int) < (m:Int):=by omega
     obtain ⟨n,rest,hdr⟩:∃ n rest,ms.drop k=n :: rest:=⟨ms[k]'(by rw [HML.out];exact hlt),_,List.drop_eq_getElem_cons (by rw [HML.out];exact hlt)⟩
     have hnk:ms[k]?=some n:=by have h:=congrArg (·[0]?) hdr;simpa using h
     obtain ⟨g,off,rfl,hck⟩:∃ b off,an=some ⟨b,off,none⟩ /\ wr.cell? ⟨b,off + k,none⟩=some (.int .i64 (n:Nat)):=by
      rcases HHAS.out.keeps KK.out (fun b off e _ h=>by have:=HBL.out b off e;have:=ltA.out b (.inr (.inr (.inl h)));have:=G6.out;omega) with h | ⟨b,off,h,hc⟩
      ·have:ms=[]:=List.map_eq_nil_iff.1 h;rw [this] at hnk;cases hnk
      ·exact ⟨b,off,h,hc k _ (by rw [List.getElem?_map,hnk];rfl)⟩
     have hnm:n <= mxn:=HMB.out n (List.mem_of_getElem? hnk);have HDR:=qq hdr;have HNK:=qq hnk;have hrest:(rest=[] ↔ k + 1=m):=by
      have:=congrArg List.length hdr;rw [List.length_drop,HML.out,List.length_cons] at this;rw [<- List.length_eq_zero_iff];omega
     have HRS:=qq hrest;obtain ⟨sv3,lv3,vs3,q1,q2,q3,q4⟩:=HLK.out.ex;have Q1:=qq q1;have Q3:=qq q3;have Q4:=qq q4;have Q2:=qq q2;clear hdr hnk hrest q1 q2 q3 q4;go_wp2;refine WT.region (fun u=>u.cell? ⟨b2,0,none⟩=some (.pointer (some ⟨l,0,none⟩)) /\ u.cell? ⟨l,0,none⟩=some (.pointer (some ⟨d,0,none⟩))) 12 13 [0,1,2,3,4,5,6,7,8,9,10,11,12] (by kernel_rfl) rfl ?_;have HS:Hid ((fun u:World=>u.cell? ⟨b2,0,none⟩=some (.pointer (some ⟨l,0,none⟩)) /\ u.cell? ⟨l,0,none⟩=some (.pointer (some ⟨d,0,none⟩))) wr.drew):=qq ⟨c2,(cell_of_block (w:=wr.drew) Q1.out).trans rfl⟩;have SA:=qq (z0r l Lk.name n wr.drew (HVr.out.nb ((Keeps.refl Nb wr).drew)) ((cell_of_block (w:=wr.drew) Q1.out).trans rfl) (by have:=HLK.out.nums.n16;omega) (by unfold mxn at hnm;omega));refine WT.t 0 (v:=.pointer (some ⟨l,0,none⟩)) (y:=by rintro w ⟨C1,C2⟩;exact zb (by kernel_rfl) (by rfl) C1) (s:=HS.out) (h:=?_);refine WT.t 1 (v:=_) (y:=by rintro w ⟨C1,C2⟩;go_simp;with_reducible rfl) (s:=HS.out) (h:=?_);refine WT.t 2 (v:=_) (y:=by rintro w ⟨C1,C2⟩;go_simp;with_reducible rfl) (s:=HS.out) (h:=?_);refine WT.t 3 (v:=.pointer (some ⟨d,0,none⟩)) (y:=by rintro w ⟨C1,C2⟩;exact zb (by kernel_rfl) (by rfl) C2) (s:=HS.out) (h:=?_);refine WT.t 4 (v:=.pointer (some ⟨l,0,none⟩)) (y:=by rintro w ⟨C1,C2⟩;exact zb (by kernel_rfl) (by rfl) C1) (s:=HS.out) (h:=?_);refine WT.t 5 (v:=_) (y:=by rintro w ⟨C1,C2⟩;go_simp;with_reducible rfl) (s:=HS.out) (h:=?_);refine WT.call 6 (by simp only [qi];rfl) (by kernel_rfl) (by rfl) (by go_simp;first | done | rfl | exact ⟨⟨rfl,rfl⟩,rfl⟩ | exact ⟨⟨rfl,rfl,rfl⟩,rfl⟩) SA.out ?_;rintro _ wa ⟨rfl,ka⟩;have KA2:Hid (Keeps Nb wr wa):=qq (((Keeps.refl Nb wr).drew).trans_nb ka);clear ka SA;replace HS:Hid ((fun u:World=>u.cell? ⟨b2,0,none⟩=some (.pointer (some ⟨l,0,none⟩)) /\ u.cell? ⟨l,0,none⟩=some (.pointer (some ⟨d,0,none⟩))) wa):=qq ⟨(cell_of_block (KA2.out.nb B2r.out)).trans rfl,(cell_of_block (KA2.out.nb Q1.out)).trans rfl⟩;refine ⟨_,rfl,HS.out,?_⟩;simp only [Nat.reduceAdd,qn];have RA:=qq (z3o d (sgf Lk.name n) X.D Fd Rd X.fc wa (HLK.out.disk.nb KA2.out) (by have:=z0z (z0o HLK.out.nums.name HLK.out.nums.n16 hnm);unfold maxLen;omega));have hrf:=z18 HLK.out.disk (sgf Lk.name n);have HRF:=qq hrf;clear hrf;generalize hro:readOf X.D X.fc (sgf Lk.name n)=ro at RA HRF;obtain ⟨bs,er⟩:=ro;have HRO:=qq hro;clear hro;refine WT.call 7 (by simp only [qi];rfl) (by kernel_rfl) (by rfl) (by go_simp;first | done | rfl | exact ⟨⟨rfl,rfl⟩,rfl⟩ | exact ⟨⟨rfl,rfl,rfl⟩,rfl⟩) RA.out ?_;rintro _ wb ⟨bv,rfl,hbv,kb⟩;have HBV:Hid (Bytes wb (SinceB wa wb) bv bs):=qq (z0m hbv HRF.out.2);have KB2:Hid (Keeps Nb wr wb):=qq (KA2.out.trans_nb kb);clear hbv kb RA;replace HS:Hid ((fun u:World=>u.cell? ⟨b2,0,none⟩=some (.pointer (some ⟨l,0,none⟩)) /\ u.cell? ⟨l,0,none⟩=some (.pointer (some ⟨d,0,none⟩))) wb):=qq ⟨(cell_of_block (KB2.out.nb B2r.out)).trans rfl,(cell_of_block (KB2.out.nb Q1.out)).trans rfl⟩;refine ⟨_,rfl,HS.out,?_⟩;simp only [Nat.reduceAdd,qn];refine WT.t 8 (v:=_) (y:=by rintro w ⟨C1,C2⟩;go_simp;with_reducible rfl) (s:=HS.out) (h:=?_);refine WT.t 9 (v:=_) (y:=by rintro w ⟨C1,C2⟩;go_simp;with_reducible rfl) (s:=HS.out) (h:=?_);refine WT.t 10 (v:=_) (y:=by rintro w ⟨C1,C2⟩;go_simp;with_reducible rfl) (s:=HS.out) (h:=?_);refine WT.t 11 (v:=_) (y:=by rintro w ⟨C1,C2⟩;go_simp;with_reducible rfl) (s:=HS.out) (h:=?_);refine WT.stop (by kernel_rfl) ?_;refine WP.o 12 (v:=_) (y:=by go_simp;first | with_reducible rfl | exact ⟨rfl,rfl⟩) (h:=?_);refine WP.done (by kernel_rfl) ?_;obtain ⟨bva,bvc,rfl,-⟩:=id HBV.out;have WA:=qq (z5s _ bs _ wb HBV.out (fun _ e=>e.1.2) HRF.out.1);clear HS hck c6;go_wp2_with fail;refine WA.out.mono ?_;rintro _ wq ⟨lv4,vs4,rfl,r4,bl4,k4⟩;have hrw:=z45 HRF.out.2;have hil:=z39 (bs.length + 1) 0 bs;have hwl:(whole bs).1.length <= 2097153:=by
      have h1:(whole bs).1.length <= (items (bs.length + 1) 0 bs).length:=by unfold whole wholeI good;simp only [List.length_map];exact (List.takeWhile_sublist _).length_le
      have:=HRF.out.1;omega
     generalize hwo:whole bs=wo at r4 bl4 hrw hwl ⊢;obtain ⟨rs,wn,rt⟩:=wo;simp only at r4 bl4 hrw hwl ⊢;obtain ⟨p1,p2,a4',c4',rfl,p4,p5,p6,p7,p8⟩:=id r4;have R4:=qq r4;have BL4:=qq bl4;have HRW:=qq hrw;have HWL:=qq hwl;have HWO:=qq hwo;have K4:Hid (Keeps Nb wb wq):=qq k4;have KQ:Hid (Keeps Nb wr wq):=qq (KB2.out.trans_nb k4);obtain ⟨q,hq⟩:∃ q,bs.length=q:=⟨_,rfl⟩
     obtain ⟨r4n,hr4n⟩:∃ q,rs.length=q:=⟨_,rfl⟩
     have HQ:=qq hq;have HR4:=qq hr4n;rw [hq,hr4n];have hstep:rdl X ms L1 0=if rt=true /\ (q <= wn \/ rest=[]) then rdl X rest { Lk with recs:=Lk.recs ++ rs,segment:=n,size:=q } wn else none:=by
      rw [HRD.out,HDR.out,z5n,HRO.out];simp only;rw [hwo];simp only;rw [hq]
     have HST:=qq hstep;have HDq:=qq (KQ.out.nb HDr.out);have c2q:wq.cell? ⟨b2,0,none⟩=some (.pointer (some ⟨l,0,none⟩)):=(cell_of_block (KQ.out.nb B2r.out)).trans rfl;have c6q:wq.cell? ⟨b6,0,none⟩=some (.slice (some ⟨g,off,none⟩) m cn):=(cell_of_block (KQ.out.nb B6r.out)).trans rfl;have iw:IntKind.i64.wrap ((m:Int) - 1)=(m:Int) - 1:=IntWalk.i64_in _ (by have:=HN6.out;omega);have hbad:¬ (rt=true /\ (q <= wn \/ rest=[])) -> readR X L s none:=fun hb=>by
      unfold readR;rw [HSN.out];exact ⟨ms,HSG.out,by rw [hstep,if_neg hb];split <;> rfl⟩
     have HBAD:=qq hbad;have HRS2:=qq (HRS.out);clear hwo p1 p2 p4 p5 p6 p7 p8 r4 bl4 hrw hwl hil k4 hq hr4n hstep hbad WA c2;cases rt
     ·
      have HB:=qq (HBAD.out (fun e=>by simp at e));go_wp2;have kp:=zv wq w6.heap.size (.deferred none);have hle6:w.heap.size <= w6.heap.size:=by have:=G2.out;have:=G6.out;omega
      have KF:Hid (Keeps FL w (wq.putObj w6.heap.size (.deferred none))):=qq ((KWr.out.trans_nb KQ.out).trans kp (fun j hj e=>by have:j=w6.heap.size:=e;omega));have DF:Hid (DiskAt (wq.putObj w6.heap.size (.deferred none)) d Fd Rd X.D X.fc):=qq ((HLK.out.disk.nb KQ.out).keeps kp (fun j hj e=>by have:j=w6.heap.size:=e;have:=H.out.disk.ltF j hj;omega) (fun j hj e=>by have:j=w6.heap.size:=e;have:=H.out.disk.ltR j hj;omega));refine ⟨by simp,.inl ⟨_,_,rfl,run_takeDeferred HDq.out,?_⟩⟩;exact ⟨.tuple #[.int .i64 0,.int .i64 10],by simp [results,Tryz.f59,go_sem],none,HB.out,rfl,DF.out,KF.out⟩
     ·
      rcases Nat.lt_or_ge wn q with hwq | hwq
      ·
       rcases Nat.lt_or_ge (k + 1) m with hkm | hkm
       ·
        have HB:=qq (HBAD.out (fun e=>e.2.elim (fun e=>by omega) (fun e=>by have:=HRS2.out.1 e;omega)));have t1:decide ((k:Int) < (m:Int) - 1)=true:=by simp;omega
        have t2:(k:Int) < (m:Int) - 1:=by omega
        clear hkm;go_wp2;have kp:=zv wq w6.heap.size (.deferred none);have hle6:w.heap.size <= w6.heap.size:=by have:=G2.out;have:=G6.out;omega
        have KF:Hid (Keeps FL w (wq.putObj w6.heap.size (.deferred none))):=qq ((KWr.out.trans_nb KQ.out).trans kp (fun j hj e=>by have:j=w6.heap.size:=e;omega));have DF:Hid (DiskAt (wq.putObj w6.heap.size (.deferred none)) d Fd Rd X.D X.fc):=qq ((HLK.out.disk.nb KQ.out).keeps kp (fun j hj e=>by have:j=w6.heap.size:=e;have:=H.out.disk.ltF j hj;omega) (fun j hj e=>by have:j=w6.heap.size:=e;have:=H.out.disk.ltR j hj;omega));refine ⟨by simp,.inl ⟨_,_,rfl,run_takeDeferred HDq.out,?_⟩⟩;exact ⟨.tuple #[.int .i64 0,.int .i64 10],by simp [results,Tryz.f59,go_sem],none,HB.out,rfl,DF.out,KF.out⟩
       ·
        have t1:¬ ((k:Int) < (m:Int) - 1):=by omega
        have HOK:Hid (rdl X ms L1 0=rdl X (ms.drop (k + 1)) { Lk with recs:=Lk.recs ++ rs,segment:=n,size:=q } wn):=qq (by
         have hr:rest=[]:=HRS2.out.2 (by omega);rw [HST.out,if_pos ⟨rfl,.inr hr⟩];have:=congrArg (List.drop 1) HDR.out;rw [List.drop_drop] at this;simp at this
         rw [this])
        clear hkm;have c9:wq.cell? ⟨l,9,none⟩=some lv3:=(cell_of_block (KQ.out.nb Q1.out)).trans rfl;have HLQ:=qq (HLK.out.nb KQ.out);have R3:=qq (Q3.out.keeps KQ.out (fun _ _ _ e=>e));obtain ⟨-,p2,a4,c4,ea,p4,p5,p6,p7,p8⟩:=id R4.out;cases ea;have HAS4:=qq p6;have ONE4:=qq p2;have hvl:vs4.length=r4n:=by rw [BL4.out.1];exact HR4.out
        have HVL:=qq hvl;obtain ⟨lk,hlk⟩:∃ q,Lk.recs.length=q:=⟨_,rfl⟩
        have HLKN:=qq hlk;rw [hlk] at R3;have hkr:lk <= 2097153000000:=by have h1:=HKR.out;rw [hlk] at h1;have:=HN6.out;omega
        have hwl:r4n <= 2097153:=by have:=HWL.out;have:=HR4.out;omega
        clear p2 p4 p5 p6 p7 p8 hvl hlk;go_wp2;clear c6q;refine WT.region (fun u=>u.cell? ⟨b2,0,none⟩=some (.pointer (some ⟨l,0,none⟩)) /\ u.cell? ⟨l,9,none⟩=some lv3) 7 10 [0,1,2,3,4,5,6,7,8,9] (by kernel_rfl) rfl ?_;have HS:Hid ((fun u:World=>u.cell? ⟨b2,0,none⟩=some (.pointer (some ⟨l,0,none⟩)) /\ u.cell? ⟨l,9,none⟩=some lv3) wq.drew):=qq ⟨c2q,c9⟩;refine WT.t 0 (v:=.pointer (some ⟨l,0,none⟩)) (y:=by rintro w ⟨C1,C2⟩;exact zb (by kernel_rfl) (by rfl) C1) (s:=HS.out) (h:=?_);refine WT.t 1 (v:=.pointer (some ⟨l,0,none⟩)) (y:=by rintro w ⟨C1,C2⟩;exact zb (by kernel_rfl) (by rfl) C1) (s:=HS.out) (h:=?_);refine WT.t 2 (v:=_) (y:=by rintro w ⟨C1,C2⟩;go_simp;with_reducible rfl) (s:=HS.out) (h:=?_);refine WT.t 3 (v:=_) (y:=by rintro w ⟨C1,C2⟩;go_simp;with_reducible rfl) (s:=HS.out) (h:=?_);refine WT.t 4 (v:=lv3) (y:=by rintro w ⟨C1,C2⟩;exact zb (by kernel_rfl) (by rfl) C2) (s:=HS.out) (h:=?_);refine WT.t 5 (v:=_) (y:=by rintro w ⟨C1,C2⟩;go_simp;with_reducible rfl) (s:=HS.out) (h:=?_);refine WT.o 6 (y:=re_push' el27 (R3.out.keeps ((Keeps.refl Nb wq).drew) (fun _ _ _ e=>e)) (by rfl) (by rfl) (HAS4.out.nb ((Keeps.refl Nb wq).drew)) (by rw [HVL.out];omega) ONE4.out (by unfold maxLen;omega) (by omega)) (h:=?_);rintro lv5 w7 ⟨r5,S5,k5,hS5⟩;simp only [Nat.reduceAdd,qn];have kq7:Keeps S5 wq w7:=((Keeps.refl Nb wq).drew.of_nb).trans k5 (fun _ _ e=>e);have hS5':∀ k,S5 k -> FLk k /\ IsT wq 22 k:=hS5;have hnb2:¬ S5 b2:=fun e=>(HFK.out b2 (hS5' b2 e).1).elim HF.out.1 (fun e=>by have:=G2.out;have:=HZW.out;omega);have hnl:¬ S5 l:=fun e=>by have:=(hS5' l e).2;exact (this.ne ⟨_,_,KQ.out.nb Q1.out⟩ (by decide)) rfl
        have B27:=qq (kq7.at (KQ.out.nb B2r.out) hnb2);have Q17:=qq (kq7.at (KQ.out.nb Q1.out) hnl);have KQ7:=qq kq7;have HS5:=qq hS5';have R5:Hid (RowS w7 (Up FLk wq.drew w7) (fun _=>False) 22 1 lv5 (lk + r4n) (vs3 ++ vs4)):=qq r5;obtain ⟨-,-,a5,c5',rfl,-⟩:=id r5;clear kq7 hS5' hnb2 hnl r5 k5 hS5;replace HS:Hid ((fun u:World=>u.cell? ⟨b2,0,none⟩=some (.pointer (some ⟨l,0,none⟩)) /\ u.cell? ⟨l,9,none⟩=some lv3) w7):=qq ⟨(cell_of_block B27.out).trans rfl,(cell_of_block Q17.out).trans rfl⟩;refine ⟨HS.out,?_⟩;refine WT.stop (by kernel_rfl) ?_;refine WP.o 7 (v:=_) (y:=by go_simp;first | with_reducible rfl | exact ⟨rfl,rfl⟩) (h:=?_);refine WP.o 8 (v:=_) (y:=by go_simp;first | with_reducible rfl | exact ⟨rfl,rfl⟩) (h:=?_);refine WP.onlySkipE 9 (by simp only [qi];rfl) (by kernel_rfl) (by rfl) (zd (v:=.slice a5 (lk + r4n) c5') (n:=1) (by kernel_rfl) (by rfl) (by rfl) Q17.out (by rfl) (by simp [Value.cells,lcs]) (by simp [Value.cells,Value.oneCell'])) ?_;intro w8 s8;simp only [Nat.reduceAdd,qn];refine WP.done (by kernel_rfl) ?_;have B28:=qq (s8.k.at B27.out (fun e=>hb2l e));have S8:Hid (SetAt w7 w8 l (.cells (lcs d sv3 (.slice a5 (lk + r4n) c5') Lk) 78 (0,0))):=qq ⟨s8.blk,s8.k⟩;have c28:w8.cell? ⟨b2,0,none⟩=some (.pointer (some ⟨l,0,none⟩)):=(cell_of_block B28.out).trans rfl;clear s8 HS c2q c9;go_wp2;refine WT.region (fun u=>u.cell? ⟨b2,0,none⟩=some (.pointer (some ⟨l,0,none⟩))) 12 13 [0,1,2,3,4,5,6,7,8,9,10,11,12] (by kernel_rfl) rfl ?_;have HS:Hid ((fun u:World=>u.cell? ⟨b2,0,none⟩=some (.pointer (some ⟨l,0,none⟩))) w8.drew):=qq c28;refine WT.t 0 (v:=.pointer (some ⟨l,0,none⟩)) (y:=by rintro w C1;exact zb (by kernel_rfl) (by rfl) C1) (s:=HS.out) (h:=?_);refine WT.t 1 (v:=.pointer (some ⟨l,0,none⟩)) (y:=by rintro w C1;exact zb (by kernel_rfl) (by rfl) C1) (s:=HS.out) (h:=?_);refine WT.t 2 (v:=_) (y:=by rintro w C1;go_simp;with_reducible rfl) (s:=HS.out) (h:=?_);refine WT.t 3 (v:=_) (y:=by rintro w C1;go_simp;with_reducible rfl) (s:=HS.out) (h:=?_);refine WT.t 4 (v:=_) (y:=by rintro w C1;go_simp;with_reducible rfl) (s:=HS.out) (h:=?_);refine WT.t 5 (v:=_) (y:=by rintro w C1;go_simp;with_reducible rfl) (s:=HS.out) (h:=?_);refine WT.t 6 (v:=_) (y:=by rintro w C1;go_simp;with_reducible rfl) (s:=HS.out) (h:=?_);refine WT.t 7 (v:=_) (y:=by rintro w C1;go_simp;with_reducible rfl) (s:=HS.out) (h:=?_);refine WT.onlySkipE 8 (by simp only [qi];rfl) (by kernel_rfl) (by rfl) (zd (w:=w8.drew) (v:=.int .i64 (n:Nat)) (n:=1) (by kernel_rfl) (by rfl) (by rfl) S8.out.blk (by rfl) (by simp [Value.cells,lcs]) (by simp [Value.cells,Value.oneCell'])) ?_;intro w9 s9;have B29:=qq (s9.k.at (w:=w8.drew) B28.out (fun e=>hb2l e));have S9:Hid (SetAt w7 w9 l (.cells (lcs d sv3 (.slice a5 (lk + r4n) c5') { Lk with segment:=n }) 78 (0,0))):=qq ⟨s9.blk,(S8.out.k.drew).trans s9.k (fun _ _ e=>e)⟩;replace HS:Hid ((fun u:World=>u.cell? ⟨b2,0,none⟩=some (.pointer (some ⟨l,0,none⟩))) w9):=qq ((cell_of_block B29.out).trans rfl);refine ⟨HS.out,?_⟩;simp only [Nat.reduceAdd,qn];clear s9;refine WT.t 9 (v:=_) (y:=by rintro w C1;go_simp;with_reducible rfl) (s:=HS.out) (h:=?_);refine WT.t 10 (v:=_) (y:=by rintro w C1;go_simp;with_reducible rfl) (s:=HS.out) (h:=?_);refine WT.onlySkipE 11 (by simp only [qi];rfl) (by kernel_rfl) (by rfl) (zd (v:=.int .i64 (q:Nat)) (n:=1) (by kernel_rfl) (by rfl) (by rfl) S9.out.blk (by rfl) (by simp [Value.cells,lcs]) (by simp [Value.cells,Value.oneCell'])) ?_;intro w10 s10;have S10:Hid (SetAt w7 w10 l (.cells (lcs d sv3 (.slice a5 (lk + r4n) c5') { Lk with recs:=Lk.recs ++ rs,segment:=n,size:=q }) 78 (0,0))):=qq ⟨s10.blk,S9.out.k.trans s10.k (fun _ _ e=>e)⟩;replace HS:Hid ((fun u:World=>u.cell? ⟨b2,0,none⟩=some (.pointer (some ⟨l,0,none⟩))) w10):=qq ((cell_of_block (s10.k.at B29.out (fun e=>hb2l e))).trans rfl);refine ⟨HS.out,?_⟩;simp only [Nat.reduceAdd,qn];clear s10;refine WT.stop (by kernel_rfl) ?_;refine WP.o 12 (v:=_) (y:=by go_simp;first | with_reducible rfl | exact ⟨rfl,rfl⟩) (h:=?_);refine WP.done (by kernel_rfl) ?_;have hI:ReadI X ms W1 l d Fd Rd FL1 RL1 L1 (k + 1) { Lk with recs:=Lk.recs ++ rs,segment:=n,size:=q } wn w10:=by
         have z1:=KK.out.size;have z2:=KQ.out.size;have z3:=KQ7.out.size;have z4:=KB2.out.size;have hRS:∀ k,RLk k -> ¬ S5 k:=fun k hk e=>(HLK.out.apR k hk).2 (HS5.out k e).1;have hSB:∀ k,SinceB wb wq k -> ¬ S5 k:=fun k hk e=>(hk.2.ne (HS5.out k e).2 (by decide)) rfl;refine ⟨⟨_,_,LgAt.put (w0:=wr) (vs:=vs3 ++ vs4) HLK.out (by omega) ((HLK.out.disk.nb KQ.out).keeps KQ7.out (fun k hk e=>(HLK.out.apF k (HS5.out k e).1).1 hk) (fun k hk e=>(HLK.out.apF k (HS5.out k e).1).2 hk)) ⟨_,Q17.out⟩ S10.out ?_ (by have:=h6.out;have:=KWr.out.size;omega) ?_ ?_ ?_ ?_,?_,?_,?_⟩,HOK.out,HKN.out,?_⟩
         ·
          rintro k (e | e | e | e)
          ·exact HLK.out.disk.ltF k e
          ·exact HLK.out.disk.ltR k e
          ·exact HLK.out.ltF k e
          ·exact HLK.out.ltR k e
         ·have hh:=HLK.out.nums;exact ⟨hh.name,hh.n16,hh.most,hh.first,(by have:=hnm;unfold mxn at this;exact Nat.le_trans this (by decide)),hh.segments,(by have:=HRF.out.1;have:=HQ.out;show q <= 33554432;omega),hh.recs.append HRW.out,(by show (Lk.recs ++ rs).length <= _;rw [List.length_append,HLKN.out,HR4.out];omega),hh.snap⟩
         ·exact (Q2.out.keeps KQ.out (fun _ _ e=>e)).keeps KQ7.out hRS |>.mono (fun k e=>.inl e)
         ·
          have e1:(Lk.recs ++ rs).length=lk + r4n:=by rw [List.length_append,HLKN.out,HR4.out]
          show RowS w7 _ _ 22 1 _ (Lk.recs ++ rs).length _;rw [e1];refine R5.out.typed.mono (fun k e=>?_) (fun _ e=>e);rcases e with ⟨e | e,ht⟩
          ·exact .inl e
          ·have e1:wq.heap.size <= k:=e.1;exact .inr ⟨by omega,e.2,ht⟩
         ·exact (((Q4.out.keeps KQ.out (fun _ _ e=>e)).keeps KQ7.out hRS).mono (fun k e=>.inl e)).append ((BL4.out.keeps KQ7.out hSB).mono (fun k e=>.inr ⟨by have:=e.1.1;omega,by have:=e.1.2;omega,e.2.keeps KQ7.out (hSB k e)⟩))
         ·
          rintro k (e | e)
          ·exact HFK.out k e
          ·exact .inr (by omega)
         ·
          rintro k (e | e)
          ·exact HRK.out k e
          ·exact .inr (by omega)
         ·exact ((KK.out.trans_nb KQ.out).trans KQ7.out (fun j hj e=>(HFK.out j (HS5.out j e).1).elim id (fun e=>by omega))).trans S10.out.k (fun j hj e=>by have e:j=l:=e;subst e;exact HW1.out.fl)
         ·show (Lk.recs ++ rs).length <= _;rw [List.length_append,HLKN.out,HR4.out];have:=HKR.out;rw [HLKN.out] at this;omega
        have HI:=qq hI;clear hI HS c28;have hk6:k <= 1000000:=by have:=HN6.out;have:=HLT.out;omega
        go_wp2;go_roundw
        case rel=>exact ⟨k + 1,_,wn,HLT.out,rfl,by go_num,HI.out⟩
        case measure=>have hlt2:=HLT.out;simp [intOf];omega
      ·
       have HOK:Hid (rdl X ms L1 0=rdl X (ms.drop (k + 1)) { Lk with recs:=Lk.recs ++ rs,segment:=n,size:=q } wn):=qq (by
        rw [HST.out,if_pos ⟨rfl,.inl hwq⟩];have:=congrArg (List.drop 1) HDR.out;rw [List.drop_drop] at this;simp at this
        rw [this])
       have c9:wq.cell? ⟨l,9,none⟩=some lv3:=(cell_of_block (KQ.out.nb Q1.out)).trans rfl;have HLQ:=qq (HLK.out.nb KQ.out);have R3:=qq (Q3.out.keeps KQ.out (fun _ _ _ e=>e));obtain ⟨-,p2,a4,c4,ea,p4,p5,p6,p7,p8⟩:=id R4.out;cases ea;have HAS4:=qq p6;have ONE4:=qq p2;have hvl:vs4.length=r4n:=by rw [BL4.out.1];exact HR4.out
       have HVL:=qq hvl;obtain ⟨lk,hlk⟩:∃ q,Lk.recs.length=q:=⟨_,rfl⟩
       have HLKN:=qq hlk;rw [hlk] at R3;have hkr:lk <= 2097153000000:=by have h1:=HKR.out;rw [hlk] at h1;have:=HN6.out;omega
       have hwl:r4n <= 2097153:=by have:=HWL.out;have:=HR4.out;omega
       clear p2 p4 p5 p6 p7 p8 hvl hlk;go_wp2;clear c6q;refine WT.region (fun u=>u.cell? ⟨b2,0,none⟩=some (.pointer (some ⟨l,0,none⟩)) /\ u.cell? ⟨l,9,none⟩=some lv3) 7 10 [0,1,2,3,4,5,6,7,8,9] (by kernel_rfl) rfl ?_;have HS:Hid ((fun u:World=>u.cell? ⟨b2,0,none⟩=some (.pointer (some ⟨l,0,none⟩)) /\ u.cell? ⟨l,9,none⟩=some lv3) wq.drew):=qq ⟨c2q,c9⟩;refine WT.t 0 (v:=.pointer (some ⟨l,0,none⟩)) (y:=by rintro w ⟨C1,C2⟩;exact zb (by kernel_rfl) (by rfl) C1) (s:=HS.out) (h:=?_);refine WT.t 1 (v:=.pointer (some ⟨l,0,none⟩)) (y:=by rintro w ⟨C1,C2⟩;exact zb (by kernel_rfl) (by rfl) C1) (s:=HS.out) (h:=?_);refine WT.t 2 (v:=_) (y:=by rintro w ⟨C1,C2⟩;go_simp;with_reducible rfl) (s:=HS.out) (h:=?_);refine WT.t 3 (v:=_) (y:=by rintro w ⟨C1,C2⟩;go_simp;with_reducible rfl) (s:=HS.out) (h:=?_);refine WT.t 4 (v:=lv3) (y:=by rintro w ⟨C1,C2⟩;exact zb (by kernel_rfl) (by rfl) C2) (s:=HS.out) (h:=?_);refine WT.t 5 (v:=_) (y:=by rintro w ⟨C1,C2⟩;go_simp;with_reducible rfl) (s:=HS.out) (h:=?_);refine WT.o 6 (y:=re_push' el27 (R3.out.keeps ((Keeps.refl Nb wq).drew) (fun _ _ _ e=>e)) (by rfl) (by rfl) (HAS4.out.nb ((Keeps.refl Nb wq).drew)) (by rw [HVL.out];omega) ONE4.out (by unfold maxLen;omega) (by omega)) (h:=?_);rintro lv5 w7 ⟨r5,S5,k5,hS5⟩;simp only [Nat.reduceAdd,qn];have kq7:Keeps S5 wq w7:=((Keeps.refl Nb wq).drew.of_nb).trans k5 (fun _ _ e=>e);have hS5':∀ k,S5 k -> FLk k /\ IsT wq 22 k:=hS5;have hnb2:¬ S5 b2:=fun e=>(HFK.out b2 (hS5' b2 e).1).elim HF.out.1 (fun e=>by have:=G2.out;have:=HZW.out;omega);have hnl:¬ S5 l:=fun e=>by have:=(hS5' l e).2;exact (this.ne ⟨_,_,KQ.out.nb Q1.out⟩ (by decide)) rfl
       have B27:=qq (kq7.at (KQ.out.nb B2r.out) hnb2);have Q17:=qq (kq7.at (KQ.out.nb Q1.out) hnl);have KQ7:=qq kq7;have HS5:=qq hS5';have R5:Hid (RowS w7 (Up FLk wq.drew w7) (fun _=>False) 22 1 lv5 (lk + r4n) (vs3 ++ vs4)):=qq r5;obtain ⟨-,-,a5,c5',rfl,-⟩:=id r5;clear kq7 hS5' hnb2 hnl r5 k5 hS5;replace HS:Hid ((fun u:World=>u.cell? ⟨b2,0,none⟩=some (.pointer (some ⟨l,0,none⟩)) /\ u.cell? ⟨l,9,none⟩=some lv3) w7):=qq ⟨(cell_of_block B27.out).trans rfl,(cell_of_block Q17.out).trans rfl⟩;refine ⟨HS.out,?_⟩;refine WT.stop (by kernel_rfl) ?_;refine WP.o 7 (v:=_) (y:=by go_simp;first | with_reducible rfl | exact ⟨rfl,rfl⟩) (h:=?_);refine WP.o 8 (v:=_) (y:=by go_simp;first | with_reducible rfl | exact ⟨rfl,rfl⟩) (h:=?_);refine WP.onlySkipE 9 (by simp only [qi];rfl) (by kernel_rfl) (by rfl) (zd (v:=.slice a5 (lk + r4n) c5') (n:=1) (by kernel_rfl) (by rfl) (by rfl) Q17.out (by rfl) (by simp [Value.cells,lcs]) (by simp [Value.cells,Value.oneCell'])) ?_;intro w8 s8;simp only [Nat.reduceAdd,qn];refine WP.done (by kernel_rfl) ?_;have B28:=qq (s8.k.at B27.out (fun e=>hb2l e));have S8:Hid (SetAt w7 w8 l (.cells (lcs d sv3 (.slice a5 (lk + r4n) c5') Lk) 78 (0,0))):=qq ⟨s8.blk,s8.k⟩;have c28:w8.cell? ⟨b2,0,none⟩=some (.pointer (some ⟨l,0,none⟩)):=(cell_of_block B28.out).trans rfl;clear s8 HS c2q c9;go_wp2;refine WT.region (fun u=>u.cell? ⟨b2,0,none⟩=some (.pointer (some ⟨l,0,none⟩))) 12 13 [0,1,2,3,4,5,6,7,8,9,10,11,12] (by kernel_rfl) rfl ?_;have HS:Hid ((fun u:World=>u.cell? ⟨b2,0,none⟩=some (.pointer (some ⟨l,0,none⟩))) w8.drew):=qq c28;refine WT.t 0 (v:=.pointer (some ⟨l,0,none⟩)) (y:=by rintro w C1;exact zb (by kernel_rfl) (by rfl) C1) (s:=HS.out) (h:=?_);refine WT.t 1 (v:=.pointer (some ⟨l,0,none⟩)) (y:=by rintro w C1;exact zb (by kernel_rfl) (by rfl) C1) (s:=HS.out) (h:=?_);refine WT.t 2 (v:=_) (y:=by rintro w C1;go_simp;with_reducible rfl) (s:=HS.out) (h:=?_);refine WT.t 3 (v:=_) (y:=by rintro w C1;go_simp;with_reducible rfl) (s:=HS.out) (h:=?_);refine WT.t 4 (v:=_) (y:=by rintro w C1;go_simp;with_reducible rfl) (s:=HS.out) (h:=?_);refine WT.t 5 (v:=_) (y:=by rintro w C1;go_simp;with_reducible rfl) (s:=HS.out) (h:=?_);refine WT.t 6 (v:=_) (y:=by rintro w C1;go_simp;with_reducible rfl) (s:=HS.out) (h:=?_);refine WT.t 7 (v:=_) (y:=by rintro w C1;go_simp;with_reducible rfl) (s:=HS.out) (h:=?_);refine WT.onlySkipE 8 (by simp only [qi];rfl) (by kernel_rfl) (by rfl) (zd (w:=w8.drew) (v:=.int .i64 (n:Nat)) (n:=1) (by kernel_rfl) (by rfl) (by rfl) S8.out.blk (by rfl) (by simp [Value.cells,lcs]) (by simp [Value.cells,Value.oneCell'])) ?_;intro w9 s9;have B29:=qq (s9.k.at (w:=w8.drew) B28.out (fun e=>hb2l e));have S9:Hid (SetAt w7 w9 l (.cells (lcs d sv3 (.slice a5 (lk + r4n) c5') { Lk with segment:=n }) 78 (0,0))):=qq ⟨s9.blk,(S8.out.k.drew).trans s9.k (fun _ _ e=>e)⟩;replace HS:Hid ((fun u:World=>u.cell? ⟨b2,0,none⟩=some (.pointer (some ⟨l,0,none⟩))) w9):=qq ((cell_of_block B29.out).trans rfl);refine ⟨HS.out,?_⟩;simp only [Nat.reduceAdd,qn];clear s9;refine WT.t 9 (v:=_) (y:=by rintro w C1;go_simp;with_reducible rfl) (s:=HS.out) (h:=?_);refine WT.t 10 (v:=_) (y:=by rintro w C1;go_simp;with_reducible rfl) (s:=HS.out) (h:=?_);refine WT.onlySkipE 11 (by simp only [qi];rfl) (by kernel_rfl) (by rfl) (zd (v:=.int .i64 (q:Nat)) (n:=1) (by kernel_rfl) (by rfl) (by rfl) S9.out.blk (by rfl) (by simp [Value.cells,lcs]) (by simp [Value.cells,Value.oneCell'])) ?_;intro w10 s10;have S10:Hid (SetAt w7 w10 l (.cells (lcs d sv3 (.slice a5 (lk + r4n) c5') { Lk with recs:=Lk.recs ++ rs,segment:=n,size:=q }) 78 (0,0))):=qq ⟨s10.blk,S9.out.k.trans s10.k (fun _ _ e=>e)⟩;replace HS:Hid ((fun u:World=>u.cell? ⟨b2,0,none⟩=some (.pointer (some ⟨l,0,none⟩))) w10):=qq ((cell_of_block (s10.k.at B29.out (fun e=>hb2l e))).trans rfl);refine ⟨HS.out,?_⟩;simp only [Nat.reduceAdd,qn];clear s10;refine WT.stop (by kernel_rfl) ?_;refine WP.o 12 (v:=_) (y:=by go_simp;first | with_reducible rfl | exact ⟨rfl,rfl⟩) (h:=?_);refine WP.done (by kernel_rfl) ?_;have hI:ReadI X ms W1 l d Fd Rd FL1 RL1 L1 (k + 1) { Lk with recs:=Lk.recs ++ rs,segment:=n,size:=q } wn w10:=by
        have z1:=KK.out.size;have z2:=KQ.out.size;have z3:=KQ7.out.size;have z4:=KB2.out.size;have hRS:∀ k,RLk k -> ¬ S5 k:=fun k hk e=>(HLK.out.apR k hk).2 (HS5.out k e).1;have hSB:∀ k,SinceB wb wq k -> ¬ S5 k:=fun k hk e=>(hk.2.ne (HS5.out k e).2 (by decide)) rfl;refine ⟨⟨_,_,LgAt.put (w0:=wr) (vs:=vs3 ++ vs4) HLK.out (by omega) ((HLK.out.disk.nb KQ.out).keeps KQ7.out (fun k hk e=>(HLK.out.apF k (HS5.out k e).1).1 hk) (fun k hk e=>(HLK.out.apF k (HS5.out k e).1).2 hk)) ⟨_,Q17.out⟩ S10.out ?_ (by have:=h6.out;have:=KWr.out.size;omega) ?_ ?_ ?_ ?_,?_,?_,?_⟩,HOK.out,HKN.out,?_⟩
        ·
         rintro k (e | e | e | e)
         ·exact HLK.out.disk.ltF k e
         ·exact HLK.out.disk.ltR k e
         ·exact HLK.out.ltF k e
         ·exact HLK.out.ltR k e
        ·have hh:=HLK.out.nums;exact ⟨hh.name,hh.n16,hh.most,hh.first,(by have:=hnm;unfold mxn at this;exact Nat.le_trans this (by decide)),hh.segments,(by have:=HRF.out.1;have:=HQ.out;show q <= 33554432;omega),hh.recs.append HRW.out,(by show (Lk.recs ++ rs).length <= _;rw [List.length_append,HLKN.out,HR4.out];omega),hh.snap⟩
        ·exact (Q2.out.keeps KQ.out (fun _ _ e=>e)).keeps KQ7.out hRS |>.mono (fun k e=>.inl e)
        ·
         have e1:(Lk.recs ++ rs).length=lk + r4n:=by rw [List.length_append,HLKN.out,HR4.out]
         show RowS w7 _ _ 22 1 _ (Lk.recs ++ rs).length _;rw [e1];refine R5.out.typed.mono (fun k e=>?_) (fun _ e=>e);rcases e with ⟨e | e,ht⟩
         ·exact .inl e
         ·have e1:wq.heap.size <= k:=e.1;exact .inr ⟨by omega,e.2,ht⟩
        ·exact (((Q4.out.keeps KQ.out (fun _ _ e=>e)).keeps KQ7.out hRS).mono (fun k e=>.inl e)).append ((BL4.out.keeps KQ7.out hSB).mono (fun k e=>.inr ⟨by have:=e.1.1;omega,by have:=e.1.2;omega,e.2.keeps KQ7.out (hSB k e)⟩))
        ·
         rintro k (e | e)
         ·exact HFK.out k e
         ·exact .inr (by omega)
        ·
         rintro k (e | e)
         ·exact HRK.out k e
         ·exact .inr (by omega)
        ·exact ((KK.out.trans_nb KQ.out).trans KQ7.out (fun j hj e=>(HFK.out j (HS5.out j e).1).elim id (fun e=>by omega))).trans S10.out.k (fun j hj e=>by have e:j=l:=e;subst e;exact HW1.out.fl)
        ·show (Lk.recs ++ rs).length <= _;rw [List.length_append,HLKN.out,HR4.out];have:=HKR.out;rw [HLKN.out] at this;omega
       have HI:=qq hI;clear hI HS c28;have hk6:k <= 1000000:=by have:=HN6.out;have:=HLT.out;omega
       go_wp2;go_roundw
       case rel=>exact ⟨k + 1,_,wn,HLT.out,rfl,by go_num,HI.out⟩
       case measure=>have hlt2:=HLT.out;simp [intOf];omega
    ·
     obtain rfl:k=m:=by omega
     obtain ⟨sv3,lv3,vs3,q1,q2,q3,q4⟩:=HLK.out.ex;have Q1:=qq q1;have Q3:=qq q3;have Q4:=qq q4;have Q2:=qq q2;clear q1 q2 q3 q4;go_wp2_with (first | go_skip | (with_reducible refine qv (by decide) ?_))
     refine za (zc rfl (zd (v:=.int .i64 (k:Nat)) (n:=1) (by kernel_rfl) (by rfl) (by rfl) Q1.out (by rfl) (by simp [Value.cells,lcs]) (by simp [Value.cells,Value.oneCell'])) ?_);intro w7 s7;simp only [Nat.reduceAdd,qn];have hlr:rdl X ms L1 0=some (Lk,en):=by
      rw [HRD.out,List.drop_of_length_le (by rw [HML.out];exact Nat.le_refl _)];rfl
     have c26:w7.cell? ⟨b6,0,none⟩=some (.slice an k cn):=(cell_of_block (s7.k.at B6r.out (fun e=>by have:=G2.out;have:=G6.out;omega))).trans rfl;have HD7:=qq (s7.k.at HDr.out (fun e=>by have:=G2.out;have:=G6.out;omega));have hmg:LgAt w7 l d Fd Rd (fun j=>FLk j \/ (wr.heap.size <= j /\ j < wr.heap.size /\ IsT wr 22 j)) (fun j=>RLk j \/ (wr.heap.size <= j /\ j < wr.heap.size /\ IsT wr 5 j)) { Lk with segments:=k } X:=by
      have hh:=HLK.out.nums;refine LgAt.put (w0:=wr) (vs:=vs3) HLK.out (Nat.le_refl _) HLK.out.disk ⟨_,Q1.out⟩ (sv:=sv3) (lv:=lv3) ⟨s7.blk,s7.k⟩ ?_ (by have:=h6.out;have:=KWr.out.size;omega) ⟨hh.name,hh.n16,hh.most,hh.first,hh.segment,HN6.out,hh.size,hh.recs,hh.nrec,hh.snap⟩ (Q2.out.mono fun j e=>.inl e) (Q3.out.mono (fun j e=>.inl e) (fun _ e=>e)) (Q4.out.mono fun j e=>.inl e);rintro j (e | e | e | e)
      ·exact HLK.out.disk.ltF j e
      ·exact HLK.out.disk.ltR j e
      ·exact HLK.out.ltF j e
      ·exact HLK.out.ltR j e
     have HMG:=qq hmg;have HLR:=qq hlr;have S7:=qq s7.k;have hle6:w.heap.size <= w6.heap.size:=by have:=G2.out;have:=G6.out;omega
     have kp:=zv w7 w6.heap.size (.deferred none);have KWW:Hid (Keeps FL w (w7.putObj w6.heap.size (.deferred none))):=qq ((KWr.out.trans s7.k (fun j hj e=>by have e:j=l:=e;subst e;exact H.out.fl)).trans kp (fun j hj e=>by have:j=w6.heap.size:=e;omega))
     have ncl:Hid (∀ j,(Fd j \/ Rd j \/ (FLk j \/ (wr.heap.size <= j /\ j < wr.heap.size /\ IsT wr 22 j)) \/ (RLk j \/ (wr.heap.size <= j /\ j < wr.heap.size /\ IsT wr 5 j))) -> ¬ j=w6.heap.size):=qq (fun j e h=>by
      have hz1:=HZW.out.2;rcases e with e | e | (e | e) | (e | e)
      ·have:=H.out.disk.ltF j e;omega
      ·have:=H.out.disk.ltR j e;omega
      ·
       rcases HFK.out j e with e | e
       ·have:=ltA.out j (.inr (.inr (.inl e)));have:=G6.out;omega
       ·omega
      ·omega
      ·
       rcases HRK.out j e with e | e
       ·have:=ltA.out j (.inr (.inr (.inr e)));have:=G6.out;omega
       ·omega
      ·omega)
     have HG2:Hid (LgAt (w7.putObj w6.heap.size (.deferred none)) l d Fd Rd (fun j=>FLk j \/ (wr.heap.size <= j /\ j < wr.heap.size /\ IsT wr 22 j)) (fun j=>RLk j \/ (wr.heap.size <= j /\ j < wr.heap.size /\ IsT wr 5 j)) { Lk with segments:=k } X):=qq (hmg.keeps kp (fun j e=>ncl.out j (.inl e)) (fun j e=>ncl.out j (.inr (.inl e))) (fun j e=>ncl.out j (.inr (.inr (.inl e)))) (fun j e=>ncl.out j (.inr (.inr (.inr e)))));clear s7 hlr hmg kp c2 c6;by_cases hk0:k=0
     ·
      have HR:Hid (readR X L s none):=qq (by
       unfold readR;rw [HSN.out]
       exact ⟨ms,HSG.out,by rw [if_pos (List.length_eq_zero_iff.1 (by rw [HML.out];exact hk0))]⟩)
      subst hk0;go_wp2;refine ⟨by simp,.inl ⟨_,_,rfl,run_takeDeferred HD7.out,?_⟩⟩;exact ⟨.tuple #[.int .i64 0,.int .i64 10],by simp [results,Tryz.f59,go_sem],none,HR.out,rfl,HG2.out.disk,KWW.out⟩
     ·
      have HR:Hid (readR X L s (some ({ Lk with segments:=k },en))):=qq (by
       unfold readR;rw [HSN.out];refine ⟨ms,HSG.out,?_⟩
       rw [if_neg (fun e=>hk0 (by rw [<- HML.out,e];rfl)),HLR.out,HML.out];rfl)
      have HU:Hid (LUp w (w7.putObj w6.heap.size (.deferred none)) l d Fd Rd FL RL { Lk with segments:=k } X):=qq (by
       refine ⟨_,_,HG2.out,?_,?_,KWW.out⟩
       ·
        have hz:=KWr.out.size;have hz1:=KW1.out.size;rintro j (e | e)
        ·
         rcases HFK.out j e with e | e
         ·exact (HFL1.out j e).imp id (fun e=>by have:=G2.out;omega)
         ·exact .inr (by omega)
        ·omega
       ·
        have hz:=KWr.out.size;have hz1:=KW1.out.size;rintro j (e | e)
        ·
         rcases HRK.out j e with e | e
         ·exact (HRL1.out j e).imp id (fun e=>by have:=G2.out;omega)
         ·exact .inr (by omega)
        ·omega)
      have t1:((k:Int) == 0)=false:=by simpa using hk0
      clear hk0;go_wp2;refine ⟨by simp,.inl ⟨_,_,rfl,run_takeDeferred HD7.out,?_⟩⟩;exact ⟨.tuple #[.int .i64 (en:Nat),.int .i64 0],by simp [results,Tryz.f59,go_sem],_,HR.out,rfl,HU.out⟩
 ·
  have t0:decide (0 < (s:Int))=true:=by simp;omega
  have c2:w1.cell? ⟨b2,0,none⟩=some (.pointer (some ⟨l,0,none⟩)):=(cell_of_block B2.out).trans rfl;obtain ⟨sv,lv,vs,e1,e2,e3,e4⟩:=H1.out.ex;have E1:=qq e1;have E3:=qq e3;have E4:=qq e4;clear e1 e2 e3 e4;go_wp2;refine WT.region (fun u=>u.cell? ⟨b2,0,none⟩=some (.pointer (some ⟨l,0,none⟩))) 13 16 [0,1,2,3,4,5,6,7,8,9,10,11,12,13,14,15] (by kernel_rfl) rfl ?_;have HS:Hid ((fun u:World=>u.cell? ⟨b2,0,none⟩=some (.pointer (some ⟨l,0,none⟩))) w1.drew):=qq c2;have SA:=qq (z3q l L.name s w1.drew (HV.out.nb (K1.out.drew)) ((cell_of_block (w:=w1.drew) E1.out).trans rfl) (by have:=H.out.nums.n16;omega) (by unfold mxn at hs;omega));refine WT.t 0 (v:=.pointer (some ⟨l,0,none⟩)) (y:=by rintro w C1;exact zb (by kernel_rfl) (by rfl) C1) (s:=HS.out) (h:=?_);refine WT.t 1 (v:=.pointer (some ⟨l,0,none⟩)) (y:=by rintro w C1;exact zb (by kernel_rfl) (by rfl) C1) (s:=HS.out) (h:=?_);refine WT.t 2 (v:=.pointer (some ⟨l,0,none⟩)) (y:=by rintro w C1;exact zb (by kernel_rfl) (by rfl) C1) (s:=HS.out) (h:=?_);refine WT.t 3 (v:=.pointer (some ⟨l,0,none⟩)) (y:=by rintro w C1;exact zb (by kernel_rfl) (by rfl) C1) (s:=HS.out) (h:=?_);refine WT.t 4 (v:=_) (y:=by rintro w C1;go_simp;with_reducible rfl) (s:=HS.out) (h:=?_);refine WT.call 5 (by simp only [qi];rfl) (by kernel_rfl) (by rfl) (by go_simp;first | done | rfl | exact ⟨⟨rfl,rfl⟩,rfl⟩ | exact ⟨⟨rfl,rfl,rfl⟩,rfl⟩) SA.out ?_;rintro _ w2 ⟨rfl,k2⟩;have K2:Hid (Keeps Nb w1 w2):=qq (((Keeps.refl Nb w1).drew).trans_nb k2);clear k2 SA;replace HS:Hid ((fun u:World=>u.cell? ⟨b2,0,none⟩=some (.pointer (some ⟨l,0,none⟩))) w2):=qq ((cell_of_block (K2.out.nb B2.out)).trans rfl);refine ⟨_,rfl,HS.out,?_⟩;simp only [Nat.reduceAdd,qn];have OA:=qq (zcy l d (snf L.name s) X Fd Rd w2 ((H1.out.nb K2.out).disk) ((cell_of_block (K2.out.nb E1.out)).trans rfl) (by have:=z0z (z55 H.out.nums.name H.out.nums.n16 hs);unfold maxLen;omega));refine WT.call 6 (by simp only [qi];rfl) (by kernel_rfl) (by rfl) (by go_simp;first | done | rfl | exact ⟨⟨rfl,rfl⟩,rfl⟩ | exact ⟨⟨rfl,rfl,rfl⟩,rfl⟩) OA.out ?_;rintro e3' w3 ⟨ho,k3⟩;have K3:Hid (Keeps Nb w1 w3):=qq (K2.out.trans_nb k3);obtain ⟨v,b,ok,rfl,hb,hbl⟩:∃ v b ok,e3'=.returned (.tuple #[v,.bool ok]) /\ Bytes w3 (SinceB w2 w3) v b /\ ((ok=false /\ oneR X (snf L.name s)=none) \/ (ok=true /\ oneR X (snf L.name s)=some b /\ b.length <= mxr)):=by
   have hby:=(z18 H.out.disk (snf L.name s)).2;cases hor:oneR X (snf L.name s) with
   | none =>
    rw [hor] at ho;exact ⟨_,[],false,ho,Bytes.nil _ _,.inl ⟨rfl,rfl⟩⟩
   | some b =>
    rw [hor] at ho;obtain ⟨v,ho,hb⟩:=ho;exact ⟨v,b,true,ho,hb,.inr ⟨rfl,rfl,(z8r hby hor).1⟩⟩
  clear ho OA k3;replace HS:Hid ((fun u:World=>u.cell? ⟨b2,0,none⟩=some (.pointer (some ⟨l,0,none⟩))) w3):=qq ((cell_of_block (K3.out.nb B2.out)).trans rfl);refine ⟨_,rfl,HS.out,?_⟩;simp only [Nat.reduceAdd,qn];refine WT.t 7 (v:=_) (y:=by rintro w C1;go_simp;with_reducible rfl) (s:=HS.out) (h:=?_);refine WT.t 8 (v:=_) (y:=by rintro w C1;go_simp;with_reducible rfl) (s:=HS.out) (h:=?_);refine WT.t 9 (v:=_) (y:=by rintro w C1;go_simp;with_reducible rfl) (s:=HS.out) (h:=?_);refine WT.t 10 (v:=_) (y:=by rintro w C1;go_simp;with_reducible rfl) (s:=HS.out) (h:=?_);refine WT.t 11 (v:=_) (y:=by rintro w C1;go_simp;with_reducible rfl) (s:=HS.out) (h:=?_);obtain ⟨av,cv,rfl,-⟩:=id hb;have HB:=qq hb;have HBL:=qq hbl;clear hb hbl;refine WT.onlySkipE 12 (by simp only [qi];rfl) (by kernel_rfl) (by rfl) (zd (v:=.slice av b.length cv) (n:=1) (by kernel_rfl) (by rfl) (by rfl) (K3.out.nb E1.out) (by rfl) (by simp [Value.cells,lcs]) (by simp [Value.cells,Value.oneCell'])) ?_;intro w4 s4;have hne:b2 ≠ l:=fun e=>by have:=H.out.ltF l H.out.fl;have:=G2.out.1;omega
  replace HS:Hid ((fun u:World=>u.cell? ⟨b2,0,none⟩=some (.pointer (some ⟨l,0,none⟩))) w4):=qq ((cell_of_block (s4.k.at (K3.out.nb B2.out) hne)).trans rfl);refine ⟨HS.out,?_⟩;simp only [Nat.reduceAdd,qn];refine WT.stop (by kernel_rfl) ?_;refine WP.o 13 (v:=_) (y:=by go_simp;first | with_reducible rfl | exact ⟨rfl,rfl⟩) (h:=?_);refine WP.o 14 (v:=_) (y:=by go_simp;first | with_reducible rfl | exact ⟨rfl,rfl⟩) (h:=?_);refine WP.onlySkipE 15 (by simp only [qi];rfl) (by kernel_rfl) (by rfl) (zd (v:=.bool ok) (n:=1) (by kernel_rfl) (by rfl) (by rfl) s4.blk (by rfl) (by simp [Value.cells,lcs,splice]) (by simp [Value.cells,Value.oneCell'])) ?_;intro w5 s5;simp only [Nat.reduceAdd,qn];refine WP.done (by kernel_rfl) ?_;have S5:SetAt w3 w5 l (.cells (lcs d (.slice av b.length cv) lv { L with snap:=b,has:=ok }) 78 (0,0)):=⟨s5.blk,s4.k.trans s5.k (fun _ _ e=>e)⟩
  have B5:=qq (S5.k.at (K3.out.nb B2.out) hne);have c5:w5.cell? ⟨b2,0,none⟩=some (.pointer (some ⟨l,0,none⟩)):=(cell_of_block B5.out).trans rfl;have c5':w5.cell? ⟨l,8,none⟩=some (.bool ok):=(cell_of_block S5.blk).trans rfl;have HS5:=qq S5;clear s4 s5 S5 HS;rcases HBL.out with ⟨rfl,hno⟩ | ⟨rfl,hyes,hlen⟩
  ·have HR:Hid (readR X L s none):=qq (by unfold readR snapR;rw [if_neg h0,hno];rfl);have KF:Hid (Keeps FL w w5):=qq (((K1.out.trans_nb K3.out).of_nb).trans HS5.out.k (fun j _ e=>by have e:j=l:=e;subst e;exact H.out.fl));have HD:Hid (DiskAt w5 d Fd Rd X.D X.fc):=qq ((H1.out.nb K3.out).disk.keeps HS5.out.k (fun k hk e=>by have e:k=l:=e;subst e;exact (H.out.apF _ H.out.fl).1 hk) (fun k hk e=>by have e:k=l:=e;subst e;exact (H.out.apF _ H.out.fl).2 hk));clear hno HBL;go_wp2;exact ⟨.tuple #[.int .i64 0,.int .i64 10],by simp [results,Tryz.f59,go_sem],none,HR.out,rfl,HD.out,KF.out⟩
  ·
   obtain ⟨L1,HG,HSN,hnm,hfi,hrc⟩:∃ L1,Hid (LUp w1 w5 l d Fd Rd FL RL L1 X) /\ Hid (snapR X L s=some L1) /\ L1.name=L.name /\ L1.first=L.first /\ L1.recs=[]:=by
    have hz:=K1.out.size;have hz3:=K3.out.size;have hz2:w1.heap.size <= w2.heap.size:=K2.out.size;refine ⟨{ L with snap:=b,has:=true },qq ⟨_,_,LgAt.put (w0:=w1) (vs:=vs) H1.out hz3 (H1.out.nb K3.out).disk ⟨_,K3.out.nb E1.out⟩ HS5.out ?_ (by have:=h6.out;omega) ?_ ?_ ?_ ?_,?_,?_,?_⟩,qq ?_,rfl,rfl,hr0⟩
    ·
     rintro k (e | e | e | e)
     ·exact H1.out.disk.ltF k e
     ·exact H1.out.disk.ltR k e
     ·exact H1.out.ltF k e
     ·exact H1.out.ltR k e
    ·have:=H.out.nums;exact ⟨this.name,this.n16,this.most,this.first,this.segment,this.segments,this.size,this.recs,this.nrec,hlen⟩
    ·exact HB.out.mono (fun k e=>.inr ⟨by have:=e.1.1;omega,e.1.2,e.2⟩)
    ·exact (E3.out.keeps K3.out (fun _ _ _ e=>e)).mono (fun k e=>.inl e) (fun _ e=>e)
    ·exact (E4.out.keeps K3.out (fun _ _ e=>e)).mono (fun k e=>.inl e)
    ·
     rintro k (e | e)
     ·exact .inl e
     ·exact .inr (by omega)
    ·
     rintro k (e | e)
     ·exact .inl e
     ·exact .inr (by omega)
    ·exact (K3.out.of_nb).trans HS5.out.k (fun j _ e=>by have e:j=l:=e;subst e;exact H.out.fl)
    ·unfold snapR;rw [if_neg h0,hyes];rfl
   have hb2l:=hne;clear hyes hlen HBL HS5 HB E1 E3 E4;obtain ⟨FL1,RL1,H1',hFL1,hRL1,kA⟩:=HG.out;have HA:=qq H1';have KA:=qq kA;have HFL1:=qq hFL1;have HRL1:=qq hRL1;have HNM:=qq hnm;have HFI:=qq hfi;have HRC:=qq hrc;clear H1' hFL1 hRL1 kA HG hnm hfi hrc;go_wp2_with (first | go_skip | (with_reducible refine qv (by decide) ?_))
   refine za (valloc (z:=.slice none 0 0) (by kernel_rfl) ?_);intro b6 wB nB;simp only [Nat.reduceAdd,qn];have B6:=qq nB.blk;have KB:=qq nB.k;have G6:Hid (w5.heap.size <= b6 /\ b6 < wB.heap.size):=qq ⟨nB.ge,nB.lt⟩;clear nB;have HB':=qq (HA.out.nb KB.out);obtain ⟨sv',lv',hcs⟩:=HB'.out.cells;have HC:=qq hcs;have B2B:=qq (KB.out.nb B5.out);have cB2:wB.cell? ⟨b2,0,none⟩=some (.pointer (some ⟨l,0,none⟩)):=(cell_of_block B2B.out).trans rfl;have cl:wB.cell? ⟨l,0,none⟩=some (.pointer (some ⟨d,0,none⟩)):=(cell_of_block (HC.out wB (Keeps.refl _ _))).trans rfl;have FA:=qq (z3u d X.D Fd Rd X.fc wB HB'.out.disk);clear hcs c5;go_wp2_with fail;refine FA.out.mono ?_;rintro _ w6 ⟨ns,hperm,a3,a4,rfl,hfa,k6⟩;obtain ⟨ps,hps⟩:∃ ps,(ns.map fun s=>(s,szOf X.D X.fc s))=ps:=⟨_,rfl⟩
   rw [hps] at hfa;have HPS:=qq hps;have HPM:=qq hperm;have HFA:=qq hfa;have K6:=qq k6;have HLEN:Hid (ps.length=ns.length):=qq (by rw [<- hps,List.length_map]);have W6:Hid (w6.heap[b6]?=some (.cells #[.slice none 0 0] 35 (0,0))):=qq (k6.nb B6.out);have L6:b6 < wB.heap.size:=lt_of_block B6.out;have z36:=k6.size;have HV6:Hid (Vars w6):=qq ((((HV.out.nb K1.out).keeps KA.out (fun k hk e=>by have:=H.out.low k (.inr e);omega)).nb KB.out).nb K6.out);clear hps hperm hfa k6 FA cB2 cl;go_wp2_with (with_reducible refine z19 ?_)
   refine za ((wpIn_wide (n:=9)).1 ?_);have hlw:l < w.heap.size:=H.out.ltF l H.out.fl;have hzA:w1.heap.size <= w5.heap.size:=KA.out.size
   refine z2a (gf:=95) (lb:=#[.pointer (some ⟨a3,0,none⟩),.pointer (some ⟨a4,0,none⟩)]) (by rfl) (enters_of Tryz.func95 (by kernel_rfl) rfl)
    (z2g 8 (by omega) wB.heap.size a3 a4 ps (fun b=>w6.heap.size <= b \/ b=b6) w6 HFA.out (fun b h1 h2 e=>by omega))
    (fun b hb=>.inl (by unfold Book at hb;omega)) (fun i args W h=>by obtain ⟨p,-,rfl⟩:=h;rfl)
    (fun i W=>NumsI w6 b6 L1.name L1.first (ns.take i) W) (fun _ _=>False)
    (fun i A B h k=>h.book k (by omega)) (fun c A B h=>h.elim) ⟨_,W6.out,⟨rfl,.inl ⟨rfl,rfl⟩⟩,Keeps.refl _ _⟩ ?_ ?_ (fun _ _ h=>h.elim)
   ·
    rintro lm i args W rfl hW2 hI hi ⟨p,hp,rfl⟩;simp only [List.zip_toArray,List.zip_cons_cons,List.zip_nil_right,List.foldl_toArray,List.foldl_cons,List.foldl_nil,List.setIfInBounds_toArray,List.set_cons_succ,List.set_cons_zero];have hns:ns[i]?=some p.1:=by
     rw [<- HPS.out,List.getElem?_map] at hp;obtain ⟨s,h1,h2⟩:=Option.map_eq_some_iff.1 hp;rw [h1,<- h2]
    have hmn:mnB p.1=true:=by
     have h1:=HPM.out.mem_iff.1 (List.mem_of_getElem? hns);obtain ⟨q,hq,e⟩:=List.mem_map.1 h1;rw [<- e];exact H.out.disk.names.files q hq
    obtain ⟨nm,sz⟩:=p;have HNS:=qq hns;have hsz:=z0z hmn;have HI:=qq hI;clear hI hp hns hmn
    repeat (first | (with_reducible refine zg ?_) | (with_reducible refine stop_range ?_) | gi_step)
    refine za (zh (by kernel_rfl) (by rintro ⟨_,_,h⟩;exact h) ?_);go_wp2;refine ⟨Keeps.refl _ _,fun W3 k3=>?_⟩;have kb3:Keeps (Book w6) W W3:=k3.mono (fun i _ e=>.inr e);obtain ⟨v,e1,e2,e3⟩:=HI.out.book kb3 (by omega);have KW3:=qq e3;have E1:=qq e1;have E2:=qq e2;have c2:W3.cell? ⟨b2,0,none⟩=some (.pointer (some ⟨l,0,none⟩)):=(cell_of_block (KW3.out.at (K6.out.nb B2B.out) (fun e=>by have:=G2.out;have:=G6.out;omega))).trans rfl;have bl3:W3.heap[l]?=some (.cells (lcs d sv' lv' L1) 78 (0,0)):=KW3.out.at (HC.out w6 K6.out) (fun e=>by have:=G2.out;have:=G6.out;omega)
    have BL3:=qq bl3;have HV3:Hid (Vars W3):=qq (HV6.out.keeps KW3.out (fun k hk e=>by have:=h6.out;have:=G2.out;have:=G6.out;omega));have PA:=qq (z3c l L1.name nm ByteArray.empty W3 HV3.out ((cell_of_block bl3).trans rfl) (by rw [HNM.out];have:=H.out.nums.n16;omega) (by omega) (by decide));have zW3:w6.heap.size + 2 <= W3.heap.size:=by have:=k3.size;omega
    clear k3 e1 e2 e3 kb3 bl3
    repeat (first | (with_reducible refine zg ?_) | (with_reducible refine stop_range ?_) | gi_step)
    refine za (zh (by kernel_rfl) (by rintro ⟨_,_,h⟩;exact h) ?_);go_wp2_with fail;refine PA.out.mono ?_;rintro _ W4 ⟨rfl,k4⟩;have c4:W4.cell? ⟨b2,0,none⟩=some (.pointer (some ⟨l,0,none⟩)):=(k4.cell (lt_of_cell c2) (fun e=>e)).trans c2;have c43:W4.cell? ⟨l,3,none⟩=some (.int .i64 (L1.first:Nat)):=(cell_of_block (k4.nb BL3.out)).trans rfl;have E14:=qq (k4.nb E1.out);have c46:W4.cell? ⟨b6,0,none⟩=some v:=(cell_of_block E14.out).trans rfl;have E24:=qq (z08 E2.out k4 (fun _ _ e=>e));have KW4:=qq k4;clear k4 c2 PA HI;have hsg:pn (fl L1.name ByteArray.empty) nm=sgn L1.name nm:=rfl;rw [hsg];have hsplit:segL L1.name L1.first (ns.take (i + 1))=segL L1.name L1.first (ns.take i) ++ (if L1.first <= sgn L1.name nm then [sgn L1.name nm] else []):=by
     have hil:=(List.getElem?_eq_some_iff.1 HNS.out).1;rw [List.take_succ_eq_append_getElem hil,(List.getElem?_eq_some_iff.1 HNS.out).2];unfold segL;rw [List.map_append,List.filter_append];by_cases hle:L1.first <= sgn L1.name nm <;> simp [hle]
    have HSP:=qq hsplit;clear hsplit hsg;obtain ⟨n,hn⟩:∃ n,sgn L1.name nm=n:=⟨_,rfl⟩
    rw [hn] at HSP ⊢;clear hn;have c43':Hid (W4.cell? ⟨b2,0,none⟩=some (.pointer (some ⟨l,0,none⟩))):=qq c4;by_cases hle:L1.first <= n
    ·
     rw [if_pos hle] at HSP;go_wp2
     repeat (first | (with_reducible refine zg ?_) | (with_reducible refine stop_range ?_) | gi_step)
     refine za (zh (by kernel_rfl) (by rintro ⟨_,_,h⟩;exact h) ?_);go_wp2
     repeat (first | (with_reducible refine zg ?_) | (with_reducible refine stop_range ?_) | gi_step)
     refine za (zh (by kernel_rfl) (by rintro ⟨_,_,h⟩;exact h) ?_);go_wp2_with (first | go_skip | (with_reducible refine qv (by decide) ?_))
     refine za (zi rfl (zl el35 [.int .i64 n] rfl (by simp [List.range'_succ];first | done | rfl | exact ⟨rfl,rfl⟩ | exact ⟨rfl,rfl,rfl⟩ | exact ⟨rfl,rfl,rfl,rfl⟩ | exact ⟨rfl,rfl,rfl,rfl,rfl⟩ | exact ⟨rfl,rfl,rfl,rfl,rfl,rfl⟩) (by simp [Value.cells]) (by simp)) ?_);rintro _ W5 ⟨g8,rfl,n8⟩;simp only [Nat.reduceAdd,qn];have HH8:Hid (Has W5 (some ⟨g8,0,none⟩) [.int .i64 n]):=qq (zt n8.blk);have K5:=qq n8.k;have O5:=qq (z08 E24.out K5.out (fun _ _ e=>e));have zk:(segL L1.name L1.first (ns.take i)).length <= 1000000:=by
      have h1:(segL L1.name L1.first (ns.take i)).length <= (ns.take i).length:=by unfold segL;exact Nat.le_trans (List.length_filter_le _ _) (by simp)
      have h2:=HPM.out.length_eq;have h3:=H.out.disk.nums.nf;simp at h1 h2;omega
     clear n8;go_wp2_with (first | go_skip | (with_reducible refine qv (by decide) ?_))
     refine za (zi rfl (zd5 (base:=w6.heap.size + 2) el35 O5.out (by rfl) (by rfl) HH8.out rfl (by intro u hu;rw [List.mem_singleton.1 hu];rfl) (by unfold maxLen;omega) (by omega) (by have:=KW4.out.size;have:=K5.out.size;omega)) ?_);rintro v2 W6 ⟨o6,g6⟩;simp only [Nat.reduceAdd,qn];obtain ⟨a6,c6,rfl,-,-,-,-⟩:=z05 o6;have hob:∀ k,v.ownBlock=some k -> w6.heap.size + 2 <= k:=fun k e=>by
      rcases E2.out.2 with ⟨e2,-⟩ | ⟨g,cap,cur,e2,hg,-⟩
      ·rw [e2] at e;simp [Value.ownBlock] at e
      ·rw [e2] at e;simp only [Value.ownBlock,Option.some.injEq] at e;omega
     have kk6:Keeps (fun k=>w6.heap.size + 2 <= k) W5 W6:=(Keeps.refl _ W5).grown g6 (fun k hk _=>hob k hk);have b66:W6.heap[b6]?=some (.cells #[v] 35 (0,0)):=kk6.at (K5.out.nb E14.out) (fun e=>by have:=G6.out;omega)
     have kf6:Keeps (fun b=>(w6.heap.size <= b \/ b=b6) /\ ¬ Book w6 b) W3 W6:=((KW4.out.trans_nb K5.out).of_nb).trans kk6 (fun j _ e=>⟨.inl (by omega),fun h=>by unfold Book at h;omega⟩);have O6:=qq o6;clear kk6 g6 o6;go_wp2_with (first | go_skip | (with_reducible refine qv (by decide) ?_))
     refine za (zc rfl (zd (v:=.slice a6 ((segL L1.name L1.first (ns.take i)).length + 1) c6) (n:=1) (by kernel_rfl) (by rfl) (by rfl) b66 (by rfl) (by simp [Value.cells]) (by simp [Value.cells,Value.oneCell'])) ?_);intro W7 s7;simp only [Nat.reduceAdd,qn];refine wpList_nil ?_;have hk7:b6 < w6.heap.size:=by have:=G6.out;omega
     have kf:Keeps (fun b=>(w6.heap.size <= b \/ b=b6) /\ ¬ Book w6 b) W3 W7:=kf6.trans s7.k (fun j _ e=>by have h1:j=b6:=e;subst h1;exact ⟨.inr rfl,by unfold Book;omega⟩);refine ⟨kf,_,s7.blk,?_,KW3.out.trans kf (fun j _ e=>e.1)⟩;rw [HSP.out,List.length_append,List.map_append];exact z08 O6.out s7.k (fun j hj e=>by have h1:j=b6:=e;omega)
    ·
     rw [if_neg hle,List.append_nil] at HSP;go_wp2
     repeat (first | (with_reducible refine zg ?_) | (with_reducible refine stop_range ?_) | gi_step)
     refine za (zh (by kernel_rfl) (by rintro ⟨_,_,h⟩;exact h) ?_);go_wp2
     gi_wp2
     have kf:Keeps (fun b=>(w6.heap.size <= b \/ b=b6) /\ ¬ Book w6 b) W3 W4:=KW4.out.of_nb;refine ⟨kf,v,E14.out,?_,KW3.out.trans kf (fun j _ e=>e.1)⟩;rw [HSP.out];exact E24.out
   ·
    rintro W ⟨nv,en1,en2,en3⟩ hD;rw [HLEN.out,List.take_length] at en2;obtain ⟨nums,hnums⟩:∃ q,segL L1.name L1.first ns=q:=⟨_,rfl⟩
    rw [hnums] at en2;have hn6:nums.length <= 1000000:=by
     have h1:(segL L1.name L1.first ns).length <= ns.length:=by unfold segL;exact Nat.le_trans (List.length_filter_le _ _) (by simp)
     have h2:=HPM.out.length_eq;have h3:=H.out.disk.nums.nf;rw [hnums] at h1;simp at h2;omega
    have hnb:∀ n ∈ nums,n <= mxn:=fun n hn=>by
     rw [<- hnums] at hn;obtain ⟨q,-,rfl⟩:=List.mem_map.1 (List.mem_filter.1 hn).1;by_cases h0:sgn L1.name q=0
     ·rw [h0];exact Nat.zero_le _
     ·exact (z30 h0).2.2
    have hsegs:∀ ms:List Nat,ms.Perm nums -> ms.Pairwise (· <= ·) -> SegsOf L1.name L1.first X ms:=fun ms h1 h2=>⟨h2,by
     rw [<- hnums] at h1
     exact h1.trans ((HPM.out.map _).filter _)⟩
    have HSEG:=qq hsegs;have HN6:=qq hn6;have HNB:=qq hnb;clear hnums hn6 hnb hsegs;obtain ⟨an,cn,rfl,hcn1,hcn2,-,han⟩:=z05 en2;obtain ⟨m,hm⟩:∃ m,nums.length=m:=⟨_,rfl⟩
    have ltA:Hid (∀ k,(Fd k \/ Rd k \/ FL1 k \/ RL1 k) -> k < w5.heap.size):=qq (fun k e=>e.elim (HA.out.disk.ltF k) fun e=>e.elim (HA.out.disk.ltR k) fun e=>e.elim (HA.out.ltF k) (HA.out.ltR k));have HW:Hid (LgAt W l d Fd Rd FL1 RL1 L1 X):=qq ((HA.out.nb (KB.out.trans_nb K6.out)).keeps en3 (fun k hk e=>by have:=ltA.out k (.inl hk);have:=G6.out;omega) (fun k hk e=>by have:=ltA.out k (.inr (.inl hk));have:=G6.out;omega) (fun k hk e=>by have:=ltA.out k (.inr (.inr (.inl hk)));have:=G6.out;omega) (fun k hk e=>by have:=ltA.out k (.inr (.inr (.inr hk)));have:=G6.out;omega));have SO:=qq (zar _ nums (w6.heap.size + 2) W en2 HN6.out);have c6:W.cell? ⟨b6,0,none⟩=some (.slice an nums.length cn):=(cell_of_block en1).trans rfl;have EN1:=qq en1;have EN3:=qq en3;have HD:=qq hD;clear en1 en2 en3 hD han;have HM:=qq hm;rw [hm] at SO c6 HN6 EN1;clear hm;go_wp2_with fail;refine SO.out.mono ?_;rintro _ W1 ⟨rfl,⟨ms,hperm,hsort,ho⟩,k1⟩
    have KS:Hid (Keeps (fun k=>w6.heap.size + 2 <= k) W W1):=qq (k1.mono (fun k _ e=>by
     have e:(Value.slice an m cn).ownBlock=some k:=e;rcases ho.2 with ⟨e2,-⟩ | ⟨g,cap,cur,e2,hg,-⟩
     ·rw [e2] at e;simp [Value.ownBlock] at e
     ·rw [e2] at e;simp only [Value.ownBlock,Option.some.injEq] at e;omega))
    have hml:ms.length=m:=by rw [hperm.length_eq];exact HM.out
    have HSG:=qq (HSEG.out ms hperm hsort);have HMB:Hid (∀ n ∈ ms,n <= mxn):=qq (fun n hn=>HNB.out n (hperm.mem_iff.1 hn));have HML:=qq hml;obtain ⟨a',c',ea,-,-,hhas,hbl⟩:=z05 ho;cases ea;have HHAS:=qq hhas;have HBL:Hid (∀ b off,an=some ⟨b,off,none⟩ -> w6.heap.size + 2 <= b):=qq (fun b off e=>(hbl b off e).2.2.1);have hzs:w6.heap.size < W.heap.size:=lt_of_block HD.out;have B61:=qq (KS.out.at EN1.out (fun e=>by have:=G6.out;omega));have HD1:=qq (KS.out.at HD.out (fun e=>by omega));have B21:=qq (KS.out.at (EN3.out.at (K6.out.nb B2B.out) (fun e=>by have:=G2.out;have:=G6.out;omega)) (fun e=>by have:=G2.out;have:=G6.out;omega));have HW1:Hid (LgAt W1 l d Fd Rd FL1 RL1 L1 X):=qq (HW.out.keeps KS.out (fun k hk e=>by have:=ltA.out k (.inl hk);have:=G6.out;omega) (fun k hk e=>by have:=ltA.out k (.inr (.inl hk));have:=G6.out;omega) (fun k hk e=>by have:=ltA.out k (.inr (.inr (.inl hk)));have:=G6.out;omega) (fun k hk e=>by have:=ltA.out k (.inr (.inr (.inr hk)));have:=G6.out;omega));have HV1:Hid (Vars W1):=qq ((HV6.out.keeps EN3.out (fun k hk e=>by have:=h6.out;have:=G2.out;have:=G6.out;omega)).keeps KS.out (fun k hk e=>by have:=h6.out;have:=G2.out;have:=G6.out;omega));have KW1:Hid (Keeps FL w W1):=qq (((((K1.out.of_nb).trans KA.out (fun _ _ e=>e)).trans_nb (KB.out.trans_nb K6.out)).trans EN3.out (fun j hj e=>by have:=G2.out;have:=G6.out;omega)).trans KS.out (fun j hj e=>by have:=G2.out;have:=G6.out;omega));have hF2:¬ FL1 b2:=fun e=>(HFL1.out b2 e).elim (fun e=>by have:=H.out.ltF b2 e;have:=G2.out;omega) (fun e=>by have:=G2.out;omega);have hF6:¬ FL1 b6:=fun e=>by have:=ltA.out b6 (.inr (.inr (.inl e)));have:=G6.out;omega
    have hzw:w1.heap.size <= W1.heap.size /\ w6.heap.size < W1.heap.size:=by have:=KS.out.size;have:=G6.out;omega
    have HF:=qq (And.intro hF2 hF6);have HZW:=qq hzw;clear SO k1 hperm hsort ho hml hhas hbl c6 hF2 hF6 hzw;have c61:W1.cell? ⟨b6,0,none⟩=some (.slice an m cn):=(cell_of_block B61.out).trans rfl;go_wp2
    go_loopw [9,62] (fun ev iv wr=>∃ k Lk en,k <= m /\ ev=.int .i64 (en:Nat) /\ iv=.int .i64 (k:Nat) /\ ReadI X ms W1 l d Fd Rd FL1 RL1 L1 k Lk en wr) (fun _ iv _=>m - (intOf iv).toNat)
    case atStart=>exact ⟨0,L1,0,Nat.zero_le _,rfl,rfl,LUp.of HW1.out (Keeps.refl _ _),rfl,rfl,by rw [HRC.out];simp⟩
    case round =>
     obtain ⟨k,Lk,en,hk,rfl,rfl,hup,hrd,hkn,hkr⟩:=hrel;obtain ⟨FLk,RLk,hlk,hFk,hRk,kk⟩:=hup;have HLK:=qq hlk;have HFK:=qq hFk;have HRK:=qq hRk;have KK:=qq kk;have HRD:=qq hrd;have HKN:=qq hkn;have HKR:=qq hkr;clear hlk hFk hRk kk hrd hkn hkr;have B2r:=qq (KK.out.at B21.out HF.out.1);have B6r:=qq (KK.out.at B61.out HF.out.2);have HDr:=qq (KK.out.at HD1.out (fun e=>by have:=ltA.out _ (.inr (.inr (.inl e)));have:=G6.out;omega));have HVr:Hid (Vars wr):=qq (HV1.out.keeps KK.out (fun k hk e=>by have:=HW1.out.low k (.inr e);omega));have KWr:Hid (Keeps FL w wr):=qq (KW1.out.trans KK.out (fun j hj e=>(HFL1.out j e).elim id (fun e=>by have:=G2.out;omega)));have c2:wr.cell? ⟨b2,0,none⟩=some (.pointer (some ⟨l,0,none⟩)):=(cell_of_block B2r.out).trans rfl;have c6:wr.cell? ⟨b6,0,none⟩=some (.slice an m cn):=(cell_of_block B6r.out).trans rfl;by_cases hlt:k < m
     ·
      have HLT:=qq hlt;have i1:(k:Int) < (m:Int):=by omega
      obtain ⟨n,rest,hdr⟩:∃ n rest,ms.drop k=n :: rest:=⟨ms[k]'(by rw [HML.out];exact hlt),_,List.drop_eq_getElem_cons (by rw [HML.out];exact hlt)⟩
      have hnk:ms[k]?=some n:=by have h:=congrArg (·[0]?) hdr;simpa using h
      obtain ⟨g,off,rfl,hck⟩:∃ b off,an=some ⟨b,off,none⟩ /\ wr.cell? ⟨b,off + k,none⟩=some (.int .i64 (n:Nat)):=by
       rcases HHAS.out.keeps KK.out (fun b off e _ h=>by have:=HBL.out b off e;have:=ltA.out b (.inr (.inr (.inl h)));have:=G6.out;omega) with h | ⟨b,off,h,hc⟩
       ·have:ms=[]:=List.map_eq_nil_iff.1 h;rw [this] at hnk;cases hnk
       ·exact ⟨b,off,h,hc k _ (by rw [List.getElem?_map,hnk];rfl)⟩
      have hnm:n <= mxn:=HMB.out n (List.mem_of_getElem? hnk);have HDR:=qq hdr;have HNK:=qq hnk;have hrest:(rest=[] ↔ k + 1=m):=by
       have:=congrArg List.length hdr;rw [List.length_drop,HML.out,List.length_cons] at this;rw [<- List.length_eq_zero_iff];omega
      have HRS:=qq hrest;obtain ⟨sv3,lv3,vs3,q1,q2,q3,q4⟩:=HLK.out.ex;have Q1:=qq q1;have Q3:=qq q3;have Q4:=qq q4;have Q2:=qq q2;clear hdr hnk hrest q1 q2 q3 q4;go_wp2;refine WT.region (fun u=>u.cell? ⟨b2,0,none⟩=some (.pointer (some ⟨l,0,none⟩)) /\ u.cell? ⟨l,0,none⟩=some (.pointer (some ⟨d,0,none⟩))) 12 13 [0,1,2,3,4,5,6,7,8,9,10,11,12] (by kernel_rfl) rfl ?_;have HS:Hid ((fun u:World=>u.cell? ⟨b2,0,none⟩=some (.pointer (some ⟨l,0,none⟩)) /\ u.cell? ⟨l,0,none⟩=some (.pointer (some ⟨d,0,none⟩))) wr.drew):=qq ⟨c2,(cell_of_block (w:=wr.drew) Q1.out).trans rfl⟩;have SA:=qq (z0r l Lk.name n wr.drew (HVr.out.nb ((Keeps.refl Nb wr).drew)) ((cell_of_block (w:=wr.drew) Q1.out).trans rfl) (by have:=HLK.out.nums.n16;omega) (by unfold mxn at hnm;omega));refine WT.t 0 (v:=.pointer (some ⟨l,0,none⟩)) (y:=by rintro w ⟨C1,C2⟩;exact zb (by kernel_rfl) (by rfl) C1) (s:=HS.out) (h:=?_);refine WT.t 1 (v:=_) (y:=by rintro w ⟨C1,C2⟩;go_simp;with_reducible rfl) (s:=HS.out) (h:=?_);refine WT.t 2 (v:=_) (y:=by rintro w ⟨C1,C2⟩;go_simp;with_reducible rfl) (s:=HS.out) (h:=?_);refine WT.t 3 (v:=.pointer (some ⟨d,0,none⟩)) (y:=by rintro w ⟨C1,C2⟩;exact zb (by kernel_rfl) (by rfl) C2) (s:=HS.out) (h:=?_);refine WT.t 4 (v:=.pointer (some ⟨l,0,none⟩)) (y:=by rintro w ⟨C1,C2⟩;exact zb (by kernel_rfl) (by rfl) C1) (s:=HS.out) (h:=?_);refine WT.t 5 (v:=_) (y:=by rintro w ⟨C1,C2⟩;go_simp;with_reducible rfl) (s:=HS.out) (h:=?_);refine WT.call 6 (by simp only [qi];rfl) (by kernel_rfl) (by rfl) (by go_simp;first | done | rfl | exact ⟨⟨rfl,rfl⟩,rfl⟩ | exact ⟨⟨rfl,rfl,rfl⟩,rfl⟩) SA.out ?_;rintro _ wa ⟨rfl,ka⟩;have KA2:Hid (Keeps Nb wr wa):=qq (((Keeps.refl Nb wr).drew).trans_nb ka);clear ka SA;replace HS:Hid ((fun u:World=>u.cell? ⟨b2,0,none⟩=some (.pointer (some ⟨l,0,none⟩)) /\ u.cell? ⟨l,0,none⟩=some (.pointer (some ⟨d,0,none⟩))) wa):=qq ⟨(cell_of_block (KA2.out.nb B2r.out)).trans rfl,(cell_of_block (KA2.out.nb Q1.out)).trans rfl⟩;refine ⟨_,rfl,HS.out,?_⟩;simp only [Nat.reduceAdd,qn];have RA:=qq (z3o d (sgf Lk.name n) X.D Fd Rd X.fc wa (HLK.out.disk.nb KA2.out) (by have:=z0z (z0o HLK.out.nums.name HLK.out.nums.n16 hnm);unfold maxLen;omega));have hrf:=z18 HLK.out.disk (sgf Lk.name n);have HRF:=qq hrf;clear hrf;generalize hro:readOf X.D X.fc (sgf Lk.name n)=ro at RA HRF;obtain ⟨bs,er⟩:=ro;have HRO:=qq hro;clear hro;refine WT.call 7 (by simp only [qi];rfl) (by kernel_rfl) (by rfl) (by go_simp;first | done | rfl | exact ⟨⟨rfl,rfl⟩,rfl⟩ | exact ⟨⟨rfl,rfl,rfl⟩,rfl⟩) RA.out ?_;rintro _ wb ⟨bv,rfl,hbv,kb⟩;have HBV:Hid (Bytes wb (SinceB wa wb) bv bs):=qq (z0m hbv HRF.out.2);have KB2:Hid (Keeps Nb wr wb):=qq (KA2.out.trans_nb kb);clear hbv kb RA;replace HS:Hid ((fun u:World=>u.cell? ⟨b2,0,none⟩=some (.pointer (some ⟨l,0,none⟩)) /\ u.cell? ⟨l,0,none⟩=some (.pointer (some ⟨d,0,none⟩))) wb):=qq ⟨(cell_of_block (KB2.out.nb B2r.out)).trans rfl,(cell_of_block (KB2.out.nb Q1.out)).trans rfl⟩;refine ⟨_,rfl,HS.out,?_⟩;simp only [Nat.reduceAdd,qn];refine WT.t 8 (v:=_) (y:=by rintro w ⟨C1,C2⟩;go_simp;with_reducible rfl) (s:=HS.out) (h:=?_);refine WT.t 9 (v:=_) (y:=by rintro w ⟨C1,C2⟩;go_simp;with_reducible rfl) (s:=HS.out) (h:=?_);refine WT.t 10 (v:=_) (y:=by rintro w ⟨C1,C2⟩;go_simp;with_reducible rfl) (s:=HS.out) (h:=?_);refine WT.t 11 (v:=_) (y:=by rintro w ⟨C1,C2⟩;go_simp;with_reducible rfl) (s:=HS.out) (h:=?_);refine WT.stop (by kernel_rfl) ?_;refine WP.o 12 (v:=_) (y:=by go_simp;first | with_reducible rfl | exact ⟨rfl,rfl⟩) (h:=?_);refine WP.done (by kernel_rfl) ?_;obtain ⟨bva,bvc,rfl,-⟩:=id HBV.out;have WA:=qq (z5s _ bs _ wb HBV.out (fun _ e=>e.1.2) HRF.out.1);clear HS hck c6;go_wp2_with fail;refine WA.out.mono ?_;rintro _ wq ⟨lv4,vs4,rfl,r4,bl4,k4⟩;have hrw:=z45 HRF.out.2;have hil:=z39 (bs.length + 1) 0 bs;have hwl:(whole bs).1.length <= 2097153:=by
       have h1:(whole bs).1.length <= (items (bs.length + 1) 0 bs).length:=by unfold whole wholeI good;simp only [List.length_map];exact (List.takeWhile_sublist _).length_le
       have:=HRF.out.1;omega
      generalize hwo:whole bs=wo at r4 bl4 hrw hwl ⊢;obtain ⟨rs,wn,rt⟩:=wo;simp only at r4 bl4 hrw hwl ⊢;obtain ⟨p1,p2,a4',c4',rfl,p4,p5,p6,p7,p8⟩:=id r4;have R4:=qq r4;have BL4:=qq bl4;have HRW:=qq hrw;have HWL:=qq hwl;have HWO:=qq hwo;have K4:Hid (Keeps Nb wb wq):=qq k4;have KQ:Hid (Keeps Nb wr wq):=qq (KB2.out.trans_nb k4);obtain ⟨q,hq⟩:∃ q,bs.length=q:=⟨_,rfl⟩
      obtain ⟨r4n,hr4n⟩:∃ q,rs.length=q:=⟨_,rfl⟩
      have HQ:=qq hq;have HR4:=qq hr4n;rw [hq,hr4n];have hstep:rdl X ms L1 0=if rt=true /\ (q <= wn \/ rest=[]) then rdl X rest { Lk with recs:=Lk.recs ++ rs,segment:=n,size:=q } wn else none:=by
       rw [HRD.out,HDR.out,z5n,HRO.out];simp only;rw [hwo];simp only;rw [hq]
      have HST:=qq hstep;have HDq:=qq (KQ.out.nb HDr.out);have c2q:wq.cell? ⟨b2,0,none⟩=some (.pointer (some ⟨l,0,none⟩)):=(cell_of_block (KQ.out.nb B2r.out)).trans rfl;have c6q:wq.cell? ⟨b6,0,none⟩=some (.slice (some ⟨g,off,none⟩) m cn):=(cell_of_block (KQ.out.nb B6r.out)).trans rfl;have iw:IntKind.i64.wrap ((m:Int) - 1)=(m:Int) - 1:=IntWalk.i64_in _ (by have:=HN6.out;omega);have hbad:¬ (rt=true /\ (q <= wn \/ rest=[])) -> readR X L s none:=fun hb=>by
       unfold readR;rw [HSN.out];exact ⟨ms,HSG.out,by rw [hstep,if_neg hb];split <;> rfl⟩
      have HBAD:=qq hbad;have HRS2:=qq (HRS.out);clear hwo p1 p2 p4 p5 p6 p7 p8 r4 bl4 hrw hwl hil k4 hq hr4n hstep hbad WA c2;cases rt
      ·
       have HB:=qq (HBAD.out (fun e=>by simp at e));go_wp2;have kp:=zv wq w6.heap.size (.deferred none);have hle6:w.heap.size <= w6.heap.size:=by have:=G2.out;have:=G6.out;omega
       have KF:Hid (Keeps FL w (wq.putObj w6.heap.size (.deferred none))):=qq ((KWr.out.trans_nb KQ.out).trans kp (fun j hj e=>by have:j=w6.heap.size:=e;omega));have DF:Hid (DiskAt (wq.putObj w6.heap.size (.deferred none)) d Fd Rd X.D X.fc):=qq ((HLK.out.disk.nb KQ.out).keeps kp (fun j hj e=>by have:j=w6.heap.size:=e;have:=H.out.disk.ltF j hj;omega) (fun j hj e=>by have:j=w6.heap.size:=e;have:=H.out.disk.ltR j hj;omega));refine ⟨by simp,.inl ⟨_,_,rfl,run_takeDeferred HDq.out,?_⟩⟩;exact ⟨.tuple #[.int .i64 0,.int .i64 10],by simp [results,Tryz.f59,go_sem],none,HB.out,rfl,DF.out,KF.out⟩
      ·
       rcases Nat.lt_or_ge wn q with hwq | hwq
       ·
        rcases Nat.lt_or_ge (k + 1) m with hkm | hkm
        ·
         have HB:=qq (HBAD.out (fun e=>e.2.elim (fun e=>by omega) (fun e=>by have:=HRS2.out.1 e;omega)));have t1:decide ((k:Int) < (m:Int) - 1)=true:=by simp;omega
         have t2:(k:Int) < (m:Int) - 1:=by omega
         clear hkm;go_wp2;have kp:=zv wq w6.heap.size (.deferred none);have hle6:w.heap.size <= w6.heap.size:=by have:=G2.out;have:=G6.out;omega
         have KF:Hid (Keeps FL w (wq.putObj w6.heap.size (.deferred none))):=qq ((KWr.out.trans_nb KQ.out).trans kp (fun j hj e=>by have:j=w6.heap.size:=e;omega));have DF:Hid (DiskAt (wq.putObj w6.heap.size (.deferred none)) d Fd Rd X.D X.fc):=qq ((HLK.out.disk.nb KQ.out).keeps kp (fun j hj e=>by have:j=w6.heap.size:=e;have:=H.out.disk.ltF j hj;omega) (fun j hj e=>by have:j=w6.heap.size:=e;have:=H.out.disk.ltR j hj;omega));refine ⟨by simp,.inl ⟨_,_,rfl,run_takeDeferred HDq.out,?_⟩⟩;exact ⟨.tuple #[.int .i64 0,.int .i64 10],by simp [results,Tryz.f59,go_sem],none,HB.out,rfl,DF.out,KF.out⟩
        ·
         have t1:¬ ((k:Int) < (m:Int) - 1):=by omega
         have HOK:Hid (rdl X ms L1 0=rdl X (ms.drop (k + 1)) { Lk with recs:=Lk.recs ++ rs,segment:=n,size:=q } wn):=qq (by
          have hr:rest=[]:=HRS2.out.2 (by omega);rw [HST.out,if_pos ⟨rfl,.inr hr⟩];have:=congrArg (List.drop 1) HDR.out;rw [List.drop_drop] at this;simp at this
          rw [this])
         clear hkm;have c9:wq.cell? ⟨l,9,none⟩=some lv3:=(cell_of_block (KQ.out.nb Q1.out)).trans rfl;have HLQ:=qq (HLK.out.nb KQ.out);have R3:=qq (Q3.out.keeps KQ.out (fun _ _ _ e=>e));obtain ⟨-,p2,a4,c4,ea,p4,p5,p6,p7,p8⟩:=id R4.out;cases ea;have HAS4:=qq p6;have ONE4:=qq p2;have hvl:vs4.length=r4n:=by rw [BL4.out.1];exact HR4.out
         have HVL:=qq hvl;obtain ⟨lk,hlk⟩:∃ q,Lk.recs.length=q:=⟨_,rfl⟩
         have HLKN:=qq hlk;rw [hlk] at R3;have hkr:lk <= 2097153000000:=by have h1:=HKR.out;rw [hlk] at h1;have:=HN6.out;omega
         have hwl:r4n <= 2097153:=by have:=HWL.out;have:=HR4.out;omega
         clear p2 p4 p5 p6 p7 p8 hvl hlk;go_wp2;clear c6q;refine WT.region (fun u=>u.cell? ⟨b2,0,none⟩=some (.pointer (some ⟨l,0,none⟩)) /\ u.cell? ⟨l,9,none⟩=some lv3) 7 10 [0,1,2,3,4,5,6,7,8,9] (by kernel_rfl) rfl ?_;have HS:Hid ((fun u:World=>u.cell? ⟨b2,0,none⟩=some (.pointer (some ⟨l,0,none⟩)) /\ u.cell? ⟨l,9,none⟩=some lv3) wq.drew):=qq ⟨c2q,c9⟩;refine WT.t 0 (v:=.pointer (some ⟨l,0,none⟩)) (y:=by rintro w ⟨C1,C2⟩;exact zb (by kernel_rfl) (by rfl) C1) (s:=HS.out) (h:=?_);refine WT.t 1 (v:=.pointer (some ⟨l,0,none⟩)) (y:=by rintro w ⟨C1,C2⟩;exact zb (by kernel_rfl) (by rfl) C1) (s:=HS.out) (h:=?_);refine WT.t 2 (v:=_) (y:=by rintro w ⟨C1,C2⟩;go_simp;with_reducible rfl) (s:=HS.out) (h:=?_);refine WT.t 3 (v:=_) (y:=by rintro w ⟨C1,C2⟩;go_simp;with_reducible rfl) (s:=HS.out) (h:=?_);refine WT.t 4 (v:=lv3) (y:=by rintro w ⟨C1,C2⟩;exact zb (by kernel_rfl) (by rfl) C2) (s:=HS.out) (h:=?_);refine WT.t 5 (v:=_) (y:=by rintro w ⟨C1,C2⟩;go_simp;with_reducible rfl) (s:=HS.out) (h:=?_);refine WT.o 6 (y:=re_push' el27 (R3.out.keeps ((Keeps.refl Nb wq).drew) (fun _ _ _ e=>e)) (by rfl) (by rfl) (HAS4.out.nb ((Keeps.refl Nb wq).drew)) (by rw [HVL.out];omega) ONE4.out (by unfold maxLen;omega) (by omega)) (h:=?_);rintro lv5 w7 ⟨r5,S5,k5,hS5⟩;simp only [Nat.reduceAdd,qn];have kq7:Keeps S5 wq w7:=((Keeps.refl Nb wq).drew.of_nb).trans k5 (fun _ _ e=>e);have hS5':∀ k,S5 k -> FLk k /\ IsT wq 22 k:=hS5;have hnb2:¬ S5 b2:=fun e=>(HFK.out b2 (hS5' b2 e).1).elim HF.out.1 (fun e=>by have:=G2.out;have:=HZW.out;omega);have hnl:¬ S5 l:=fun e=>by have:=(hS5' l e).2;exact (this.ne ⟨_,_,KQ.out.nb Q1.out⟩ (by decide)) rfl
         have B27:=qq (kq7.at (KQ.out.nb B2r.out) hnb2);have Q17:=qq (kq7.at (KQ.out.nb Q1.out) hnl);have KQ7:=qq kq7;have HS5:=qq hS5';have R5:Hid (RowS w7 (Up FLk wq.drew w7) (fun _=>False) 22 1 lv5 (lk + r4n) (vs3 ++ vs4)):=qq r5;obtain ⟨-,-,a5,c5',rfl,-⟩:=id r5;clear kq7 hS5' hnb2 hnl r5 k5 hS5;replace HS:Hid ((fun u:World=>u.cell? ⟨b2,0,none⟩=some (.pointer (some ⟨l,0,none⟩)) /\ u.cell? ⟨l,9,none⟩=some lv3) w7):=qq ⟨(cell_of_block B27.out).trans rfl,(cell_of_block Q17.out).trans rfl⟩;refine ⟨HS.out,?_⟩;refine WT.stop (by kernel_rfl) ?_;refine WP.o 7 (v:=_) (y:=by go_simp;first | with_reducible rfl | exact ⟨rfl,rfl⟩) (h:=?_);refine WP.o 8 (v:=_) (y:=by go_simp;first | with_reducible rfl | exact ⟨rfl,rfl⟩) (h:=?_);refine WP.onlySkipE 9 (by simp only [qi];rfl) (by kernel_rfl) (by rfl) (zd (v:=.slice a5 (lk + r4n) c5') (n:=1) (by kernel_rfl) (by rfl) (by rfl) Q17.out (by rfl) (by simp [Value.cells,lcs]) (by simp [Value.cells,Value.oneCell'])) ?_;intro w8 s8;simp only [Nat.reduceAdd,qn];refine WP.done (by kernel_rfl) ?_;have B28:=qq (s8.k.at B27.out (fun e=>hb2l e));have S8:Hid (SetAt w7 w8 l (.cells (lcs d sv3 (.slice a5 (lk + r4n) c5') Lk) 78 (0,0))):=qq ⟨s8.blk,s8.k⟩;have c28:w8.cell? ⟨b2,0,none⟩=some (.pointer (some ⟨l,0,none⟩)):=(cell_of_block B28.out).trans rfl;clear s8 HS c2q c9;go_wp2;refine WT.region (fun u=>u.cell? ⟨b2,0,none⟩=some (.pointer (some ⟨l,0,none⟩))) 12 13 [0,1,2,3,4,5,6,7,8,9,10,11,12] (by kernel_rfl) rfl ?_;have HS:Hid ((fun u:World=>u.cell? ⟨b2,0,none⟩=some (.pointer (some ⟨l,0,none⟩))) w8.drew):=qq c28;refine WT.t 0 (v:=.pointer (some ⟨l,0,none⟩)) (y:=by rintro w C1;exact zb (by kernel_rfl) (by rfl) C1) (s:=HS.out) (h:=?_);refine WT.t 1 (v:=.pointer (some ⟨l,0,none⟩)) (y:=by rintro w C1;exact zb (by kernel_rfl) (by rfl) C1) (s:=HS.out) (h:=?_);refine WT.t 2 (v:=_) (y:=by rintro w C1;go_simp;with_reducible rfl) (s:=HS.out) (h:=?_);refine WT.t 3 (v:=_) (y:=by rintro w C1;go_simp;with_reducible rfl) (s:=HS.out) (h:=?_);refine WT.t 4 (v:=_) (y:=by rintro w C1;go_simp;with_reducible rfl) (s:=HS.out) (h:=?_);refine WT.t 5 (v:=_) (y:=by rintro w C1;go_simp;with_reducible rfl) (s:=HS.out) (h:=?_);refine WT.t 6 (v:=_) (y:=by rintro w C1;go_simp;with_reducible rfl) (s:=HS.out) (h:=?_);refine WT.t 7 (v:=_) (y:=by rintro w C1;go_simp;with_reducible rfl) (s:=HS.out) (h:=?_);refine WT.onlySkipE 8 (by simp only [qi];rfl) (by kernel_rfl) (by rfl) (zd (w:=w8.drew) (v:=.int .i64 (n:Nat)) (n:=1) (by kernel_rfl) (by rfl) (by rfl) S8.out.blk (by rfl) (by simp [Value.cells,lcs]) (by simp [Value.cells,Value.oneCell'])) ?_;intro w9 s9;have B29:=qq (s9.k.at (w:=w8.drew) B28.out (fun e=>hb2l e));have S9:Hid (SetAt w7 w9 l (.cells (lcs d sv3 (.slice a5 (lk + r4n) c5') { Lk with segment:=n }) 78 (0,0))):=qq ⟨s9.blk,(S8.out.k.drew).trans s9.k (fun _ _ e=>e)⟩;replace HS:Hid ((fun u:World=>u.cell? ⟨b2,0,none⟩=some (.pointer (some ⟨l,0,none⟩))) w9):=qq ((cell_of_block B29.out).trans rfl);refine ⟨HS.out,?_⟩;simp only [Nat.reduceAdd,qn];clear s9;refine WT.t 9 (v:=_) (y:=by rintro w C1;go_simp;with_reducible rfl) (s:=HS.out) (h:=?_);refine WT.t 10 (v:=_) (y:=by rintro w C1;go_simp;with_reducible rfl) (s:=HS.out) (h:=?_);refine WT.onlySkipE 11 (by simp only [qi];rfl) (by kernel_rfl) (by rfl) (zd (v:=.int .i64 (q:Nat)) (n:=1) (by kernel_rfl) (by rfl) (by rfl) S9.out.blk (by rfl) (by simp [Value.cells,lcs]) (by simp [Value.cells,Value.oneCell'])) ?_;intro w10 s10;have S10:Hid (SetAt w7 w10 l (.cells (lcs d sv3 (.slice a5 (lk + r4n) c5') { Lk with recs:=Lk.recs ++ rs,segment:=n,size:=q }) 78 (0,0))):=qq ⟨s10.blk,S9.out.k.trans s10.k (fun _ _ e=>e)⟩;replace HS:Hid ((fun u:World=>u.cell? ⟨b2,0,none⟩=some (.pointer (some ⟨l,0,none⟩))) w10):=qq ((cell_of_block (s10.k.at B29.out (fun e=>hb2l e))).trans rfl);refine ⟨HS.out,?_⟩;simp only [Nat.reduceAdd,qn];clear s10;refine WT.stop (by kernel_rfl) ?_;refine WP.o 12 (v:=_) (y:=by go_simp;first | with_reducible rfl | exact ⟨rfl,rfl⟩) (h:=?_);refine WP.done (by kernel_rfl) ?_;have hI:ReadI X ms W1 l d Fd Rd FL1 RL1 L1 (k + 1) { Lk with recs:=Lk.recs ++ rs,segment:=n,size:=q } wn w10:=by
          have z1:=KK.out.size;have z2:=KQ.out.size;have z3:=KQ7.out.size;have z4:=KB2.out.size;have hRS:∀ k,RLk k -> ¬ S5 k:=fun k hk e=>(HLK.out.apR k hk).2 (HS5.out k e).1;have hSB:∀ k,SinceB wb wq k -> ¬ S5 k:=fun k hk e=>(hk.2.ne (HS5.out k e).2 (by decide)) rfl;refine ⟨⟨_,_,LgAt.put (w0:=wr) (vs:=vs3 ++ vs4) HLK.out (by omega) ((HLK.out.disk.nb KQ.out).keeps KQ7.out (fun k hk e=>(HLK.out.apF k (HS5.out k e).1).1 hk) (fun k hk e=>(HLK.out.apF k (HS5.out k e).1).2 hk)) ⟨_,Q17.out⟩ S10.out ?_ (by have:=h6.out;have:=KWr.out.size;omega) ?_ ?_ ?_ ?_,?_,?_,?_⟩,HOK.out,HKN.out,?_⟩
          ·
           rintro k (e | e | e | e)
           ·exact HLK.out.disk.ltF k e
           ·exact HLK.out.disk.ltR k e
           ·exact HLK.out.ltF k e
           ·exact HLK.out.ltR k e
          ·have hh:=HLK.out.nums;exact ⟨hh.name,hh.n16,hh.most,hh.first,(by have:=hnm;unfold mxn at this;exact Nat.le_trans this (by decide)),hh.segments,(by have:=HRF.out.1;have:=HQ.out;show q <= 33554432;omega),hh.recs.append HRW.out,(by show (Lk.recs ++ rs).length <= _;rw [List.length_append,HLKN.out,HR4.out];omega),hh.snap⟩
          ·exact (Q2.out.keeps KQ.out (fun _ _ e=>e)).keeps KQ7.out hRS |>.mono (fun k e=>.inl e)
          ·
           have e1:(Lk.recs ++ rs).length=lk + r4n:=by rw [List.length_append,HLKN.out,HR4.out]
           show RowS w7 _ _ 22 1 _ (Lk.recs ++ rs).length _;rw [e1];refine R5.out.typed.mono (fun k e=>?_) (fun _ e=>e);rcases e with ⟨e | e,ht⟩
           ·exact .inl e
           ·have e1:wq.heap.size <= k:=e.1;exact .inr ⟨by omega,e.2,ht⟩
          ·exact (((Q4.out.keeps KQ.out (fun _ _ e=>e)).keeps KQ7.out hRS).mono (fun k e=>.inl e)).append ((BL4.out.keeps KQ7.out hSB).mono (fun k e=>.inr ⟨by have:=e.1.1;omega,by have:=e.1.2;omega,e.2.keeps KQ7.out (hSB k e)⟩))
          ·
           rintro k (e | e)
           ·exact HFK.out k e
           ·exact .inr (by omega)
          ·
           rintro k (e | e)
           ·exact HRK.out k e
           ·exact .inr (by omega)
          ·exact ((KK.out.trans_nb KQ.out).trans KQ7.out (fun j hj e=>(HFK.out j (HS5.out j e).1).elim id (fun e=>by omega))).trans S10.out.k (fun j hj e=>by have e:j=l:=e;subst e;exact HW1.out.fl)
          ·show (Lk.recs ++ rs).length <= _;rw [List.length_append,HLKN.out,HR4.out];have:=HKR.out;rw [HLKN.out] at this;omega
         have HI:=qq hI;clear hI HS c28;have hk6:k <= 1000000:=by have:=HN6.out;have:=HLT.out;omega
         go_wp2;go_roundw
         case rel=>exact ⟨k + 1,_,wn,HLT.out,rfl,by go_num,HI.out⟩
         case measure=>have hlt2:=HLT.out;simp [intOf];omega
       ·
        have HOK:Hid (rdl X ms L1 0=rdl X (ms.drop (k + 1)) { Lk with recs:=Lk.recs ++ rs,segment:=n,size:=q } wn):=qq (by
         rw [HST.out,if_pos ⟨rfl,.inl hwq⟩];have:=congrArg (List.drop 1) HDR.out;rw [List.drop_drop] at this;simp at this
         rw [this])
        have c9:wq.cell? ⟨l,9,none⟩=some lv3:=(cell_of_block (KQ.out.nb Q1.out)).trans rfl;have HLQ:=qq (HLK.out.nb KQ.out);have R3:=qq (Q3.out.keeps KQ.out (fun _ _ _ e=>e));obtain ⟨-,p2,a4,c4,ea,p4,p5,p6,p7,p8⟩:=id R4.out;cases ea;have HAS4:=qq p6;have ONE4:=qq p2;have hvl:vs4.length=r4n:=by rw [BL4.out.1];exact HR4.out
        have HVL:=qq hvl;obtain ⟨lk,hlk⟩:∃ q,Lk.recs.length=q:=⟨_,rfl⟩
        have HLKN:=qq hlk;rw [hlk] at R3;have hkr:lk <= 2097153000000:=by have h1:=HKR.out;rw [hlk] at h1;have:=HN6.out;omega
        have hwl:r4n <= 2097153:=by have:=HWL.out;have:=HR4.out;omega
        clear p2 p4 p5 p6 p7 p8 hvl hlk;go_wp2;clear c6q;refine WT.region (fun u=>u.cell? ⟨b2,0,none⟩=some (.pointer (some ⟨l,0,none⟩)) /\ u.cell? ⟨l,9,none⟩=some lv3) 7 10 [0,1,2,3,4,5,6,7,8,9] (by kernel_rfl) rfl ?_;have HS:Hid ((fun u:World=>u.cell? ⟨b2,0,none⟩=some (.pointer (some ⟨l,0,none⟩)) /\ u.cell? ⟨l,9,none⟩=some lv3) wq.drew):=qq ⟨c2q,c9⟩;refine WT.t 0 (v:=.pointer (some ⟨l,0,none⟩)) (y:=by rintro w ⟨C1,C2⟩;exact zb (by kernel_rfl) (by rfl) C1) (s:=HS.out) (h:=?_);refine WT.t 1 (v:=.pointer (some ⟨l,0,none⟩)) (y:=by rintro w ⟨C1,C2⟩;exact zb (by kernel_rfl) (by rfl) C1) (s:=HS.out) (h:=?_);refine WT.t 2 (v:=_) (y:=by rintro w ⟨C1,C2⟩;go_simp;with_reducible rfl) (s:=HS.out) (h:=?_);refine WT.t 3 (v:=_) (y:=by rintro w ⟨C1,C2⟩;go_simp;with_reducible rfl) (s:=HS.out) (h:=?_);refine WT.t 4 (v:=lv3) (y:=by rintro w ⟨C1,C2⟩;exact zb (by kernel_rfl) (by rfl) C2) (s:=HS.out) (h:=?_);refine WT.t 5 (v:=_) (y:=by rintro w ⟨C1,C2⟩;go_simp;with_reducible rfl) (s:=HS.out) (h:=?_);refine WT.o 6 (y:=re_push' el27 (R3.out.keeps ((Keeps.refl Nb wq).drew) (fun _ _ _ e=>e)) (by rfl) (by rfl) (HAS4.out.nb ((Keeps.refl Nb wq).drew)) (by rw [HVL.out];omega) ONE4.out (by unfold maxLen;omega) (by omega)) (h:=?_);rintro lv5 w7 ⟨r5,S5,k5,hS5⟩;simp only [Nat.reduceAdd,qn];have kq7:Keeps S5 wq w7:=((Keeps.refl Nb wq).drew.of_nb).trans k5 (fun _ _ e=>e);have hS5':∀ k,S5 k -> FLk k /\ IsT wq 22 k:=hS5;have hnb2:¬ S5 b2:=fun e=>(HFK.out b2 (hS5' b2 e).1).elim HF.out.1 (fun e=>by have:=G2.out;have:=HZW.out;omega);have hnl:¬ S5 l:=fun e=>by have:=(hS5' l e).2;exact (this.ne ⟨_,_,KQ.out.nb Q1.out⟩ (by decide)) rfl
        have B27:=qq (kq7.at (KQ.out.nb B2r.out) hnb2);have Q17:=qq (kq7.at (KQ.out.nb Q1.out) hnl);have KQ7:=qq kq7;have HS5:=qq hS5';have R5:Hid (RowS w7 (Up FLk wq.drew w7) (fun _=>False) 22 1 lv5 (lk + r4n) (vs3 ++ vs4)):=qq r5;obtain ⟨-,-,a5,c5',rfl,-⟩:=id r5;clear kq7 hS5' hnb2 hnl r5 k5 hS5;replace HS:Hid ((fun u:World=>u.cell? ⟨b2,0,none⟩=some (.pointer (some ⟨l,0,none⟩)) /\ u.cell? ⟨l,9,none⟩=some lv3) w7):=qq ⟨(cell_of_block B27.out).trans rfl,(cell_of_block Q17.out).trans rfl⟩;refine ⟨HS.out,?_⟩;refine WT.stop (by kernel_rfl) ?_;refine WP.o 7 (v:=_) (y:=by go_simp;first | with_reducible rfl | exact ⟨rfl,rfl⟩) (h:=?_);refine WP.o 8 (v:=_) (y:=by go_simp;first | with_reducible rfl | exact ⟨rfl,rfl⟩) (h:=?_);refine WP.onlySkipE 9 (by simp only [qi];rfl) (by kernel_rfl) (by rfl) (zd (v:=.slice a5 (lk + r4n) c5') (n:=1) (by kernel_rfl) (by rfl) (by rfl) Q17.out (by rfl) (by simp [Value.cells,lcs]) (by simp [Value.cells,Value.oneCell'])) ?_;intro w8 s8;simp only [Nat.reduceAdd,qn];refine WP.done (by kernel_rfl) ?_;have B28:=qq (s8.k.at B27.out (fun e=>hb2l e));have S8:Hid (SetAt w7 w8 l (.cells (lcs d sv3 (.slice a5 (lk + r4n) c5') Lk) 78 (0,0))):=qq ⟨s8.blk,s8.k⟩;have c28:w8.cell? ⟨b2,0,none⟩=some (.pointer (some ⟨l,0,none⟩)):=(cell_of_block B28.out).trans rfl;clear s8 HS c2q c9;go_wp2;refine WT.region (fun u=>u.cell? ⟨b2,0,none⟩=some (.pointer (some ⟨l,0,none⟩))) 12 13 [0,1,2,3,4,5,6,7,8,9,10,11,12] (by kernel_rfl) rfl ?_;have HS:Hid ((fun u:World=>u.cell? ⟨b2,0,none⟩=some (.pointer (some ⟨l,0,none⟩))) w8.drew):=qq c28;refine WT.t 0 (v:=.pointer (some ⟨l,0,none⟩)) (y:=by rintro w C1;exact zb (by kernel_rfl) (by rfl) C1) (s:=HS.out) (h:=?_);refine WT.t 1 (v:=.pointer (some ⟨l,0,none⟩)) (y:=by rintro w C1;exact zb (by kernel_rfl) (by rfl) C1) (s:=HS.out) (h:=?_);refine WT.t 2 (v:=_) (y:=by rintro w C1;go_simp;with_reducible rfl) (s:=HS.out) (h:=?_);refine WT.t 3 (v:=_) (y:=by rintro w C1;go_simp;with_reducible rfl) (s:=HS.out) (h:=?_);refine WT.t 4 (v:=_) (y:=by rintro w C1;go_simp;with_reducible rfl) (s:=HS.out) (h:=?_);refine WT.t 5 (v:=_) (y:=by rintro w C1;go_simp;with_reducible rfl) (s:=HS.out) (h:=?_);refine WT.t 6 (v:=_) (y:=by rintro w C1;go_simp;with_reducible rfl) (s:=HS.out) (h:=?_);refine WT.t 7 (v:=_) (y:=by rintro w C1;go_simp;with_reducible rfl) (s:=HS.out) (h:=?_);refine WT.onlySkipE 8 (by simp only [qi];rfl) (by kernel_rfl) (by rfl) (zd (w:=w8.drew) (v:=.int .i64 (n:Nat)) (n:=1) (by kernel_rfl) (by rfl) (by rfl) S8.out.blk (by rfl) (by simp [Value.cells,lcs]) (by simp [Value.cells,Value.oneCell'])) ?_;intro w9 s9;have B29:=qq (s9.k.at (w:=w8.drew) B28.out (fun e=>hb2l e));have S9:Hid (SetAt w7 w9 l (.cells (lcs d sv3 (.slice a5 (lk + r4n) c5') { Lk with segment:=n }) 78 (0,0))):=qq ⟨s9.blk,(S8.out.k.drew).trans s9.k (fun _ _ e=>e)⟩;replace HS:Hid ((fun u:World=>u.cell? ⟨b2,0,none⟩=some (.pointer (some ⟨l,0,none⟩))) w9):=qq ((cell_of_block B29.out).trans rfl);refine ⟨HS.out,?_⟩;simp only [Nat.reduceAdd,qn];clear s9;refine WT.t 9 (v:=_) (y:=by rintro w C1;go_simp;with_reducible rfl) (s:=HS.out) (h:=?_);refine WT.t 10 (v:=_) (y:=by rintro w C1;go_simp;with_reducible rfl) (s:=HS.out) (h:=?_);refine WT.onlySkipE 11 (by simp only [qi];rfl) (by kernel_rfl) (by rfl) (zd (v:=.int .i64 (q:Nat)) (n:=1) (by kernel_rfl) (by rfl) (by rfl) S9.out.blk (by rfl) (by simp [Value.cells,lcs]) (by simp [Value.cells,Value.oneCell'])) ?_;intro w10 s10;have S10:Hid (SetAt w7 w10 l (.cells (lcs d sv3 (.slice a5 (lk + r4n) c5') { Lk with recs:=Lk.recs ++ rs,segment:=n,size:=q }) 78 (0,0))):=qq ⟨s10.blk,S9.out.k.trans s10.k (fun _ _ e=>e)⟩;replace HS:Hid ((fun u:World=>u.cell? ⟨b2,0,none⟩=some (.pointer (some ⟨l,0,none⟩))) w10):=qq ((cell_of_block (s10.k.at B29.out (fun e=>hb2l e))).trans rfl);refine ⟨HS.out,?_⟩;simp only [Nat.reduceAdd,qn];clear s10;refine WT.stop (by kernel_rfl) ?_;refine WP.o 12 (v:=_) (y:=by go_simp;first | with_reducible rfl | exact ⟨rfl,rfl⟩) (h:=?_);refine WP.done (by kernel_rfl) ?_;have hI:ReadI X ms W1 l d Fd Rd FL1 RL1 L1 (k + 1) { Lk with recs:=Lk.recs ++ rs,segment:=n,size:=q } wn w10:=by
         have z1:=KK.out.size;have z2:=KQ.out.size;have z3:=KQ7.out.size;have z4:=KB2.out.size;have hRS:∀ k,RLk k -> ¬ S5 k:=fun k hk e=>(HLK.out.apR k hk).2 (HS5.out k e).1;have hSB:∀ k,SinceB wb wq k -> ¬ S5 k:=fun k hk e=>(hk.2.ne (HS5.out k e).2 (by decide)) rfl;refine ⟨⟨_,_,LgAt.put (w0:=wr) (vs:=vs3 ++ vs4) HLK.out (by omega) ((HLK.out.disk.nb KQ.out).keeps KQ7.out (fun k hk e=>(HLK.out.apF k (HS5.out k e).1).1 hk) (fun k hk e=>(HLK.out.apF k (HS5.out k e).1).2 hk)) ⟨_,Q17.out⟩ S10.out ?_ (by have:=h6.out;have:=KWr.out.size;omega) ?_ ?_ ?_ ?_,?_,?_,?_⟩,HOK.out,HKN.out,?_⟩
         ·
          rintro k (e | e | e | e)
          ·exact HLK.out.disk.ltF k e
          ·exact HLK.out.disk.ltR k e
          ·exact HLK.out.ltF k e
          ·exact HLK.out.ltR k e
         ·have hh:=HLK.out.nums;exact ⟨hh.name,hh.n16,hh.most,hh.first,(by have:=hnm;unfold mxn at this;exact Nat.le_trans this (by decide)),hh.segments,(by have:=HRF.out.1;have:=HQ.out;show q <= 33554432;omega),hh.recs.append HRW.out,(by show (Lk.recs ++ rs).length <= _;rw [List.length_append,HLKN.out,HR4.out];omega),hh.snap⟩
         ·exact (Q2.out.keeps KQ.out (fun _ _ e=>e)).keeps KQ7.out hRS |>.mono (fun k e=>.inl e)
         ·
          have e1:(Lk.recs ++ rs).length=lk + r4n:=by rw [List.length_append,HLKN.out,HR4.out]
          show RowS w7 _ _ 22 1 _ (Lk.recs ++ rs).length _;rw [e1];refine R5.out.typed.mono (fun k e=>?_) (fun _ e=>e);rcases e with ⟨e | e,ht⟩
          ·exact .inl e
          ·have e1:wq.heap.size <= k:=e.1;exact .inr ⟨by omega,e.2,ht⟩
         ·exact (((Q4.out.keeps KQ.out (fun _ _ e=>e)).keeps KQ7.out hRS).mono (fun k e=>.inl e)).append ((BL4.out.keeps KQ7.out hSB).mono (fun k e=>.inr ⟨by have:=e.1.1;omega,by have:=e.1.2;omega,e.2.keeps KQ7.out (hSB k e)⟩))
         ·
          rintro k (e | e)
          ·exact HFK.out k e
          ·exact .inr (by omega)
         ·
          rintro k (e | e)
          ·exact HRK.out k e
          ·exact .inr (by omega)
         ·exact ((KK.out.trans_nb KQ.out).trans KQ7.out (fun j hj e=>(HFK.out j (HS5.out j e).1).elim id (fun e=>by omega))).trans S10.out.k (fun j hj e=>by have e:j=l:=e;subst e;exact HW1.out.fl)
         ·show (Lk.recs ++ rs).length <= _;rw [List.length_append,HLKN.out,HR4.out];have:=HKR.out;rw [HLKN.out] at this;omega
        have HI:=qq hI;clear hI HS c28;have hk6:k <= 1000000:=by have:=HN6.out;have:=HLT.out;omega
        go_wp2;go_roundw
        case rel=>exact ⟨k + 1,_,wn,HLT.out,rfl,by go_num,HI.out⟩
        case measure=>have hlt2:=HLT.out;simp [intOf];omega
     ·
      obtain rfl:k=m:=by omega
      obtain ⟨sv3,lv3,vs3,q1,q2,q3,q4⟩:=HLK.out.ex;have Q1:=qq q1;have Q3:=qq q3;have Q4:=qq q4;have Q2:=qq q2;clear q1 q2 q3 q4;go_wp2_with (first | go_skip | (with_reducible refine qv (by decide) ?_))
      refine za (zc rfl (zd (v:=.int .i64 (k:Nat)) (n:=1) (by kernel_rfl) (by rfl) (by rfl) Q1.out (by rfl) (by simp [Value.cells,lcs]) (by simp [Value.cells,Value.oneCell'])) ?_);intro w7 s7;simp only [Nat.reduceAdd,qn];have hlr:rdl X ms L1 0=some (Lk,en):=by
       rw [HRD.out,List.drop_of_length_le (by rw [HML.out];exact Nat.le_refl _)];rfl
      have c26:w7.cell? ⟨b6,0,none⟩=some (.slice an k cn):=(cell_of_block (s7.k.at B6r.out (fun e=>by have:=G2.out;have:=G6.out;omega))).trans rfl;have HD7:=qq (s7.k.at HDr.out (fun e=>by have:=G2.out;have:=G6.out;omega));have hmg:LgAt w7 l d Fd Rd (fun j=>FLk j \/ (wr.heap.size <= j /\ j < wr.heap.size /\ IsT wr 22 j)) (fun j=>RLk j \/ (wr.heap.size <= j /\ j < wr.heap.size /\ IsT wr 5 j)) { Lk with segments:=k } X:=by
       have hh:=HLK.out.nums;refine LgAt.put (w0:=wr) (vs:=vs3) HLK.out (Nat.le_refl _) HLK.out.disk ⟨_,Q1.out⟩ (sv:=sv3) (lv:=lv3) ⟨s7.blk,s7.k⟩ ?_ (by have:=h6.out;have:=KWr.out.size;omega) ⟨hh.name,hh.n16,hh.most,hh.first,hh.segment,HN6.out,hh.size,hh.recs,hh.nrec,hh.snap⟩ (Q2.out.mono fun j e=>.inl e) (Q3.out.mono (fun j e=>.inl e) (fun _ e=>e)) (Q4.out.mono fun j e=>.inl e);rintro j (e | e | e | e)
       ·exact HLK.out.disk.ltF j e
       ·exact HLK.out.disk.ltR j e
       ·exact HLK.out.ltF j e
       ·exact HLK.out.ltR j e
      have HMG:=qq hmg;have HLR:=qq hlr;have S7:=qq s7.k;have hle6:w.heap.size <= w6.heap.size:=by have:=G2.out;have:=G6.out;omega
      have kp:=zv w7 w6.heap.size (.deferred none);have KWW:Hid (Keeps FL w (w7.putObj w6.heap.size (.deferred none))):=qq ((KWr.out.trans s7.k (fun j hj e=>by have e:j=l:=e;subst e;exact H.out.fl)).trans kp (fun j hj e=>by have:j=w6.heap.size:=e;omega))
      have ncl:Hid (∀ j,(Fd j \/ Rd j \/ (FLk j \/ (wr.heap.size <= j /\ j < wr.heap.size /\ IsT wr 22 j)) \/ (RLk j \/ (wr.heap.size <= j /\ j < wr.heap.size /\ IsT wr 5 j))) -> ¬ j=w6.heap.size):=qq (fun j e h=>by
       have hz1:=HZW.out.2;rcases e with e | e | (e | e) | (e | e)
       ·have:=H.out.disk.ltF j e;omega
       ·have:=H.out.disk.ltR j e;omega
       ·
        rcases HFK.out j e with e | e
        ·have:=ltA.out j (.inr (.inr (.inl e)));have:=G6.out;omega
        ·omega
       ·omega
       ·
        rcases HRK.out j e with e | e
        ·have:=ltA.out j (.inr (.inr (.inr e)));have:=G6.out;omega
        ·omega
       ·omega)
      have HG2:Hid (LgAt (w7.putObj w6.heap.size (.deferred none)) l d Fd Rd (fun j=>FLk j \/ (wr.heap.size <= j /\ j < wr.heap.size /\ IsT wr 22 j)) (fun j=>RLk j \/ (wr.heap.size <= j /\ j < wr.heap.size /\ IsT wr 5 j)) { Lk with segments:=k } X):=qq (hmg.keeps kp (fun j e=>ncl.out j (.inl e)) (fun j e=>ncl.out j (.inr (.inl e))) (fun j e=>ncl.out j (.inr (.inr (.inl e)))) (fun j e=>ncl.out j (.inr (.inr (.inr e)))));clear s7 hlr hmg kp c2 c6;by_cases hk0:k=0
      ·
       have HR:Hid (readR X L s none):=qq (by
        unfold readR;rw [HSN.out]
        exact ⟨ms,HSG.out,by rw [if_pos (List.length_eq_zero_iff.1 (by rw [HML.out];exact hk0))]⟩)
       subst hk0;go_wp2;refine ⟨by simp,.inl ⟨_,_,rfl,run_takeDeferred HD7.out,?_⟩⟩;exact ⟨.tuple #[.int .i64 0,.int .i64 10],by simp [results,Tryz.f59,go_sem],none,HR.out,rfl,HG2.out.disk,KWW.out⟩
      ·
       have HR:Hid (readR X L s (some ({ Lk with segments:=k },en))):=qq (by
        unfold readR;rw [HSN.out];refine ⟨ms,HSG.out,?_⟩
        rw [if_neg (fun e=>hk0 (by rw [<- HML.out,e];rfl)),HLR.out,HML.out];rfl)
       have HU:Hid (LUp w (w7.putObj w6.heap.size (.deferred none)) l d Fd Rd FL RL { Lk with segments:=k } X):=qq (by
        refine ⟨_,_,HG2.out,?_,?_,KWW.out⟩
        ·
         have hz:=KWr.out.size;have hz1:=KW1.out.size;rintro j (e | e)
         ·
          rcases HFK.out j e with e | e
          ·exact (HFL1.out j e).imp id (fun e=>by have:=G2.out;omega)
          ·exact .inr (by omega)
         ·omega
        ·
         have hz:=KWr.out.size;have hz1:=KW1.out.size;rintro j (e | e)
         ·
          rcases HRK.out j e with e | e
          ·exact (HRL1.out j e).imp id (fun e=>by have:=G2.out;omega)
          ·exact .inr (by omega)
         ·omega)
       have t1:((k:Int) == 0)=false:=by simpa using hk0
       clear hk0;go_wp2;refine ⟨by simp,.inl ⟨_,_,rfl,run_takeDeferred HD7.out,?_⟩⟩;exact ⟨.tuple #[.int .i64 (en:Nat),.int .i64 0],by simp [results,Tryz.f59,go_sem],_,HR.out,rfl,HU.out⟩
end Go.Proofs.YtpjomdmjohjheaaGreatDoor
end
section
namespace Go.Proofs.YtpjomdmjohjheaaGreatDoor
open Go.RowKit Go.Lk Go.Vfs Go.Log
theorem OpE.disk {w u w1:World} {l d:Nat} {Fd Rd FL RL:Nat -> Prop} {L:Lg} {X:Ds} {k er:Int} {o:Log.Op} {D':Dk} {fc':Nat -> Fl} (h:LgAt w l d Fd Rd FL RL L X) (hk:Keeps Nb w u) (hn:Now u w1 d Fd Rd D' fc') (ho:o X er ⟨D',fc'⟩) (hp:pot ⟨D',fc'⟩ <= pot X + k) :
  OpE w l d Fd Rd FL RL L X k o (.returned (.int .i64 er)) w1:=(opE_disk' (h.nb hk) hn ho hp).from hk
theorem OpE.same {w w1:World} {l d:Nat} {Fd Rd FL RL:Nat -> Prop} {L:Lg} {X:Ds} {k er:Int} {o:Log.Op} (h:LgAt w l d Fd Rd FL RL L X) (hk:Keeps Nb w w1) (ho:o X er X) (h0:0 <= k) :
  OpE w l d Fd Rd FL RL L X k o (.returned (.int .i64 er)) w1:=⟨er,X,L,rfl,LNow.of (h.nb hk) hk,ho,fun _=>rfl,.inl rfl,by omega⟩
theorem z11 {nm:ByteArray} {n:Nat} (h:nm.size <= 16) (hn:n <= 9223372036854775807):(sgf nm n).size <= maxLen:=z5c h (by have:=z3t hn;omega)
def EB (b:Nat) (f:Int):World -> (Nat -> Prop) -> (Nat -> Prop) -> Prop:=Box b (.cells #[.int .i64 f] 24 (0,0))
def NB (b n:Nat):World -> (Nat -> Prop) -> (Nat -> Prop) -> Prop:=Box b (.cells #[.int .i64 (n:Nat)] 3 (0,0))
def DB (b d:Nat):World -> (Nat -> Prop) -> (Nat -> Prop) -> Prop:=Box b (.cells #[.pointer (some ⟨d,0,none⟩)] 37 (0,0))
theorem zg2 (l d b:Nat) (f:Int) (L:Lg):OpC l d L 0 ⟨54,#[],#[.pointer (some ⟨b,0,none⟩)]⟩ (erO f) (EB b f):=by
 rintro w Fd Rd FL RL X h hv ⟨hb,-,-⟩ hp;have c:w.cell? ⟨b,0,none⟩=some (.int .i64 f):=(cell_of_block hb).trans rfl;have F:=qq (OpE.same (k:=0) (o:=erO f) (er:=f) h (Keeps.refl _ _) ⟨rfl,rfl⟩ (by omega));clear h hv hp hb;show Calls Tryz.prog 54 #[.pointer (some ⟨b,0,none⟩)] w _;go_enter Tryz.func54,Tryz.ntmps54;go_wp2;go_ret;exact F.out
theorem mk55_c (l d b3 b10 b15 n:Nat) (L:Lg) (hn:n <= 9223372036854775807):OpC l d L 3 ⟨55,#[],#[.pointer (some ⟨b3,0,none⟩),.pointer (some ⟨b10,0,none⟩),.pointer (some ⟨b15,0,none⟩)]⟩ (mkO (sgf L.name n)) (fun w a b=>DB b3 d w a b /\ LB b10 l w a b /\ NB b15 n w a b):=by
 rintro w Fd Rd FL RL X h hv ⟨⟨hb3,o3⟩,⟨hb10,o10⟩,⟨hb15,o15⟩⟩ hp;have OO:=qq (And.intro o3 (And.intro o10 o15));obtain ⟨sv,lv,hcs⟩:=h.cells;have c3:w.cell? ⟨b3,0,none⟩=some (.pointer (some ⟨d,0,none⟩)):=(cell_of_block hb3).trans rfl;have c10:w.cell? ⟨b10,0,none⟩=some (.pointer (some ⟨l,0,none⟩)):=(cell_of_block hb10).trans rfl;have c15:w.cell? ⟨b15,0,none⟩=some (.int .i64 (n:Nat)):=(cell_of_block hb15).trans rfl;have H:=qq h;have h16:=h.nums.n16;have SA:=qq (z0r l L.name n w.drew (hv.nb (Keeps.refl Nb w).drew) ((cell_of_block (hcs w.drew (Keeps.refl Nb w).drew)).trans rfl) (by omega) hn);have HP:=qq (z0b hp (by omega));clear h hv hb3 hb10 hb15 hcs hp o3 o10 o15;show Calls Tryz.prog 55 #[.pointer (some ⟨b3,0,none⟩),.pointer (some ⟨b10,0,none⟩),.pointer (some ⟨b15,0,none⟩)] w _;go_enter Tryz.func55,Tryz.ntmps55;go_wp2;refine WT.region (fun u=>u.cell? ⟨b3,0,none⟩=some (.pointer (some ⟨d,0,none⟩)) /\ u.cell? ⟨b10,0,none⟩=some (.pointer (some ⟨l,0,none⟩)) /\ u.cell? ⟨b15,0,none⟩=some (.int .i64 (n:Nat))) 5 6 [0,1,2,3,4,5] (by kernel_rfl) rfl ?_
 have fac:∀ u,Keeps (fun k=>Fd k) w u -> (fun u:World=>u.cell? ⟨b3,0,none⟩=some (.pointer (some ⟨d,0,none⟩)) /\ u.cell? ⟨b10,0,none⟩=some (.pointer (some ⟨l,0,none⟩)) /\ u.cell? ⟨b15,0,none⟩=some (.int .i64 (n:Nat))) u:=fun u hu =>
  ⟨(hu.cell (lt_of_cell c3) OO.out.1.1).trans c3,(hu.cell (lt_of_cell c10) OO.out.2.1.1).trans c10,(hu.cell (lt_of_cell c15) OO.out.2.2.1).trans c15⟩
 have FAC:=qq fac;have HS:=qq (fac w.drew (Keeps.refl _ w).drew);clear fac;refine WT.t 0 (v:=.pointer (some ⟨d,0,none⟩)) (y:=by rintro w ⟨C1,C2,C3⟩;exact zb (by kernel_rfl) (by rfl) C1) (s:=HS.out) (h:=?_);refine WT.t 1 (v:=.pointer (some ⟨l,0,none⟩)) (y:=by rintro w ⟨C1,C2,C3⟩;exact zb (by kernel_rfl) (by rfl) C2) (s:=HS.out) (h:=?_);refine WT.t 2 (v:=.int .i64 (n:Nat)) (y:=by rintro w ⟨C1,C2,C3⟩;exact zb (by kernel_rfl) (by rfl) C3) (s:=HS.out) (h:=?_);refine WT.call 3 (by simp only [qi];rfl) (by kernel_rfl) (by rfl) (by go_simp;first | done | rfl | exact ⟨⟨rfl,rfl⟩,rfl⟩ | exact ⟨⟨rfl,rfl,rfl⟩,rfl⟩ | exact ⟨⟨rfl,rfl,rfl,rfl⟩,rfl⟩ | exact ⟨⟨rfl,rfl,rfl,rfl,rfl⟩,rfl⟩) SA.out ?_;rintro _ w1 ⟨rfl,k1⟩;have K1:Hid (Keeps Nb w w1):=qq (((Keeps.refl Nb w).drew).trans_nb k1);refine ⟨_,rfl,FAC.out w1 K1.out.of_nb,?_⟩;simp only [Nat.reduceAdd,qn];have MA:=qq (z50 d (sgf L.name n) X.D Fd Rd X.fc w1 (H.out.disk.nb K1.out) (z11 h16 hn) HP.out);refine WT.call 4 (by simp only [qi];rfl) (by kernel_rfl) (by rfl) (by go_simp;first | done | rfl | exact ⟨⟨rfl,rfl⟩,rfl⟩ | exact ⟨⟨rfl,rfl,rfl⟩,rfl⟩ | exact ⟨⟨rfl,rfl,rfl,rfl⟩,rfl⟩ | exact ⟨⟨rfl,rfl,rfl,rfl,rfl⟩,rfl⟩) MA.out ?_;rintro _ w2 ⟨er,D',fc',rfl,hn2,hr⟩;have ho:mkO (sgf L.name n) X er ⟨D',fc'⟩:=⟨w1.heap.size,fun b hb=>(H.out.disk.nb K1.out).ltF b ((H.out.disk.nb K1.out).file b hb).2,hr⟩
 have hk2:Keeps Fd w w2:=(K1.out.of_nb).trans (by obtain ⟨_,_,_,_,_,hk⟩:=hn2;exact hk) (fun _ _ e=>e);have F:=qq (OpE.disk (k:=3) H.out K1.out hn2 ho (z6a ho));have S2:=FAC.out w2 hk2;clear hn2 hr ho MA SA k1 HS;refine ⟨_,rfl,S2,?_⟩;simp only [Nat.reduceAdd,qn];refine WT.stop (by kernel_rfl) ?_;refine WP.o 5 (v:=_) (y:=by go_simp;first | with_reducible rfl | exact ⟨rfl,rfl⟩) (h:=?_);refine WP.done (by kernel_rfl) ?_;go_wp2;go_ret;exact F.out
theorem zge (l d b10 b15 n:Nat) (L:Lg) (hn:n <= 4294967296):OpC l d L 9 ⟨57,#[],#[.pointer (some ⟨b10,0,none⟩),.pointer (some ⟨b15,0,none⟩)]⟩ (manO L.name 0 n) (fun w a b=>LB b10 l w a b /\ NB b15 n w a b):=by
 rintro w Fd Rd FL RL X h hv ⟨⟨hb10,o10⟩,⟨hb15,o15⟩⟩ hp;have c10:w.cell? ⟨b10,0,none⟩=some (.pointer (some ⟨l,0,none⟩)):=(cell_of_block hb10).trans rfl;have c15:w.cell? ⟨b15,0,none⟩=some (.int .i64 (n:Nat)):=(cell_of_block hb15).trans rfl;have MW:=qq (zfh l d Fd Rd FL RL L X 0 n w h hv (by omega) hn hp);clear h hv hp hb10 hb15;show Calls Tryz.prog 57 #[.pointer (some ⟨b10,0,none⟩),.pointer (some ⟨b15,0,none⟩)] w _;go_enter Tryz.func57,Tryz.ntmps57;go_wp2_with fail;refine MW.out.mono ?_;rintro e w1 hE;obtain ⟨er,X',L',rfl,-⟩:=id hE;have F:=qq hE;clear hE MW;go_wp2;go_ret;exact F.out
theorem sy62_c (l d b3 b10:Nat) (L:Lg):OpC l d L 1 ⟨62,#[],#[.pointer (some ⟨b3,0,none⟩),.pointer (some ⟨b10,0,none⟩)]⟩ (syO L.seg) (fun w a b=>DB b3 d w a b /\ LB b10 l w a b):=by
 rintro w Fd Rd FL RL X h hv ⟨⟨hb3,o3⟩,⟨hb10,o10⟩⟩ hp;have OO:=qq (And.intro o3 o10);obtain ⟨sv,lv,hcs⟩:=h.cells;have c3:w.cell? ⟨b3,0,none⟩=some (.pointer (some ⟨d,0,none⟩)):=(cell_of_block hb3).trans rfl;have c10:w.cell? ⟨b10,0,none⟩=some (.pointer (some ⟨l,0,none⟩)):=(cell_of_block hb10).trans rfl;have cl:w.cell? ⟨l,4,none⟩=some (.int .i64 (L.segment:Nat)):=(cell_of_block (hcs w (Keeps.refl _ _))).trans rfl;have H:=qq h;have h16:=h.nums.n16;have hsg:=h.nums.segment;have SA:=qq (z0r l L.name L.segment w.drew (hv.nb (Keeps.refl Nb w).drew) ((cell_of_block (hcs w.drew (Keeps.refl Nb w).drew)).trans rfl) (by omega) (by omega));have HP:=qq (z0b hp (by omega));clear h hv hb3 hb10 hcs hp o3 o10;show Calls Tryz.prog 62 #[.pointer (some ⟨b3,0,none⟩),.pointer (some ⟨b10,0,none⟩)] w _;go_enter Tryz.func62,Tryz.ntmps62;go_wp2;refine WT.region (fun u=>u.cell? ⟨b3,0,none⟩=some (.pointer (some ⟨d,0,none⟩)) /\ u.cell? ⟨b10,0,none⟩=some (.pointer (some ⟨l,0,none⟩)) /\ u.cell? ⟨l,4,none⟩=some (.int .i64 (L.segment:Nat))) 8 9 [0,1,2,3,4,5,6,7,8] (by kernel_rfl) rfl ?_
 have fac:∀ u,Keeps (fun k=>Fd k) w u -> (fun u:World=>u.cell? ⟨b3,0,none⟩=some (.pointer (some ⟨d,0,none⟩)) /\ u.cell? ⟨b10,0,none⟩=some (.pointer (some ⟨l,0,none⟩)) /\ u.cell? ⟨l,4,none⟩=some (.int .i64 (L.segment:Nat))) u:=fun u hu =>
  ⟨(hu.cell (lt_of_cell c3) OO.out.1.1).trans c3,(hu.cell (lt_of_cell c10) OO.out.2.1).trans c10,(hu.cell (lt_of_cell cl) (H.out.apF l H.out.fl).1).trans cl⟩
 have FAC:=qq fac;have HS:=qq (fac w.drew (Keeps.refl _ w).drew);clear fac;refine WT.t 0 (v:=.pointer (some ⟨d,0,none⟩)) (y:=by rintro w ⟨C1,C2,C3⟩;exact zb (by kernel_rfl) (by rfl) C1) (s:=HS.out) (h:=?_);refine WT.t 1 (v:=.pointer (some ⟨l,0,none⟩)) (y:=by rintro w ⟨C1,C2,C3⟩;exact zb (by kernel_rfl) (by rfl) C2) (s:=HS.out) (h:=?_);refine WT.t 2 (v:=.pointer (some ⟨l,0,none⟩)) (y:=by rintro w ⟨C1,C2,C3⟩;exact zb (by kernel_rfl) (by rfl) C2) (s:=HS.out) (h:=?_);refine WT.t 3 (v:=_) (y:=by rintro w ⟨C1,C2,C3⟩;go_simp;with_reducible rfl) (s:=HS.out) (h:=?_);refine WT.t 4 (v:=_) (y:=by rintro w ⟨C1,C2,C3⟩;go_simp;with_reducible rfl) (s:=HS.out) (h:=?_);refine WT.t 5 (v:=.int .i64 (L.segment:Nat)) (y:=by rintro w ⟨C1,C2,C3⟩;exact zb (by kernel_rfl) (by rfl) C3) (s:=HS.out) (h:=?_);refine WT.call 6 (by simp only [qi];rfl) (by kernel_rfl) (by rfl) (by go_simp;first | done | rfl | exact ⟨⟨rfl,rfl⟩,rfl⟩ | exact ⟨⟨rfl,rfl,rfl⟩,rfl⟩ | exact ⟨⟨rfl,rfl,rfl,rfl⟩,rfl⟩ | exact ⟨⟨rfl,rfl,rfl,rfl,rfl⟩,rfl⟩) SA.out ?_;rintro _ w1 ⟨rfl,k1⟩;have K1:Hid (Keeps Nb w w1):=qq (((Keeps.refl Nb w).drew).trans_nb k1);refine ⟨_,rfl,FAC.out w1 K1.out.of_nb,?_⟩;simp only [Nat.reduceAdd,qn];have MA:=qq (z3r d (sgf L.name L.segment) X.D Fd Rd X.fc w1 (H.out.disk.nb K1.out) (z11 h16 (by omega)) HP.out);refine WT.call 7 (by simp only [qi];rfl) (by kernel_rfl) (by rfl) (by go_simp;first | done | rfl | exact ⟨⟨rfl,rfl⟩,rfl⟩ | exact ⟨⟨rfl,rfl,rfl⟩,rfl⟩ | exact ⟨⟨rfl,rfl,rfl,rfl⟩,rfl⟩ | exact ⟨⟨rfl,rfl,rfl,rfl,rfl⟩,rfl⟩) MA.out ?_;rintro _ w2 ⟨er,D',fc',rfl,hn2,hr⟩;have ho:syO L.seg X er ⟨D',fc'⟩:=hr;have hk2:Keeps Fd w w2:=(K1.out.of_nb).trans (by obtain ⟨_,_,_,_,_,hk⟩:=hn2;exact hk) (fun _ _ e=>e);have F:=qq (OpE.disk (k:=1) H.out K1.out hn2 ho (z4n ho));have S2:=FAC.out w2 hk2;clear hn2 hr ho MA SA k1 HS;refine ⟨_,rfl,S2,?_⟩;simp only [Nat.reduceAdd,qn];refine WT.stop (by kernel_rfl) ?_;refine WP.o 8 (v:=_) (y:=by go_simp;first | with_reducible rfl | exact ⟨rfl,rfl⟩) (h:=?_);refine WP.done (by kernel_rfl) ?_;go_wp2;go_ret;exact F.out
theorem zfy (l d b3 b10 b17 en:Nat) (L:Lg) (hen:en <= 33554432):OpC l d L 1 ⟨60,#[],#[.pointer (some ⟨b10,0,none⟩),.pointer (some ⟨b17,0,none⟩),.pointer (some ⟨b3,0,none⟩)]⟩ (if L.size=en then nop else cuO L.seg en) (fun w a b=>LB b10 l w a b /\ NB b17 en w a b /\ DB b3 d w a b):=by
 rintro w Fd Rd FL RL X h hv ⟨⟨hb10,o10⟩,⟨hb17,o17⟩,⟨hb3,o3⟩⟩ hp;have OO:=qq (And.intro o3 (And.intro o10 o17));obtain ⟨sv,lv,hcs⟩:=h.cells;have c3:w.cell? ⟨b3,0,none⟩=some (.pointer (some ⟨d,0,none⟩)):=(cell_of_block hb3).trans rfl;have c10:w.cell? ⟨b10,0,none⟩=some (.pointer (some ⟨l,0,none⟩)):=(cell_of_block hb10).trans rfl;have c17:w.cell? ⟨b17,0,none⟩=some (.int .i64 (en:Nat)):=(cell_of_block hb17).trans rfl;have cl:w.cell? ⟨l,4,none⟩=some (.int .i64 (L.segment:Nat)):=(cell_of_block (hcs w (Keeps.refl _ _))).trans rfl;have cz:w.cell? ⟨l,6,none⟩=some (.int .i64 (L.size:Nat)):=(cell_of_block (hcs w (Keeps.refl _ _))).trans rfl;have H:=qq h;have h16:=h.nums.n16;have hsg:=h.nums.segment;have HCS:=qq hcs;have HV:=qq hv;have HP:=qq (z0b hp (by omega));clear h hv hb3 hb10 hb17 hcs hp o3 o10 o17;show Calls Tryz.prog 60 #[.pointer (some ⟨b10,0,none⟩),.pointer (some ⟨b17,0,none⟩),.pointer (some ⟨b3,0,none⟩)] w _
 have fac:∀ u,Keeps (fun k=>Fd k) w u -> (fun u:World=>u.cell? ⟨b3,0,none⟩=some (.pointer (some ⟨d,0,none⟩)) /\ u.cell? ⟨b10,0,none⟩=some (.pointer (some ⟨l,0,none⟩)) /\ u.cell? ⟨l,4,none⟩=some (.int .i64 (L.segment:Nat)) /\ u.cell? ⟨b17,0,none⟩=some (.int .i64 (en:Nat)) /\ u.cell? ⟨l,6,none⟩=some (.int .i64 (L.size:Nat))) u:=fun u hu =>
  ⟨(hu.cell (lt_of_cell c3) OO.out.1.1).trans c3,(hu.cell (lt_of_cell c10) OO.out.2.1.1).trans c10,(hu.cell (lt_of_cell cl) (H.out.apF l H.out.fl).1).trans cl,(hu.cell (lt_of_cell c17) OO.out.2.2.1).trans c17,(hu.cell (lt_of_cell cz) (H.out.apF l H.out.fl).1).trans cz⟩
 have FAC:=qq fac;clear fac;generalize ho60:(if L.size=en then nop else cuO L.seg en)=o60;have HO:=qq ho60;clear ho60;go_enter Tryz.func60,Tryz.ntmps60;go_wp2;refine WT.region (fun u:World=>u.cell? ⟨b3,0,none⟩=some (.pointer (some ⟨d,0,none⟩)) /\ u.cell? ⟨b10,0,none⟩=some (.pointer (some ⟨l,0,none⟩)) /\ u.cell? ⟨l,4,none⟩=some (.int .i64 (L.segment:Nat)) /\ u.cell? ⟨b17,0,none⟩=some (.int .i64 (en:Nat)) /\ u.cell? ⟨l,6,none⟩=some (.int .i64 (L.size:Nat))) 6 6 [0,1,2,3,4,5] (by kernel_rfl) rfl ?_;have HS:=qq (FAC.out w.drew (Keeps.refl _ w).drew);refine WT.t 0 (v:=.pointer (some ⟨l,0,none⟩)) (y:=by rintro w ⟨C1,C2,C3,C4,C5⟩;exact zb (by kernel_rfl) (by rfl) C2) (s:=HS.out) (h:=?_);refine WT.t 1 (v:=_) (y:=by rintro w ⟨C1,C2,C3,C4,C5⟩;go_simp;with_reducible rfl) (s:=HS.out) (h:=?_);refine WT.t 2 (v:=_) (y:=by rintro w ⟨C1,C2,C3,C4,C5⟩;go_simp;with_reducible rfl) (s:=HS.out) (h:=?_);refine WT.t 3 (v:=.int .i64 (L.size:Nat)) (y:=by rintro w ⟨C1,C2,C3,C4,C5⟩;exact zb (by kernel_rfl) (by rfl) C5) (s:=HS.out) (h:=?_);refine WT.t 4 (v:=.int .i64 (en:Nat)) (y:=by rintro w ⟨C1,C2,C3,C4,C5⟩;exact zb (by kernel_rfl) (by rfl) C4) (s:=HS.out) (h:=?_);refine WT.t 5 (v:=_) (y:=by rintro w ⟨C1,C2,C3,C4,C5⟩;go_simp;with_reducible rfl) (s:=HS.out) (h:=?_);refine WT.stop (by kernel_rfl) ?_;refine WP.done (by kernel_rfl) ?_;have K0:Hid (Keeps Nb w w.drew):=qq (Keeps.refl _ w).drew;by_cases hse:L.size=en
 ·have F:=qq (OpE.same (k:=1) (o:=o60) (er:=0) H.out K0.out (by rw [<- HO.out,if_pos hse];exact ⟨rfl,rfl⟩) (by omega));clear HS;go_wp2;go_ret;exact F.out
 ·have HSE:=qq hse;clear HS;go_wp2;refine WT.region (fun u:World=>u.cell? ⟨b3,0,none⟩=some (.pointer (some ⟨d,0,none⟩)) /\ u.cell? ⟨b10,0,none⟩=some (.pointer (some ⟨l,0,none⟩)) /\ u.cell? ⟨l,4,none⟩=some (.int .i64 (L.segment:Nat)) /\ u.cell? ⟨b17,0,none⟩=some (.int .i64 (en:Nat)) /\ u.cell? ⟨l,6,none⟩=some (.int .i64 (L.size:Nat))) 9 10 [0,1,2,3,4,5,7,6,8,9] (by kernel_rfl) rfl ?_;have K00:Hid (Keeps Nb w w.drew.drew):=qq (Keeps.refl _ w).drew.drew;have HS:=qq (FAC.out w.drew.drew K00.out.of_nb);have SA:=qq (z0r l L.name L.segment w.drew.drew (HV.out.nb K00.out) ((cell_of_block (HCS.out w.drew.drew K00.out)).trans rfl) (by omega) (by omega));refine WT.t 0 (v:=.pointer (some ⟨d,0,none⟩)) (y:=by rintro w ⟨C1,C2,C3,C4,C5⟩;exact zb (by kernel_rfl) (by rfl) C1) (s:=HS.out) (h:=?_);refine WT.t 1 (v:=.pointer (some ⟨l,0,none⟩)) (y:=by rintro w ⟨C1,C2,C3,C4,C5⟩;exact zb (by kernel_rfl) (by rfl) C2) (s:=HS.out) (h:=?_);refine WT.t 2 (v:=.pointer (some ⟨l,0,none⟩)) (y:=by rintro w ⟨C1,C2,C3,C4,C5⟩;exact zb (by kernel_rfl) (by rfl) C2) (s:=HS.out) (h:=?_);refine WT.t 3 (v:=_) (y:=by rintro w ⟨C1,C2,C3,C4,C5⟩;go_simp;with_reducible rfl) (s:=HS.out) (h:=?_);refine WT.t 4 (v:=_) (y:=by rintro w ⟨C1,C2,C3,C4,C5⟩;go_simp;with_reducible rfl) (s:=HS.out) (h:=?_);refine WT.t 5 (v:=.int .i64 (L.segment:Nat)) (y:=by rintro w ⟨C1,C2,C3,C4,C5⟩;exact zb (by kernel_rfl) (by rfl) C3) (s:=HS.out) (h:=?_);refine WT.t 7 (v:=.int .i64 (en:Nat)) (y:=by rintro w ⟨C1,C2,C3,C4,C5⟩;exact zb (by kernel_rfl) (by rfl) C4) (s:=HS.out) (h:=?_);refine WT.call 6 (by simp only [qi];rfl) (by kernel_rfl) (by rfl) (by go_simp;first | done | rfl | exact ⟨⟨rfl,rfl⟩,rfl⟩ | exact ⟨⟨rfl,rfl,rfl⟩,rfl⟩ | exact ⟨⟨rfl,rfl,rfl,rfl⟩,rfl⟩ | exact ⟨⟨rfl,rfl,rfl,rfl,rfl⟩,rfl⟩) SA.out ?_;rintro _ w1 ⟨rfl,k1⟩;have K1:Hid (Keeps Nb w w1):=qq (K00.out.trans_nb k1);refine ⟨_,rfl,FAC.out w1 K1.out.of_nb,?_⟩;simp only [Nat.reduceAdd,qn];have MA:=qq (z8a d (sgf L.name L.segment) en X.D Fd Rd X.fc w1 (H.out.disk.nb K1.out) (z11 h16 (by omega)) HP.out (by omega));refine WT.call 8 (by simp only [qi];rfl) (by kernel_rfl) (by rfl) (by go_simp;first | done | rfl | exact ⟨⟨rfl,rfl⟩,rfl⟩ | exact ⟨⟨rfl,rfl,rfl⟩,rfl⟩ | exact ⟨⟨rfl,rfl,rfl,rfl⟩,rfl⟩ | exact ⟨⟨rfl,rfl,rfl,rfl,rfl⟩,rfl⟩) MA.out ?_;rintro _ w2 ⟨er,D',fc',rfl,hn2,hr⟩;have ho:cuO L.seg en X er ⟨D',fc'⟩:=hr;have hk2:Keeps Fd w w2:=(K1.out.of_nb).trans (by obtain ⟨_,_,_,_,_,hk⟩:=hn2;exact hk) (fun _ _ e=>e);have F:=qq (OpE.disk (k:=1) (o:=o60) H.out K1.out hn2 (by rw [<- HO.out,if_neg HSE.out];exact ho) (pot_cu ho));have S2:=FAC.out w2 hk2;clear hn2 hr ho MA SA k1 HS;refine ⟨_,rfl,S2,?_⟩;simp only [Nat.reduceAdd,qn];refine WT.stop (by kernel_rfl) ?_;refine WP.o 9 (v:=_) (y:=by go_simp;first | with_reducible rfl | exact ⟨rfl,rfl⟩) (h:=?_);refine WP.done (by kernel_rfl) ?_;go_wp2;go_ret;exact F.out
end Go.Proofs.YtpjomdmjohjheaaGreatDoor
end
