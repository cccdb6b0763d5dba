import Derived.Test.YtpjomdmjohjheaaGreatDoorB2
set_option linter.unusedVariables false
set_option linter.unusedSimpArgs false
set_option maxRecDepth 100000
set_option maxHeartbeats 8000000
section
namespace Go.Log
open Go.Lk Go.RowKit Go.Vfs
variable {its:List (Int × List Nat)} {i:Nat} {p:Int × List Nat}
def endI (its:List (Int × List Nat)) (i:Nat):Int:=((its.take i).getLast?.map Prod.fst).getD 0
theorem zd7 (h:its[i]?=some p):endI its (i + 1)=p.1:=by
 have hi:=(List.getElem?_eq_some_iff.1 h).1;unfold endI;rw [List.take_succ_eq_append_getElem hi,List.getLast?_append];have:its[i]=p:=(List.getElem?_eq_some_iff.1 h).2;simp [this]
def goodI (its:List (Int × List Nat)) (i:Nat):Prop:=∀ q ∈ its.take i,0 <= q.1
theorem zc4 (h:its[i]?=some p) (hg:goodI its i) (hp:0 <= p.1):goodI its (i + 1):=by
 have hi:=(List.getElem?_eq_some_iff.1 h).1;intro q hq;rw [List.take_succ_eq_append_getElem hi] at hq;rcases List.mem_append.1 hq with hq | hq
 ·exact hg q hq
 ·rw [List.mem_singleton.1 hq,(List.getElem?_eq_some_iff.1 h).2];exact hp
theorem zdo (h:its[i]?=some p):(its.take (i + 1)).map Prod.snd=(its.take i).map Prod.snd ++ [p.2]:=by
 have hi:=(List.getElem?_eq_some_iff.1 h).1;rw [List.take_succ_eq_append_getElem hi,List.map_append,(List.getElem?_eq_some_iff.1 h).2];rfl
theorem takeWhile_take {α:Type} (f:α -> Bool):∀ (l:List α) (i:Nat),(∀ q ∈ l.take i,f q=true) -> (∀ q,l[i]?=some q -> f q=false) -> l.takeWhile f=l.take i
 | [],i,_,_=>by simp
 | x :: l,0,_,h2=>by rw [List.takeWhile_cons,h2 x rfl];simp
 | x :: l,i + 1,h1,h2=>by
  rw [List.takeWhile_cons,h1 x (by simp),List.take_succ_cons,if_pos rfl,takeWhile_take f l i (fun q hq=>h1 q (by simp [hq])) (fun q hq=>h2 q (by simpa using hq))]
theorem za7 (hg:goodI its i):0 <= endI its i:=by
 unfold endI;cases h:(its.take i).getLast? with
 | none=>simp
 | some q=>exact hg q (List.mem_of_getLast? h)
theorem zcm (hg:goodI its its.length):wholeI its=(its.map Prod.snd,(endI its its.length).toNat,true):=by
 have hgd:good its=its:=by
  have:=takeWhile_take (fun p:Int × List Nat=>decide (0 <= p.1)) its its.length (fun q hq=>by simpa using hg q hq) (fun q hq=>by simp at hq)
  rwa [List.take_length] at this
 unfold wholeI;rw [hgd];simp [endI]
theorem zcn (hg:goodI its i) (h:its[i]?=some p) (hp:p.1 < 0):wholeI its=((its.take i).map Prod.snd,(endI its i).toNat,false):=by
 have hgd:good its=its.take i:=takeWhile_take (fun p:Int × List Nat=>decide (0 <= p.1)) its i (fun q hq=>by simpa using hg q hq) (fun q hq=>by rw [h] at hq;cases hq;simpa using hp);have hi:=(List.getElem?_eq_some_iff.1 h).1;unfold wholeI;rw [hgd];refine Prod.ext rfl (Prod.ext rfl ?_);simp;omega
end Go.Log
namespace Go.Proofs.YtpjomdmjohjheaaGreatDoor
open Go.RowKit Go.Lk Go.Vfs Go.Log
def WholeD (b:List Nat) (w:World) (e:Ending) (w':World):Prop :=
 ∃ lv vs,e=.returned (.tuple #[lv,.int .i64 ((whole b).2.1:Nat),.bool (whole b).2.2]) /\ RowS w' (Since w w') (fun _=>False) 22 1 lv (whole b).1.length vs /\ BytesL w' (SinceB w w') vs (whole b).1 /\ Keeps Nb w w'
def WhI (w0:World) (g5 g6 g7:Nat) (its:List (Int × List Nat)) (i:Nat) (r:Bool) (W:World):Prop :=
 ∃ lv vs,W.heap[g5]?=some (.cells #[lv] 27 (0,0)) /\ W.heap[g6]?=some (.cells #[.int .i64 (endI its i)] 3 (0,0)) /\ W.heap[g7]?=some (.cells #[.bool r] 4 (0,0)) /\
  RowS W (fun b=>w0.heap.size + 2 <= b /\ b < W.heap.size) (fun _=>False) 22 1 lv i vs /\ BytesL W (fun b=>(w0.heap.size + 2 <= b /\ b < W.heap.size) /\ IsT W 5 b) vs ((its.take i).map Prod.snd) /\ goodI its i /\ Keeps (fun b=>w0.heap.size <= b \/ b=g5 \/ b=g6 \/ b=g7) w0 W
theorem WhI.nb {w0 W W':World} {g5 g6 g7 i:Nat} {its:List (Int × List Nat)} {r:Bool} (h:WhI w0 g5 g6 g7 its i r W) (k:Keeps (Book w0) W W') (h5:g5 < w0.heap.size) (h6:g6 < w0.heap.size) (h7:g7 < w0.heap.size):WhI w0 g5 g6 g7 its i r W':=by
 obtain ⟨lv,vs,e1,e2,e3,e4,e5,e6,e7⟩:=h;have kz:=k.size;have nb:∀ {b:Nat},w0.heap.size + 2 <= b -> ¬ Book w0 b:=fun h e=>by unfold Book at e;omega
 have nl:∀ {b:Nat},b < w0.heap.size -> ¬ Book w0 b:=fun h e=>by unfold Book at e;omega
 refine ⟨lv,vs,k.at e1 (nl h5),k.at e2 (nl h6),k.at e3 (nl h7),(e4.keeps k (fun b hb _=>nb (hb.elim (fun h=>h.1) (fun h=>h.elim)))).mono (fun b hb=>⟨hb.1,by omega⟩) (fun _ h=>h),(e5.keeps k (fun b hb=>nb hb.1.1)).mono (fun b hb=>⟨⟨hb.1.1,by have:=hb.1.2;omega⟩,hb.2.keeps k (nb hb.1.1)⟩),e6,e7.trans k (fun b _ e=>by unfold Book at e;exact .inl (by omega))⟩
theorem z8s {b:List Nat} {w w6 W W':World} {g5 g6 g7 i:Nat} {its:List (Int × List Nat)} {r:Bool} {lv:Value} {vs:List Value} (K6:Keeps Nb w w6) (hits:items (b.length + 1) 0 b=its) (hw:wholeI its=((its.take i).map Prod.snd,(endI its i).toNat,r)) (hi:i <= its.length)
  (e4:RowS W (fun b=>w6.heap.size + 2 <= b /\ b < W.heap.size) (fun _=>False) 22 1 lv i vs) (e5:BytesL W (fun b=>(w6.heap.size + 2 <= b /\ b < W.heap.size) /\ IsT W 5 b) vs ((its.take i).map Prod.snd)) (e6:goodI its i)
  (e7:Keeps (fun b=>w6.heap.size <= b \/ b=g5 \/ b=g6 \/ b=g7) w6 W) (h5:w.heap.size <= g5) (h6:w.heap.size <= g6) (h7:w.heap.size <= g7) (kp:Keeps (·=w6.heap.size) W W'):WholeD b w (.returned (.tuple #[lv,.int .i64 (endI its i),.bool r])) W':=by
 have hwb:whole b=((its.take i).map Prod.snd,(endI its i).toNat,r):=by unfold whole;rw [hits];exact hw
 have z:=K6.size;have zz:=e7.size;have zp:=kp.size;have hlen:((its.take i).map Prod.snd).length=i:=by simp;omega
 refine ⟨lv,vs,?_,?_,?_,(K6.trans e7 (fun j hj e=>by omega)).trans kp (fun j hj e=>by omega)⟩
 ·rw [hwb];have:=za7 e6;simp only;rw [Int.toNat_of_nonneg this]
 ·rw [hwb];simp only;rw [hlen];exact (e4.keeps kp (fun k hk _ e=>by have:=hk.elim (fun h=>h.1) (fun h=>h.elim);omega)).mono (fun k hk=>⟨by have:=hk.1;omega,by have:=hk.2;omega⟩) (fun _ h=>h)
 ·rw [hwb];exact (e5.keeps kp (fun k hk e=>by have:=hk.1;omega)).mono (fun k hk=>⟨⟨by have:=hk.1;omega,by have:=hk.1;omega⟩,hk.2.keeps kp (fun e=>by have:=hk.1;omega)⟩)
attribute [local go_sem] Oper.semAt_some
theorem z6d (v:Value) (b:List Nat) (R:Nat -> Prop) (w:World) (h:Bytes w R v b) (hR:∀ k,R k -> k < w.heap.size) (hl:b.length <= 16777216):Calls Tryz.prog 12 #[v] w (WholeD b w):=by
 obtain ⟨va,vc,rfl,hq⟩:=id h;have HB:=qq h;have HR:=qq hR;have HL:=qq hl;obtain ⟨m,hm⟩:∃ m,b.length=m:=⟨_,rfl⟩
 have HM:=qq hm;rw [hm];clear h hR hl hq hm;refine z1b Tryz.func12 rfl ?_;simp only [Tryz.ntmps12,List.size_toArray,List.length_cons,List.length_nil,Nat.reduceAdd,Nat.reduceSub,Array.replicate_succ,Array.replicate_zero,List.push_toArray,List.append_toArray,List.nil_append,List.cons_append];go_wp2
 go_step3
 go_wp2_with (first | go_skip | (with_reducible refine qv (by decide) ?_))
 refine za (valloc (z:=.slice none 0 0) (by kernel_rfl) ?_);intro g5 w1 n1;simp only [Nat.reduceAdd,qn];go_wp2_with (first | go_skip | (with_reducible refine qv (by decide) ?_))
 refine za (valloc (z:=.int .i64 0) (by kernel_rfl) ?_);intro g6 w2 n2;simp only [Nat.reduceAdd,qn];go_wp2_with (first | go_skip | (with_reducible refine qv (by decide) ?_))
 refine za (valloc (z:=.bool false) (by kernel_rfl) ?_);intro g7 w3 n3;simp only [Nat.reduceAdd,qn];go_wp2_with (first | go_skip | (with_reducible refine qv (by decide) ?_))
 refine za (zc rfl (zd (v:=.int .i64 0) (n:=1) (by kernel_rfl) (by rfl) (by rfl) (n3.k.nb n2.blk) (by rfl) (by simp [Value.cells]) (by simp [Value.cells,Value.oneCell'])) ?_);intro w4 s4;simp only [Nat.reduceAdd,qn];go_wp2_with (first | go_skip | (with_reducible refine qv (by decide) ?_))
 refine za (zc rfl (zd (v:=.bool true) (n:=1) (by kernel_rfl) (by rfl) (by rfl) (s4.k.at n3.blk (fun e=>by have:=n2.lt;have:=n3.ge;omega)) (by rfl) (by simp [Value.cells]) (by simp [Value.cells,Value.oneCell'])) ?_);intro w5 s5;simp only [Nat.reduceAdd,qn];have L12:g5 < g6:=by have:=n1.lt;have:=n2.ge;omega
 have L23:g6 < g7:=by have:=n2.lt;have:=n3.ge;omega
 have B5:Hid (w5.heap[g5]?=some (.cells #[.slice none 0 0] 27 (0,0))):=qq (s5.k.at (s4.k.at (n3.k.nb (n2.k.nb n1.blk)) (fun e=>by omega)) (fun e=>by omega));have B6:Hid (w5.heap[g6]?=some (.cells #[.int .i64 0] 3 (0,0))):=qq (s5.k.at s4.blk (fun e=>by omega));have B7:Hid (w5.heap[g7]?=some (.cells #[.bool true] 4 (0,0))):=qq s5.blk;have K5:Hid (Keeps Nb w w5):=qq ((((n1.k.trans_nb n2.k).trans_nb n3.k).own (k:=g6) (by have:=n1.ge;omega) s4.k).own (k:=g7) (by have:=n1.ge;omega) s5.k);have G5:Hid (w.heap.size <= g5):=qq n1.ge;clear n1 n2 n3 s4 s5;go_wp2
 go_step3
 go_wp2_with fail;refine (zhp va m vc w5).mono ?_;rintro _ w6 ⟨a,rfl,n6⟩;obtain ⟨its,hits⟩:∃ its,items (b.length + 1) 0 b=its:=⟨_,rfl⟩
 have HI:=qq hits;have K6:=qq (K5.out.trans_nb n6.k);have A6:=qq n6.blk;have L5:g7 < w5.heap.size:=lt_of_block B7.out;have hga:=n6.ge;have hal:=n6.lt;have zw6:=K6.out.size;have L6:g7 < w6.heap.size:=by omega
 have W6:Hid (WhI w6 g5 g6 g7 its 0 true w6):=qq ⟨_,[],n6.k.nb B5.out,n6.k.nb B6.out,n6.k.nb B7.out,RowS.nil _ _ _ _ _,BytesL.nil _ _,(fun q hq=>by simp at hq),Keeps.refl _ _⟩;have OI:=ze0 8 (by omega) a (.slice va m vc) b R (fun b=>w6.heap.size <= b \/ b=g5 \/ b=g6 \/ b=g7) w6 n6.blk (by rw [<- HM.out];exact HB.out.keeps K6.out (fun _ _ e=>e)) HL.out (fun e=>by omega) (fun k hk e=>by have:=HR.out k hk;have:=G5.out;omega);rw [hits] at OI;have OIH:=qq OI;clear hits OI n6 B5 B6 B7;go_wp2_with (with_reducible refine z0z ?_)
 refine za ((wpIn_wide (n:=9)).1 ?_)
 refine z1o (gf:=101) (lb:=#[.pointer (some ⟨a,0,none⟩)]) (by rfl) (enters_of Tryz.func101 (by kernel_rfl) rfl) OIH.out
  (fun b hb=>.inl (by unfold Book at hb;omega)) (fun i args W h=>by obtain ⟨p,v,-,rfl,-⟩:=h;rfl)
  (fun i W=>WhI w6 g5 g6 g7 its i true W) (fun c W=>c=.exit 0 /\ ∃ i p,its[i]?=some p /\ p.1 < 0 /\ WhI w6 g5 g6 g7 its i false W)
  (fun i A B h k=>h.nb k (by omega) (by omega) L6) (fun c A B h k=>⟨h.1,by obtain ⟨i,p,h1,h2,h3⟩:=h.2;exact ⟨i,p,h1,h2,h3.nb k (by omega) (by omega) L6⟩⟩) W6.out ?round ?done ?stop
 case round =>
  rintro l i args W rfl hW2 hI hi ⟨p,v,hp,rfl,hv⟩;simp only [List.zip_toArray,List.zip_cons_cons,List.zip_nil_right,List.foldl_toArray,List.foldl_cons,List.foldl_nil,List.setIfInBounds_toArray,List.set_cons_succ,List.set_cons_zero];have HIH:=qq hI;have HP:=qq hp;have HV:=qq hv;clear hI hp hv
  repeat (first | (with_reducible refine zg ?_) | (with_reducible refine stop_range ?_) | gi_step)
  refine za (zi (by kernel_rfl) (by rintro ⟨_,_,h⟩;exact h) ?_);go_wp2
  repeat (first | (with_reducible refine zg ?_) | (with_reducible refine stop_range ?_) | gi_step)
  refine za (zi (by kernel_rfl) (by rintro ⟨_,_,h⟩;exact h) ?_);go_wp2;refine ⟨Keeps.refl _ _,fun W3 k3=>?_⟩;obtain ⟨en,x⟩:=p;have kB:Keeps (Book w6) W W3:=k3.mono (fun i _ e=>.inr e);obtain ⟨lv,vs,e1,e2,e3,e4,e5,e6,e7⟩:=HIH.out.nb kB (by omega) (by omega) L6;obtain ⟨av,cv,rfl,hv1⟩:=HV.out;have HV3:Hid (Bytes W3 (fun k=>(w6.heap.size + 2 <= k /\ k < W3.heap.size) /\ IsT W3 5 k) (.slice av x.length cv) x):=qq ((HV.out.keeps kB (fun k hk e=>by unfold Book at e;have:=hk.1;omega)).mono (fun k hk=>⟨⟨hk.1.1,by have:=hk.1.2;have:=k3.size;omega⟩,hk.2.keeps kB (fun e=>by unfold Book at e;have:=hk.1;omega)⟩));have E1:=qq e1;have E2:=qq e2;have E3:=qq e3;have E4:=qq e4;have E5:=qq e5;have E6:=qq e6;have E7:=qq e7;have hWz:w6.heap.size + 2 <= W3.heap.size:=by have:=k3.size;omega
  clear e1 e2 e3 e4 e5 e6 e7 hv1 kB k3 HIH
  repeat (first | (with_reducible refine zg ?_) | (with_reducible refine stop_range ?_) | gi_step)
  refine za (zi (by kernel_rfl) (by rintro ⟨_,_,h⟩;exact h) ?_);by_cases hen:0 <= en
  ·
   have t0:decide (0 <= en)=true:=by simpa using hen
   go_wp2_with (first | go_skip | (with_reducible refine qv (by decide) ?_))
   refine za (zc rfl (zd (v:=.bool true) (n:=1) (by kernel_rfl) (by rfl) (by first | rfl | simp [t0]) E3.out (by rfl) (by simp [Value.cells]) (by simp [Value.cells,Value.oneCell'])) ?_);intro W4 s4;simp only [Nat.reduceAdd,qn];have c7:W4.cell? ⟨g7,0,none⟩=some (.bool true):=(cell_of_block s4.blk).trans rfl;have S7:=qq s4.blk;have K4:=qq s4.k;clear s4;go_wp2
   repeat (first | (with_reducible refine zg ?_) | (with_reducible refine stop_range ?_) | gi_step)
   refine za (zi (by kernel_rfl) (by rintro ⟨_,_,h⟩;exact h) ?_);go_wp2
   repeat (first | (with_reducible refine zg ?_) | (with_reducible refine stop_range ?_) | gi_step)
   refine za (zi (by kernel_rfl) (by rintro ⟨_,_,h⟩;exact h) ?_);have c5:W4.cell? ⟨g5,0,none⟩=some lv:=(cell_of_block (K4.out.at E1.out (fun e=>by omega))).trans rfl;go_wp2_with (first | go_skip | (with_reducible refine qv (by decide) ?_))
   refine za (zj rfl (zl el27 [.slice av x.length cv] rfl (by simp [List.range'_succ];first | done | rfl | exact ⟨rfl,rfl⟩ | exact ⟨rfl,rfl,rfl⟩ | exact ⟨rfl,rfl,rfl,rfl⟩ | exact ⟨rfl,rfl,rfl,rfl,rfl⟩ | exact ⟨rfl,rfl,rfl,rfl,rfl,rfl⟩) (by simp [Value.cells]) (by simp)) ?_);rintro _ W5 ⟨g8,rfl,n8⟩;simp only [Nat.reduceAdd,qn];have HH8:Has W5 (some ⟨g8,0,none⟩) [.slice av x.length cv]:=zm n8.blk
   have R5:RowS W5 (fun b=>w6.heap.size + 2 <= b /\ b < W5.heap.size) (fun _=>False) 22 1 lv i vs :=
    ((E4.out.keeps K4.out (fun k hk _ e=>by have:=hk.elim (fun h=>h.1) (fun h=>h.elim);omega)).keeps n8.k (fun _ _ _ e=>e)).mono (fun k hk=>⟨hk.1,by have:=hk.2;have:=K4.out.size;have:=n8.k.size;omega⟩) (fun _ h=>h)
   have hil:=hi;have hmx:its.length <= 100000000:=by have h1:=z3h (b.length + 1) 0 b;rw [HI.out] at h1;have:=HL.out;omega
   have HR5:=qq R5;have HH8':=qq HH8;have K5':=qq n8.k;clear n8 R5 HH8 c5;go_wp2_with (first | go_skip | (with_reducible refine qv (by decide) ?_))
   refine za (zj rfl (z1s el27 HR5.out (by rfl) (by rfl) HH8'.out rfl (by intro u hu;rw [List.mem_singleton.1 hu];rfl) (by omega) (by unfold maxLen;omega) (by omega)) ?_);rintro lv' W6 ⟨hr6,S6,k6,hS6⟩;simp only [Nat.reduceAdd,qn];obtain ⟨hx1,hx2,lva,lvc,rfl,hx3⟩:=id hr6;have b56:W6.heap[g5]?=some (.cells #[lv] 27 (0,0)):=k6.at (K5'.out.nb (K4.out.at E1.out (fun e=>by omega))) (fun e=>by have:=(hS6 _ e).1.1;omega)
   have b66:W6.heap[g6]?=some (.cells #[.int .i64 (endI its i)] 3 (0,0)):=k6.at (K5'.out.nb (K4.out.at E2.out (fun e=>by omega))) (fun e=>by have:=(hS6 _ e).1.1;omega)
   have b76:W6.heap[g7]?=some (.cells #[.bool true] 4 (0,0)):=k6.at (K5'.out.nb S7.out) (fun e=>by have:=(hS6 _ e).1.1;omega)
   have q6:Keeps (fun b=>(w6.heap.size + 2 <= b) \/ b=g7) W3 W6:=((K4.out.mono (S':=fun b=>(w6.heap.size + 2 <= b) \/ b=g7) (fun _ _ e=>.inr e)).trans_nb K5'.out).trans k6 (fun j _ e=>.inl (hS6 j e).1.1);have tr:∀ k,(w6.heap.size + 2 <= k /\ k < W3.heap.size) /\ IsT W3 5 k -> (¬ S6 k) /\ ((w6.heap.size + 2 <= k /\ k < W6.heap.size) /\ IsT W6 5 k):=fun k hk=>by
    have t5:IsT W5 5 k:=(hk.2.keeps K4.out (fun e=>by have:=hk.1;omega)).keeps K5'.out (fun e=>e);have hn:¬ S6 k:=fun e=>t5.ne (hS6 k e).2 (by decide) rfl;exact ⟨hn,⟨hk.1.1,by have:=hk.1.2;have:=K4.out.size;have:=K5'.out.size;have:=k6.size;omega⟩,t5.keeps k6 hn⟩
   have hbl:BytesL W6 (fun b=>(w6.heap.size + 2 <= b /\ b < W6.heap.size) /\ IsT W6 5 b) (vs ++ [.slice av x.length cv]) ((its.take (i + 1)).map Prod.snd):=by
    rw [zdo HP.out];have kk:Keeps (fun b=>b=g7 \/ S6 b) W3 W6:=((K4.out.mono (S':=fun b=>b=g7 \/ S6 b) (fun _ _ e=>.inl e)).trans_nb K5'.out).trans k6 (fun j _ e=>.inr e);have hnn:∀ k,(w6.heap.size + 2 <= k /\ k < W3.heap.size) /\ IsT W3 5 k -> ¬ (k=g7 \/ S6 k):=fun k hk e=>e.elim (fun e=>by have:=hk.1;omega) (tr k hk).1;exact ((E5.out.keeps kk hnn).mono (fun k hk=>(tr k hk).2)).append (.cons ((HV3.out.keeps kk hnn).mono (fun k hk=>(tr k hk).2)) (.nil _ _))
   go_wp2_with (first | go_skip | (with_reducible refine qv (by decide) ?_))
   refine za (zc rfl (zd (v:=.slice lva (i + 1) lvc) (n:=1) (by kernel_rfl) (by rfl) (by rfl) b56 (by rfl) (by simp [Value.cells]) (by simp [Value.cells,Value.oneCell'])) ?_);intro W7 s7;simp only [Nat.reduceAdd,qn];go_wp2_with (first | go_skip | (with_reducible refine qv (by decide) ?_))
   refine za (zc rfl (zd (v:=.int .i64 en) (n:=1) (by kernel_rfl) (by rfl) (by rfl) (s7.k.at b66 (fun e=>by omega)) (by rfl) (by simp [Value.cells]) (by simp [Value.cells,Value.oneCell'])) ?_);intro W8 s8;simp only [Nat.reduceAdd,qn];have k68:Keeps (fun b=>b=g5 \/ b=g6) W6 W8:=(s7.k.mono (S':=fun b=>b=g5 \/ b=g6) (fun _ _ e=>.inl e)).trans s8.k (fun _ _ e=>.inr e);have kf:Keeps (fun b=>(w6.heap.size <= b \/ b=g5 \/ b=g6 \/ b=g7) /\ ¬ Book w6 b) W3 W8:=(q6.mono (S':=fun b=>(w6.heap.size <= b \/ b=g5 \/ b=g6 \/ b=g7) /\ ¬ Book w6 b) (fun j _ e=>by unfold Book;omega)).trans k68 (fun j _ e=>by unfold Book;omega);have hI':WhI w6 g5 g6 g7 its (i + 1) true W8:=by
    refine ⟨.slice lva (i + 1) lvc,vs ++ [.slice av x.length cv],s8.k.at s7.blk (fun e=>by omega),?_,s8.k.at (s7.k.at b76 (fun e=>by omega)) (fun e=>by omega),?_,?_,zc4 HP.out E6.out hen,E7.out.trans kf (fun j _ e=>e.1)⟩
    ·rw [zd7 HP.out];exact s8.blk
    ·
     refine (hr6.keeps k68 (fun k hk _ e=>?_)).mono (fun k hk=>?_) (fun _ h=>h)
     ·
      rcases hk with (h | h) | h
      ·have:=h.1;omega
      ·have:=K4.out.size;have:=K5'.out.size;omega
      ·exact h
     ·
      rcases hk with h | h
      ·have:=h.2;have:=k6.size;have:=k68.size;exact ⟨h.1,by omega⟩
      ·have:=K4.out.size;have:=K5'.out.size;have:=k68.size;exact ⟨by omega,by omega⟩
    ·exact (hbl.keeps k68 (fun k hk e=>by have:=hk.1;omega)).mono (fun k hk=>⟨⟨hk.1.1,by have:=hk.1.2;have:=k68.size;omega⟩,hk.2.keeps k68 (fun e=>by have:=hk.1;omega)⟩)
   refine wpList_nil ?_;exact ⟨kf,hI'⟩
  ·
   have t0:decide (0 <= en)=false:=by simpa using hen
   go_wp2_with (first | go_skip | (with_reducible refine qv (by decide) ?_))
   refine za (zc rfl (zd (v:=.bool false) (n:=1) (by kernel_rfl) (by rfl) (by first | rfl | simp [t0]) E3.out (by rfl) (by simp [Value.cells]) (by simp [Value.cells,Value.oneCell'])) ?_);intro W4 s4;simp only [Nat.reduceAdd,qn];have c7:W4.cell? ⟨g7,0,none⟩=some (.bool false):=(cell_of_block s4.blk).trans rfl;have kf:Keeps (fun b=>(w6.heap.size <= b \/ b=g5 \/ b=g6 \/ b=g7) /\ ¬ Book w6 b) W3 W4:=s4.k.mono (fun j _ e=>by unfold Book;omega);have hI':WhI w6 g5 g6 g7 its i false W4:=by
    have z:=s4.k.size;refine ⟨lv,vs,s4.k.at E1.out (fun e=>by omega),s4.k.at E2.out (fun e=>by omega),s4.blk,(E4.out.keeps s4.k (fun k hk _ e=>by have:=hk.elim (fun h=>h.1) (fun h=>h.elim);omega)).mono (fun k hk=>⟨hk.1,by have:=hk.2;omega⟩) (fun _ h=>h),(E5.out.keeps s4.k (fun k hk e=>by have:=hk.1;omega)).mono (fun k hk=>⟨⟨hk.1.1,by have:=hk.1.2;omega⟩,hk.2.keeps s4.k (fun e=>by have:=hk.1;omega)⟩),E6.out,E7.out.trans kf (fun j _ e=>e.1)⟩
   have HF:Hid (Keeps (fun b=>(w6.heap.size <= b \/ b=g5 \/ b=g6 \/ b=g7) /\ ¬ Book w6 b) W3 W4 /\ WhI w6 g5 g6 g7 its i false W4):=qq ⟨kf,hI'⟩;have hen2:en < 0:=by omega
   clear s4 kf hI';go_wp2
   repeat (first | (with_reducible refine zg ?_) | (with_reducible refine stop_range ?_) | gi_step)
   refine za (zi (by kernel_rfl) (by rintro ⟨_,_,h⟩;exact h) ?_);go_wp2
   gi_wp2
   exact ⟨HF.out.1,rfl,i,(en,x),HP.out,hen2,HF.out.2⟩
 case done =>
  rintro W ⟨lv,vs,e1,e2,e3,e4,e5,e6,e7⟩ hD;have c5:W.cell? ⟨g5,0,none⟩=some lv:=(cell_of_block e1).trans rfl;have c6:W.cell? ⟨g6,0,none⟩=some (.int .i64 (endI its its.length)):=(cell_of_block e2).trans rfl;have c7:W.cell? ⟨g7,0,none⟩=some (.bool true):=(cell_of_block e3).trans rfl;have E4:=qq e4;have E5:=qq e5;have E6:=qq e6;have E7:=qq e7;have HD:=qq hD;clear e1 e2 e3 e4 e5 e6 e7 hD;go_wp2
  go_quiet (fail)
  go_wp2;have kp:=((Keeps.refl (·=w6.heap.size) W).drewN nq).trans (zw (W.drewN nq) w6.heap.size (.deferred none)) (fun _ _ e=>e);rw [Exit.noGoto_ret];refine ⟨by simp,.inl ⟨_,_,rfl,run_takeDeferred (show (W.drewN nq).heap[w6.heap.size]?=_ from HD.out),?_⟩⟩;refine ⟨.tuple #[lv,.int .i64 (endI its its.length),.bool true],by simp [results,Tryz.f12,go_sem],?_⟩;exact z8s K6.out HI.out (by rw [List.take_length];exact zcm E6.out) (Nat.le_refl _) E4.out E5.out E6.out E7.out G5.out (by have:=G5.out;omega) (by have:=G5.out;omega) kp
 case stop =>
  rintro c W ⟨rfl,i,p,hp,hneg,lv,vs,e1,e2,e3,e4,e5,e6,e7⟩ hD;have c5:W.cell? ⟨g5,0,none⟩=some lv:=(cell_of_block e1).trans rfl;have c6:W.cell? ⟨g6,0,none⟩=some (.int .i64 (endI its i)):=(cell_of_block e2).trans rfl;have c7:W.cell? ⟨g7,0,none⟩=some (.bool false):=(cell_of_block e3).trans rfl;have E4:=qq e4;have E5:=qq e5;have E6:=qq e6;have E7:=qq e7;have HD:=qq hD;have HP:=qq hp;clear e1 e2 e3 e4 e5 e6 e7 hD hp
  gi_wp2
  go_wp2
  go_quiet (fail)
  go_wp2;have kp:=((Keeps.refl (·=w6.heap.size) W).drewN nq).trans (zw (W.drewN nq) w6.heap.size (.deferred none)) (fun _ _ e=>e);rw [Exit.noGoto_ret];refine ⟨by simp,.inl ⟨_,_,rfl,run_takeDeferred (show (W.drewN nq).heap[w6.heap.size]?=_ from HD.out),?_⟩⟩;refine ⟨.tuple #[lv,.int .i64 (endI its i),.bool false],by simp [results,Tryz.f12,go_sem],?_⟩;exact z8s K6.out HI.out (zcn E6.out HP.out hneg) (Nat.le_of_lt (List.getElem?_eq_some_iff.1 HP.out).1) E4.out E5.out E6.out E7.out G5.out (by have:=G5.out;omega) (by have:=G5.out;omega) kp
end Go.Proofs.YtpjomdmjohjheaaGreatDoor
end
section
namespace Go.Log
open Go.Vfs (mnB okc sb)
def mxn:Nat:=2147483647
theorem z03 (a b:ByteArray):(a ++ b).data.toList=a.data.toList ++ b.data.toList:=by
 rw [ByteArray.data_append,Array.toList_append]
theorem z34 {a b:ByteArray} (h:a.data.toList=b.data.toList):a=b:=by
 cases a;cases b;simp only at h;congr 1;exact Array.ext' h
theorem z3u (a:ByteArray):a.size=a.data.toList.length:=by rw [Array.length_toList];rfl
def dig (n:Nat):ByteArray:=⟨(Lib.decDigits n).toArray⟩
theorem z0x (n:Nat):(dig n).data.toList=Lib.decDigits n:=by simp [dig]
theorem z6t:∀ (l:List UInt8) (acc:Nat) (c:UInt8) (u:Nat),Lib.parseUint10 acc l=.ok u -> Lib.parseUint10 acc (l ++ [c])=Lib.parseUint10 u [c]
 | [],acc,c,u,h=>by
  simp only [Lib.parseUint10] at h;injection h with h
  rw [h];rfl
 | d :: l,acc,c,u,h=>by
  rw [List.cons_append];unfold Lib.parseUint10 at h ⊢;split at h
  ·
   rename_i h1;rw [if_pos h1];split at h
   ·cases h
   ·
    rename_i h2;rw [if_neg h2];split at h
    ·cases h
    ·rename_i h3;rw [if_neg h3];exact z6t l _ c u h
  ·cases h
theorem z8j:∀ (n:Nat),n < 1000000000000 -> Lib.parseUint10 0 (Lib.decDigits n)=.ok n
 | n,hn=>by
  rw [Lib.decDigits];split
  ·
   rename_i h;have e:(UInt8.ofNat (48 + n)).toNat=48 + n:=by rw [UInt8.toNat_ofNat'];omega
   simp only [Lib.parseUint10,e];rw [if_pos (by omega),if_neg (by omega),if_neg (by omega)]
   congr 1;omega
  ·
   rename_i h;have e:(UInt8.ofNat (48 + n % 10)).toNat=48 + n % 10:=by rw [UInt8.toNat_ofNat'];omega
   rw [z6t _ _ _ _ (z8j (n / 10) (by omega))];simp only [Lib.parseUint10,e];rw [if_pos (by omega),if_neg (by omega),if_neg (by omega)]
   congr 1;omega
theorem z2l:∀ (n:Nat),∀ c ∈ Lib.decDigits n,48 <= c.toNat /\ c.toNat <= 57
 | n,c,hc=>by
  rw [Lib.decDigits] at hc;split at hc
  ·rename_i h;rw [List.mem_singleton.1 hc,UInt8.toNat_ofNat'];omega
  ·
   rename_i h;rcases List.mem_append.1 hc with hc | hc
   ·exact z2l (n / 10) c hc
   ·rw [List.mem_singleton.1 hc,UInt8.toNat_ofNat'];omega
theorem zd4 (n:Nat):Lib.decDigits n ≠ []:=by
 rw [Lib.decDigits];split <;> simp
theorem zem {n:Nat} (hn:n < 1000000000000):Lib.atoiAll (Lib.decDigits n)=.ok (n:Int):=by
 obtain ⟨c,r,h⟩:=List.exists_cons_of_ne_nil (zd4 n);have hc:=z2l n c (by rw [h];simp);have hp:=z8j n hn;rw [h] at hp ⊢;rw [Lib.atoiAll_plain c r (by omega) (by omega)];unfold Lib.parseMag;rw [if_neg (by simp),hp];unfold Lib.signless;simp only;rw [if_neg (by omega)]
def nmb (l:List UInt8):Nat:=match Lib.atoiAll l with
 | .ok v=>if 1 <= v /\ v <= 2147483647 /\ Lib.itoa v=l then v.toNat else 0
 | _=>0
theorem zb8 {n:Nat} (h1:1 <= n) (h2:n <= mxn):nmb (Lib.decDigits n)=n:=by
 unfold mxn at h2;unfold nmb;rw [zem (by omega)];simp only;rw [if_pos ⟨by omega,by omega,Lib.itoa_nonneg n⟩];omega
theorem z9i {l:List UInt8} (h:nmb l ≠ 0):l=Lib.decDigits (nmb l) /\ 1 <= nmb l /\ nmb l <= mxn:=by
 unfold nmb at h ⊢;split at h
 ·
  rename_i v hv;split at h
  ·
   rename_i h2;rw [if_pos h2];unfold mxn;refine ⟨?_,by omega,by omega⟩;obtain ⟨k,rfl⟩:∃ k:Nat,v=k:=⟨v.toNat,by omega⟩
   rw [<- h2.2.2,Lib.itoa_nonneg];simp
  ·exact absurd rfl h
 ·exact absurd rfl h
def pn (p s:ByteArray):Nat:=if Lib.hasPrefix s.data.toList p.data.toList=true then nmb (s.data.toList.drop p.data.toList.length) else 0
theorem z3b (p t:ByteArray):pn p (p ++ t)=nmb t.data.toList:=by
 unfold pn Lib.hasPrefix;rw [z03,if_pos (by simp),List.drop_left]
theorem zhu {p s:ByteArray} (h:pn p s ≠ 0):s=p ++ dig (pn p s) /\ 1 <= pn p s /\ pn p s <= mxn:=by
 unfold pn at h ⊢;split at h
 ·rename_i hp;rw [if_pos hp];obtain ⟨h1,h2,h3⟩:=z9i h;refine ⟨z34 ?_,h2,h3⟩;rw [z03,z0x,<- h1];unfold Lib.hasPrefix at hp;obtain ⟨r,hr⟩:=List.isPrefixOf_iff_prefix.1 hp;rw [<- hr,List.drop_left]
 ·exact absurd rfl h
def sDot:ByteArray:=⟨#[46]⟩
def sS:ByteArray:=⟨#[115]⟩
def sMan:ByteArray:=⟨#[109,97,110]⟩
def sNew:ByteArray:=⟨#[110,101,119]⟩
def fl (nm s:ByteArray):ByteArray:=nm ++ sDot ++ s
def sgf (nm:ByteArray) (n:Nat):ByteArray:=fl nm (dig n)
def snf (nm:ByteArray) (n:Nat):ByteArray:=fl nm (sS ++ dig n)
def manf (nm:ByteArray):ByteArray:=fl nm sMan
def newf (nm:ByteArray):ByteArray:=fl nm sNew
def sgn (nm s:ByteArray):Nat:=pn (fl nm ByteArray.empty) s
def snn (nm s:ByteArray):Nat:=pn (fl nm sS) s
theorem z1k (nm s:ByteArray):(fl nm s).data.toList=nm.data.toList ++ (46 :: s.data.toList):=by
 unfold fl;rw [z03,z03];simp [sDot]
theorem fl_inj {nm s t:ByteArray} (h:fl nm s=fl nm t):s=t:=by
 have:=congrArg (fun b:ByteArray=>b.data.toList) h;simp only [z1k,List.append_cancel_left_eq,List.cons.injEq,true_and] at this;exact z34 this
theorem z39 (nm s:ByteArray):fl nm s=fl nm ByteArray.empty ++ s:=z34 (by rw [z03,z1k,z1k];simp)
theorem fl_s (nm s:ByteArray):fl nm (sS ++ s)=fl nm sS ++ s:=z34 (by rw [z03,z1k,z1k,z03];simp)
theorem z1l (nm:ByteArray) {n:Nat} (h1:1 <= n) (h2:n <= mxn):sgn nm (sgf nm n)=n:=by
 unfold sgn sgf;rw [z39 nm (dig n),z3b,z0x,zb8 h1 h2]
theorem z30 (nm:ByteArray) {n:Nat} (h1:1 <= n) (h2:n <= mxn):snn nm (snf nm n)=n:=by
 unfold snn snf;rw [fl_s nm (dig n),z3b,z0x,zb8 h1 h2]
theorem z3e {nm s:ByteArray} (h:sgn nm s ≠ 0):s=sgf nm (sgn nm s) /\ 1 <= sgn nm s /\ sgn nm s <= mxn:=by
 obtain ⟨h1,h2⟩:=zhu h;exact ⟨by unfold sgf;rw [z39];exact h1,h2⟩
theorem z60 {c:UInt8} {l:List UInt8} (h:¬ (48 <= c.toNat /\ c.toNat <= 57)):nmb (c :: l)=0:=by
 rcases Nat.eq_zero_or_pos (nmb (c :: l)) with h0 | h0
 ·exact h0
 ·obtain ⟨h1,-⟩:=z9i (show nmb (c :: l) ≠ 0 by omega);exact absurd (z2l _ c (by rw [<- h1];simp)) h
theorem zbk (nm:ByteArray) (n:Nat):sgn nm (snf nm n)=0:=by
 unfold sgn snf;rw [z39 nm (sS ++ dig n),z3b,z03];exact z60 (by decide)
theorem zbi (nm:ByteArray):sgn nm (manf nm)=0:=by
 unfold sgn manf;rw [z39 nm sMan,z3b];exact z60 (by decide)
theorem zbj (nm:ByteArray):sgn nm (newf nm)=0:=by
 unfold sgn newf;rw [z39 nm sNew,z3b];exact z60 (by decide)
theorem z9y {nm s:ByteArray} {c:UInt8} {l:List UInt8} (hs:s.data.toList=c :: l) (hc:c ≠ 115):snn nm (fl nm s)=0:=by
 unfold snn pn;rw [if_neg];unfold Lib.hasPrefix;rw [List.isPrefixOf_iff_prefix,z1k,z1k,List.prefix_append_right_inj,List.cons_prefix_cons,hs];rintro ⟨-,h⟩;have h2:(sS.data.toList:List UInt8)=[115]:=rfl;rw [h2,List.cons_prefix_cons] at h;exact hc h.1.symm
theorem zif (nm:ByteArray) (n:Nat):snn nm (sgf nm n)=0:=by
 obtain ⟨c,r,h⟩:=List.exists_cons_of_ne_nil (zd4 n);have hc:=z2l n c (by rw [h];simp);exact z9y (c:=c) (l:=r) (by rw [z0x,h]) (by rintro rfl;revert hc;decide)
theorem zbl (nm:ByteArray):snn nm (manf nm)=0:=z9y (c:=109) (l:=[97,110]) rfl (by decide)
theorem zbm (nm:ByteArray):snn nm (newf nm)=0:=z9y (c:=110) (l:=[101,119]) rfl (by decide)
theorem zc7 (nm:ByteArray):manf nm ≠ newf nm:=fun h=>by have:=fl_inj h;revert this;decide
theorem z2v (nm:ByteArray) {n:Nat} (h1:1 <= n) (h2:n <= mxn):sgf nm n ≠ manf nm:=fun h=>by
 have:=z1l nm h1 h2;rw [h,zbi] at this;omega
theorem z2w (nm:ByteArray) {n:Nat} (h1:1 <= n) (h2:n <= mxn):sgf nm n ≠ newf nm:=fun h=>by
 have:=z1l nm h1 h2;rw [h,zbj] at this;omega
theorem z2x (nm:ByteArray) {n m:Nat} (h1:1 <= n) (h2:n <= mxn):sgf nm n ≠ snf nm m:=fun h=>by
 have:=z1l nm h1 h2;rw [h,zbk] at this;omega
theorem z77 (nm:ByteArray) {n:Nat} (h1:1 <= n) (h2:n <= mxn):snf nm n ≠ manf nm:=fun h=>by
 have:=z30 nm h1 h2;rw [h,zbl] at this;omega
theorem z7a (nm:ByteArray) {n:Nat} (h1:1 <= n) (h2:n <= mxn):snf nm n ≠ newf nm:=fun h=>by
 have:=z30 nm h1 h2;rw [h,zbm] at this;omega
theorem z5q (nm:ByteArray) {n m:Nat} (h1:1 <= n) (h2:n <= mxn) (h3:1 <= m) (h4:m <= mxn) (h:sgf nm n=sgf nm m):n=m:=by
 have:=z1l nm h1 h2;rw [h,z1l nm h3 h4] at this;exact this.symm
theorem zie (nm:ByteArray) {n m:Nat} (h1:1 <= n) (h2:n <= mxn) (h3:1 <= m) (h4:m <= mxn) (h:snf nm n=snf nm m):n=m:=by
 have:=z30 nm h1 h2;rw [h,z30 nm h3 h4] at this;exact this.symm
def ours (nm s:ByteArray):Bool:=decide (s=newf nm) || decide (0 < sgn nm s) || decide (0 < snn nm s)
theorem zb5 (s:ByteArray):mnB s=true ↔ (∀ c ∈ s.data.toList,okc c.toNat=true) /\ 1 <= s.size /\ s.size <= 32:=by
 unfold mnB sb;rw [Bool.and_eq_true,List.all_eq_true,Bool.and_eq_true,decide_eq_true_eq,decide_eq_true_eq];simp
theorem zap:∀ (k n:Nat),n < 10 ^ (k + 1) -> (Lib.decDigits n).length <= k + 1
 | 0,n,h=>by rw [Lib.decDigits,dif_pos (by simpa using h)];simp
 | k + 1,n,h=>by
  rw [Lib.decDigits];split
  ·simp
  ·rw [List.length_append];have:=zap k (n / 10) (by rw [Nat.pow_succ] at h;omega);simp;omega
theorem zaq {n:Nat} (h:n <= mxn):(Lib.decDigits n).length <= 10:=zap 9 n (by unfold mxn at h;omega)
theorem z6p {nm s:ByteArray} (hn:mnB nm=true) (h16:nm.size <= 16) (hs:∀ c ∈ s.data.toList,okc c.toNat=true) (hl:s.data.toList.length <= 15):mnB (fl nm s)=true:=by
 rw [zb5] at hn ⊢;have hz:(fl nm s).size=nm.size + 1 + s.data.toList.length:=by
  rw [z3u,z1k,z3u];simp;omega
 refine ⟨fun c hc=>?_,by omega,by omega⟩;rw [z1k] at hc;rcases List.mem_append.1 hc with hc | hc
 ·exact hn.1 c hc
 ·
  rcases List.mem_cons.1 hc with rfl | hc
  ·decide
  ·exact hs c hc
theorem zd5 (n:Nat):∀ c ∈ (dig n).data.toList,okc c.toNat=true:=fun c hc=>by
 rw [z0x] at hc;have:=z2l n c hc;unfold okc;simp;omega
theorem z0u {nm:ByteArray} (hn:mnB nm=true) (h16:nm.size <= 16) {n:Nat} (h:n <= mxn):mnB (sgf nm n)=true :=
 z6p hn h16 (zd5 n) (by rw [z0x];have:=zaq h;omega)
theorem z5k {nm:ByteArray} (hn:mnB nm=true) (h16:nm.size <= 16) {n:Nat} (h:n <= mxn):mnB (snf nm n)=true :=
 z6p hn h16 (fun c hc=>by
  rw [z03] at hc;rcases List.mem_append.1 hc with hc | hc
  ·
   have:c=115:=by simpa [sS] using hc
   subst this;decide
  ·exact zd5 n c hc) (by rw [z03,z0x,List.length_append];have:=zaq h;have:sS.data.toList.length=1:=rfl;omega)
theorem z2y {nm:ByteArray} (hn:mnB nm=true) (h16:nm.size <= 16):mnB (manf nm)=true:=z6p hn h16 (by decide) (by decide)
theorem z5j {nm:ByteArray} (hn:mnB nm=true) (h16:nm.size <= 16):mnB (newf nm)=true:=z6p hn h16 (by decide) (by decide)
end Go.Log
end
section
namespace Go.Log
open Go.Vfs
open Go.Proofs.YtpjomdmjohjheaaGreatDoor (readOf)
structure Ds where
 D:Dk
 fc:Nat -> Fl
def Op:=Ds -> Int -> Ds -> Prop
def mkO (s:ByteArray):Op:=fun X e Y=>∃ n,(∀ b,Ref X.D b -> b < n) /\ MakeR n X.D X.fc s e Y.D Y.fc
def apO (s:ByteArray) (bs:List Nat):Op:=fun X e Y=>AppR X.D X.fc s bs e Y.D Y.fc
def syO (s:ByteArray):Op:=fun X e Y=>SyncR X.D X.fc s e Y.D Y.fc
def cuO (s:ByteArray) (n:Nat):Op:=fun X e Y=>CutR X.D X.fc s n e Y.D Y.fc
def rnO (s t:ByteArray):Op:=fun X e Y=>RenR X.D s t e Y.D /\ Y.fc=X.fc
def rmO (s:ByteArray):Op:=fun X e Y=>RemR X.D s e Y.D /\ Y.fc=X.fc
def sdO:Op:=fun X e Y=>SdirR X.D e Y.D /\ Y.fc=X.fc
def nop:Op:=fun X e Y=>e=0 /\ Y=X
def erO (e0:Int):Op:=fun X e Y=>e=e0 /\ Y=X
def askO:List Op -> Op
 | [],X,e,Y=>e=0 /\ Y=X
 | o :: l,X,e,Y=>∃ e1 Z,o X e1 Z /\ ((e1 ≠ 0 /\ e=e1 /\ Y=Z) \/ (e1=0 /\ askO l Z e Y))
def putO (s:ByteArray) (b:List Nat):Op:=askO [mkO s,apO s (recd b),syO s]
def rmnO (s:ByteArray):Op:=fun X e Y=>∃ e1,rmO s X e1 Y /\ e=if e1=6 then 0 else e1
def mrec (s n:Nat):List Nat:=be 8 s ++ be 8 n
def manO (nm:ByteArray) (s n:Nat):Op:=askO [rmnO (newf nm),putO (newf nm) (mrec s n),sdO,rnO (newf nm) (manf nm),sdO]
def nxL (nm:ByteArray) (l:List ByteArray):Nat:=l.foldr (fun s a=>max (max (sgn nm s) (snn nm s)) a) 0
def nx (nm:ByteArray) (X:Ds):Nat:=nxL nm (X.D.files.map Prod.fst)
def nxE (nm:ByteArray) (X:Ds):Int:=if mxn <= nx nm X then 5 else 0
def nxN (nm:ByteArray) (X:Ds):Nat:=if mxn <= nx nm X then 0 else nx nm X + 1
theorem z9l {nm:ByteArray} {a b:List ByteArray} (h:a.Perm b):nxL nm a=nxL nm b:=by
 unfold nxL
 induction h with
 | nil=>rfl
 | cons x _ ih=>simp only [List.foldr_cons,ih]
 | swap x y l=>simp only [List.foldr_cons];omega
 | trans _ _ i1 i2=>exact i1.trans i2
def swept (nm:ByteArray) (s n:Nat) (f:ByteArray):Bool:=ours nm f && !(decide (f=manf nm) || decide (f=snf nm s) || decide (f=sgf nm n))
def sweepO (nm:ByteArray) (s n:Nat):Op:=fun X e Y=>∃ ns:List ByteArray,ns.Perm (X.D.files.map Prod.fst) /\ askO ((ns.filter (swept nm s n)).map rmO) X e Y
structure Lg where
 name:ByteArray
 most:Nat
 first:Nat
 segment:Nat
 segments:Nat
 size:Nat
 snap:List Nat
 has:Bool
 recs:List (List Nat)
 synced:Nat
 bad:Bool
def lg0 (nm:ByteArray) (most:Nat):Lg:=⟨nm,most,0,0,0,0,[],false,[],0,false⟩
def Lg.seg (L:Lg):ByteArray:=sgf L.name L.segment
def mayE (L:Lg) (n:Nat):Int:=if mxr < n then 3 else if L.bad=true then 19 else 0
def onR (L:Lg) (X:Ds) (e:Int) (L':Lg) (Y:Ds):Prop :=
 askO [syO L.seg,erO (nxE L.name X),mkO (sgf L.name (nx L.name X + 1)),sdO] X e Y /\
  ((e ≠ 0 /\ L'={ L with bad:=true }) \/ (e=0 /\ L'={ L with segment:=nx L.name X + 1,size:=0,synced:=L.recs.length,segments:=L.segments + 1 }))
def appR (L:Lg) (b:List Nat) (X:Ds) (e:Int) (L':Lg) (Y:Ds):Prop :=
 (mayE L b.length ≠ 0 /\ e=mayE L b.length /\ L'=L /\ Y=X) \/ (mayE L b.length=0 /\ ∃ e1 Z,apO L.seg (recd b) X e1 Z /\
  ((e1 ≠ 0 /\ e=e1 /\ L'={ L with bad:=true } /\ Y=Z) \/
   (e1=0 /\ L.size + (8 + b.length) <= L.most /\ e=0 /\ L'={ L with recs:=L.recs ++ [b],size:=L.size + (8 + b.length) } /\ Y=Z) \/
   (e1=0 /\ L.most < L.size + (8 + b.length) /\ onR { L with recs:=L.recs ++ [b],size:=L.size + (8 + b.length) } Z e L' Y)))
def synR (L:Lg) (X:Ds) (e:Int) (L':Lg) (Y:Ds):Prop :=
 (mayE L 0 ≠ 0 /\ e=mayE L 0 /\ L'=L /\ Y=X) \/ (mayE L 0=0 /\ syO L.seg X e Y /\ ((e ≠ 0 /\ L'={ L with bad:=true }) \/ (e=0 /\ L'={ L with synced:=L.recs.length })))
def turnE (nm:ByteArray) (X:Ds):Int:=if mxn <= nx nm X + 1 then 5 else 0
def turnR (L:Lg) (b:List Nat) (X:Ds) (e:Int) (L':Lg) (Y:Ds):Prop :=
 (mayE L b.length ≠ 0 /\ e=mayE L b.length /\ L'=L /\ Y=X) \/ (mayE L b.length=0 /\
  askO [syO L.seg,erO (turnE L.name X),putO (snf L.name (nx L.name X + 1)) b,mkO (sgf L.name (nx L.name X + 2)),manO L.name (nx L.name X + 1) (nx L.name X + 2),sweepO L.name (nx L.name X + 1) (nx L.name X + 2)] X e Y /\
  ((e ≠ 0 /\ L'={ L with bad:=true }) \/ (e=0 /\ L'={ L with snap:=b,has:=true,recs:=[],synced:=0,first:=nx L.name X + 2,segment:=nx L.name X + 2,segments:=1,size:=0 })))
def oneR (X:Ds) (s:ByteArray):Option (List Nat) :=
 if (readOf X.D X.fc s).2=0 /\ (whole (readOf X.D X.fc s).1).2.2=true /\ (whole (readOf X.D X.fc s).1).1.length=1 /\ (whole (readOf X.D X.fc s).1).2.1=(readOf X.D X.fc s).1.length
 then (whole (readOf X.D X.fc s).1).1.head? else none
def manN (b:List Nat):Option (Nat × Nat) :=
 if b.length=16 /\ num (b.take 8) <= mxn /\ 1 <= num (b.drop 8) /\ num (b.drop 8) <= mxn then some (num (b.take 8),num (b.drop 8)) else none
def SegsOf (nm:ByteArray) (first:Nat) (X:Ds) (ns:List Nat):Prop :=
 ns.Pairwise (· <= ·) /\ ns.Perm (((X.D.files.map Prod.fst).map (sgn nm)).filter fun n=>decide (first <= n))
def rdl (X:Ds):List Nat -> Lg -> Nat -> Option (Lg × Nat)
 | [],L,e=>some (L,e)
 | n :: ns,L,e =>
  if (whole (readOf X.D X.fc (sgf L.name n)).1).2.2=true /\ ((readOf X.D X.fc (sgf L.name n)).1.length <= (whole (readOf X.D X.fc (sgf L.name n)).1).2.1 \/ ns=[]) then
   rdl X ns { L with recs:=L.recs ++ (whole (readOf X.D X.fc (sgf L.name n)).1).1,segment:=n,size:=(readOf X.D X.fc (sgf L.name n)).1.length } (whole (readOf X.D X.fc (sgf L.name n)).1).2.1
  else none
def snapR (X:Ds) (L:Lg) (s:Nat):Option Lg:=if s=0 then some L else (oneR X (snf L.name s)).map fun b=>{ L with snap:=b,has:=true }
def readR (X:Ds) (L:Lg) (s:Nat) (r:Option (Lg × Nat)):Prop :=
 match snapR X L s with
 | none=>r=none
 | some L1=>∃ ns,SegsOf L1.name L1.first X ns /\ r=if ns=[] then none else (rdl X ns L1 0).map fun p=>({ p.1 with segments:=ns.length },p.2)
def openR (nm:ByteArray) (most:Nat) (X:Ds) (e:Int) (L:Lg) (Y:Ds):Prop :=
 (flook X.D.files (manf nm)=none /\ askO [erO (nxE nm X),mkO (sgf nm (nx nm X + 1)),manO nm 0 (nx nm X + 1)] X e Y /\ L={ lg0 nm most with first:=nx nm X + 1,segment:=nx nm X + 1,segments:=1 }) \/
 (∃ b,flook X.D.files (manf nm)=some b /\ (oneR X (manf nm)).bind manN=none /\ e=10 /\ Y=X) \/
 (∃ b s n r,flook X.D.files (manf nm)=some b /\ (oneR X (manf nm)).bind manN=some (s,n) /\ readR X { lg0 nm most with first:=n } s r /\
  ((r=none /\ e=10 /\ Y=X) \/
   ∃ L1 en,r=some (L1,en) /\ askO [if L1.size=en then nop else cuO L1.seg en,syO L1.seg,sdO] X e Y /\ L={ L1 with size:=en,synced:=L1.recs.length }))
end Go.Log
end
section
namespace Go.Log
open Go.Lk Go.RowKit Go.Vfs
structure Vars (w:World):Prop where
 tab:∃ T f,w.heap[3]?=some (.cells (Lib.pow10Tab.map fun z=>Value.int .u64 z).toArray T f)
 syn:∃ te pe,w.cell? ⟨1,0,none⟩=some (.iface te pe)
 rng:∃ te pe,w.cell? ⟨2,0,none⟩=some (.iface te pe)
theorem Vars.keeps {w w':World} {S:Nat -> Prop} (h:Vars w) (hk:Keeps S w w') (hn:∀ k,k < 6 -> ¬ S k):Vars w':=by
 obtain ⟨⟨T,f,h1⟩,⟨te,pe,h2⟩,⟨te',pe',h3⟩⟩:=h;exact ⟨⟨T,f,hk.at h1 (hn 3 (by omega))⟩,⟨te,pe,(hk.cell (lt_of_cell h2) (hn 1 (by omega))).trans h2⟩,⟨te',pe',(hk.cell (lt_of_cell h3) (hn 2 (by omega))).trans h3⟩⟩
theorem Vars.nb {w w':World} (h:Vars w) (hk:Keeps Nb w w'):Vars w':=h.keeps hk (fun _ _ e=>e)
theorem zc5 (w:World) (os:Array Obj):Keeps Nb w (Go.Sort.grow w os) :=
 ⟨rfl,rfl,rfl,by simp [Go.Sort.grow],fun k hk _=>by simp [Go.Sort.grow,Array.getElem?_append_left hk]⟩
end Go.Log
namespace Go.Proofs.YtpjomdmjohjheaaGreatDoor
open Go.RowKit Go.Lk Go.Vfs Go.Log
theorem tab_of {name:String} {w:World} {T:TypeId} {f:Nat × Nat} (hg:Tryz.prog.globalNamed name=some 3) (h:w.heap[3]?=some (.cells (Lib.pow10Tab.map fun z=>Value.int .u64 z).toArray T f)):Lib.TabIs Tryz.prog w name .u64 Lib.pow10Tab:=by
 unfold Lib.TabIs World.var?;rw [hg,Option.bind_some,h]
theorem z7m (n:Nat) (w:World) (hv:Vars w) (hn:n <= 9223372036854775807):Calls Tryz.prog 113 #[.int .i64 n] w fun e w'=>e=.returned (.string (dig n)) /\ Keeps Nb w w':=by
 obtain ⟨⟨T,f,ht⟩,-⟩:=hv;refine (Go.Proofs.Any.strconv_Itoa Tryz.laysM171 (n:Int) (by omega) (by omega) w (tab_of (by kernel_rfl) ht)).mono ?_;rintro e w' ⟨rfl,k,os,rfl⟩;refine ⟨by rw [Lib.itoa_nonneg];rfl,((Keeps.refl Nb w).drewN k).trans_nb (zc5 _ os)⟩
theorem zgm (s:ByteArray) (w:World) (hv:Vars w) (hs:s.size <= 1000000) :
  Calls Tryz.prog 147 #[.string s] w fun e w'=>(∃ v x,e=.returned (.tuple #[.int .i64 v,x]) /\ -9223372036854775808 <= v /\ v <= 9223372036854775807 /\ ((Lib.atoiAll s.data.toList=.ok v /\ x=.nilIface) \/ ((∀ u,Lib.atoiAll s.data.toList ≠ .ok u) /\ ∃ t p,x=.iface t p))) /\ Keeps Nb w w':=by
 obtain ⟨-,⟨te,pe,h2⟩,⟨te',pe',h3⟩⟩:=hv;cases hr:Lib.atoiAll s.data.toList with
 | ok v =>
  refine (Go.Proofs.Any.strconv_Atoi_ok Tryz.laysC172 s (by omega) v hr w).mono ?_;have hb:=Lib.atoiAll_bounds hr;rintro e w' ⟨rfl,h⟩;refine ⟨⟨v,_,rfl,hb.1,hb.2,.inl ⟨rfl,rfl⟩⟩,?_⟩;rcases h with rfl | ⟨t,rfl⟩
  ·exact Keeps.refl _ _
  ·exact ⟨rfl,rfl,rfl,by rw [Lib.bytesWorld_size];omega,fun k hk _=>Lib.bytesWorld_at_old w _ t k hk⟩
 | range =>
  refine (Go.Proofs.Any.strconv_Atoi_range Tryz.laysC172 s (by omega) hr (.iface te' pe') w h3 (.inr ⟨_,_,rfl⟩)).mono ?_;rintro e w' ⟨N,rfl,-,-,hb⟩;exact ⟨⟨_,_,rfl,by unfold Lib.atoiSat;split <;> omega,by unfold Lib.atoiSat;split <;> omega,.inr ⟨(fun u h=>by cases h),_,_,rfl⟩⟩,z13 hb⟩
 | _ =>
  refine (Go.Proofs.Any.strconv_Atoi_syntax Tryz.laysC172 s (by omega) hr (.iface te pe) w h2 (.inr ⟨_,_,rfl⟩)).mono ?_;rintro e w' ⟨N,rfl,-,-,hb⟩;exact ⟨⟨0,_,rfl,by omega,by omega,.inr ⟨(fun u h=>by cases h),_,_,rfl⟩⟩,z13 hb⟩
theorem zao (s p:ByteArray) (w:World):Calls Tryz.prog 146 #[.string s,.string p] w fun e w'=>e=.returned (.tuple #[.string ⟨(Lib.trimPrefix s.data.toList p.data.toList).toArray⟩,.bool (Lib.hasPrefix s.data.toList p.data.toList)]) /\ w=w' :=
 (Go.Proofs.Any.strings_CutPrefix Tryz.lays103 s p w).mono (by rintro e w' ⟨h,rfl⟩;exact ⟨h,rfl⟩)
theorem z47 {n:Nat} (hn:n <= 9223372036854775807):(dig n).size <= 21:=by
 rw [z3u,z0x,<- Lib.itoa_nonneg];exact Lib.itoa_length_le n (by omega) (by omega)
theorem z1c (l:Nat) (nm s:ByteArray) (w:World) (h:w.cell? ⟨l,1,none⟩=some (.string nm)) (hnm:nm.size <= 1000) (hs:s.size <= 1000):Calls Tryz.prog 109 #[.pointer (some ⟨l,0,none⟩),.string s] w fun e w'=>e=.returned (.string (fl nm s)) /\ w=w':=by
 go_enter Tryz.func109,Tryz.ntmps109;go_wp2;go_ret;exact ⟨rfl,rfl⟩
theorem z0t (l:Nat) (nm:ByteArray) (n:Nat) (w:World) (hv:Vars w) (h:w.cell? ⟨l,1,none⟩=some (.string nm)) (hnm:nm.size <= 1000) (hn:n <= 9223372036854775807):Calls Tryz.prog 56 #[.pointer (some ⟨l,0,none⟩),.int .i64 n] w fun e w'=>e=.returned (.string (sgf nm n)) /\ Keeps Nb w w':=by
 have IT:=qq (z7m n w hv hn);have H:=qq h;have hd:=z47 hn;clear hv h;go_enter Tryz.func56,Tryz.ntmps56;go_wp2_with fail;refine IT.out.mono ?_;rintro _ w1 ⟨rfl,k1⟩;have FA:=qq (z1c l nm (dig n) w1 ((k1.cell (lt_of_cell H.out) (fun e=>e)).trans H.out) hnm (by omega));go_wp2_with fail;refine FA.out.mono ?_;rintro _ _ ⟨rfl,rfl⟩;have K1:=qq k1;clear k1 FA;go_wp2;go_ret;exact ⟨rfl,K1.out⟩
theorem z40 (l:Nat) (nm:ByteArray) (n:Nat) (w:World) (hv:Vars w) (h:w.cell? ⟨l,1,none⟩=some (.string nm)) (hnm:nm.size <= 1000) (hn:n <= 9223372036854775807):Calls Tryz.prog 76 #[.pointer (some ⟨l,0,none⟩),.int .i64 n] w fun e w'=>e=.returned (.string (snf nm n)) /\ Keeps Nb w w':=by
 have IT:=qq (z7m n w hv hn);have H:=qq h;have hd:=z47 hn;clear hv h;go_enter Tryz.func76,Tryz.ntmps76;go_wp2_with fail;refine IT.out.mono ?_;rintro _ w1 ⟨rfl,k1⟩;have FA:=qq (z1c l nm (sS ++ dig n) w1 ((k1.cell (lt_of_cell H.out) (fun e=>e)).trans H.out) hnm (by rw [ByteArray.size_append];have:sS.size=1:=rfl;omega));go_wp2_with fail;refine FA.out.mono ?_;rintro _ _ ⟨rfl,rfl⟩;have K1:=qq k1;clear k1 FA;go_wp2;go_ret;exact ⟨rfl,K1.out⟩
theorem u161:Tryz.prog.underlying 161=some (.interface (Tryz.prog.methodsAt 161)):=by kernel_rfl
theorem z7x (x y:ByteArray):(x == y)=decide (x=y):=by
 rw [Bool.eq_iff_iff,decide_eq_true_iff];cases x with | mk x=>cases y with | mk y =>
 show (x == y)=true ↔ _;simp
theorem z8x (x y:ByteArray):(x.toList == y.toList)=decide (x=y):=by
 rw [ByteArray.toList_eq,ByteArray.toList_eq,Bool.eq_iff_iff,decide_eq_true_iff,beq_iff_eq];exact ⟨fun h=>z34 h,fun h=>by rw [h]⟩
theorem z3l (l:Nat) (nm s ahead:ByteArray) (w:World) (hv:Vars w) (h:w.cell? ⟨l,1,none⟩=some (.string nm)) (hnm:nm.size <= 1000) (hs:s.size <= 1000) (ha:ahead.size <= 1000) :
  Calls Tryz.prog 112 #[.pointer (some ⟨l,0,none⟩),.string s,.string ahead] w fun e w'=>e=.returned (.int .i64 (pn (fl nm ahead) s:Nat)) /\ Keeps Nb w w':=by
 have FA:=qq (z1c l nm ahead w h hnm ha);have q1:∀ (w:World) (t:TypeId) (p:Value),(binOp .neq 161 (.iface t p) .nilIface).run Tryz.prog w=.ok (.bool true) w:=fun w t p=>run_neq_held_nil w 161 t p u161;have q2:∀ (w:World),(binOp .neq 161 .nilIface .nilIface).run Tryz.prog w=.ok (.bool false) w:=fun w=>run_neq_nil_nil w 161 u161;obtain ⟨t,ht⟩:∃ t:ByteArray,(⟨(Lib.trimPrefix s.data.toList (fl nm ahead).data.toList).toArray⟩:ByteArray)=t:=⟨_,rfl⟩
 have HT:=qq ht;have htl:t.data.toList=Lib.trimPrefix s.data.toList (fl nm ahead).data.toList:=by rw [<- ht]
 have hts:t.size <= 1000:=by
  rw [z3u,htl];unfold Lib.trimPrefix;rw [z3u] at hs;split
  ·rw [List.length_drop];omega
  ·exact hs
 have AT:=qq (zgm t w hv (by omega));have HV:=qq hv;have HTL:=qq htl;clear hv h hnm hs ha htl;cases hp:Lib.hasPrefix s.data.toList (fl nm ahead).data.toList with
 | false =>
  have CP:Hid (Calls Tryz.prog 146 #[.string s,.string (fl nm ahead)] w fun e w'=>e=.returned (.tuple #[.string t,.bool false]) /\ w=w'):=by have:=zao s (fl nm ahead) w;rw [HT.out,hp] at this;exact qq this
  have hres:pn (fl nm ahead) s=0:=by unfold pn;rw [hp];rfl
  rw [hres];clear hp hres ht HT HTL;go_enter Tryz.func112,Tryz.ntmps112;go_wp2_with fail;refine FA.out.mono ?_;rintro _ _ ⟨rfl,rfl⟩;go_wp2_with fail;refine CP.out.mono ?_;rintro _ _ ⟨rfl,rfl⟩;go_wp2_with fail;refine AT.out.mono ?_;rintro _ w1 ⟨⟨v,x,rfl,hv1,hv2,hr⟩,k1⟩;have K1:=qq k1;have HRR:=qq hr;clear hr k1 AT FA;go_wp2;go_ret;exact ⟨rfl,K1.out⟩
 | true =>
  have CP:Hid (Calls Tryz.prog 146 #[.string s,.string (fl nm ahead)] w fun e w'=>e=.returned (.tuple #[.string t,.bool true]) /\ w=w'):=by have:=zao s (fl nm ahead) w;rw [HT.out,hp] at this;exact qq this
  have hres:pn (fl nm ahead) s=nmb t.data.toList:=by
   unfold pn;rw [if_pos hp,HTL.out];unfold Lib.trimPrefix;rw [if_pos hp]
  rw [hres];clear hp hres ht HT HTL;go_enter Tryz.func112,Tryz.ntmps112;go_wp2_with fail;refine FA.out.mono ?_;rintro _ _ ⟨rfl,rfl⟩;go_wp2_with fail;refine CP.out.mono ?_;rintro _ _ ⟨rfl,rfl⟩;go_wp2_with fail;refine AT.out.mono ?_;rintro _ w1 ⟨⟨v,x,rfl,hv1,hv2,hr⟩,k1⟩;have K1:=qq k1;have HRR:=qq hr;clear hr k1 AT FA;rcases HRR.out with ⟨hok,rfl⟩ | ⟨hno,ty,pv,rfl⟩
  ·
   by_cases h1:1 <= v
   ·
    by_cases h2:v <= 2147483647
    ·
     obtain ⟨k,rfl⟩:∃ k:Nat,v=k:=⟨v.toNat,by omega⟩
     have IT:=qq (z7m k w1 (HV.out.nb K1.out) (by omega));by_cases hd:dig k=t
     ·
      have hn:nmb t.data.toList=k:=by
       unfold nmb;rw [hok];simp only;rw [if_pos ⟨h1,h2,by rw [Lib.itoa_nonneg,<- hd,z0x]⟩];omega
      have HN:=qq hn;have t1:((dig k).toList == t.toList)=true:=by rw [z8x];simpa using hd
      have t2:decide ((k:Int) < 1)=false:=by simp;omega
      have t3:decide (2147483647 < (k:Int))=false:=by simp;omega
      clear hok hn hd;go_wp2_with fail;refine IT.out.mono ?_;rintro _ w2 ⟨rfl,k2⟩;have K2:=qq (K1.out.trans_nb k2);clear k2 IT HRR;go_wp2;go_ret;exact ⟨by rw [HN.out];rfl,K2.out⟩
     ·
      have hn:nmb t.data.toList=0:=by
       unfold nmb;rw [hok];simp only;rw [if_neg];rintro ⟨-,-,h⟩;rw [Lib.itoa_nonneg] at h;exact hd (z34 (by rw [z0x,h]))
      have HN:=qq hn;have t1:((dig k).toList == t.toList)=false:=by rw [z8x];simpa using hd
      have t2:decide ((k:Int) < 1)=false:=by simp;omega
      have t3:decide (2147483647 < (k:Int))=false:=by simp;omega
      clear hok hn hd;go_wp2_with fail;refine IT.out.mono ?_;rintro _ w2 ⟨rfl,k2⟩;have K2:=qq (K1.out.trans_nb k2);clear k2 IT HRR;go_wp2;go_ret;exact ⟨by rw [HN.out];rfl,K2.out⟩
    ·
     have hn:nmb t.data.toList=0:=by
      unfold nmb;rw [hok];simp only;rw [if_neg (by omega)]
     have HN:=qq hn;have h3:2147483647 < v:=by omega
     have t2:decide (v < 1)=false:=by simp;omega
     have t3:decide (2147483647 < v)=true:=by simp;omega
     clear hok hn HRR h2;go_wp2;go_ret;exact ⟨by rw [HN.out];rfl,K1.out⟩
   ·
    have hn:nmb t.data.toList=0:=by
     unfold nmb;rw [hok];simp only;rw [if_neg (by omega)]
    have HN:=qq hn;have h3:v < 1:=by omega
    have t2:decide (v < 1)=true:=by simp;omega
    clear hok hn HRR h1;go_wp2;go_ret;exact ⟨by rw [HN.out];rfl,K1.out⟩
  ·
   have hn:nmb t.data.toList=0:=by
    unfold nmb;split
    ·rename_i u hu;exact absurd hu (hno u)
    ·rfl
   have HN:=qq hn;clear hno hn HRR;go_wp2;go_ret;exact ⟨by rw [HN.out];rfl,K1.out⟩
end Go.Proofs.YtpjomdmjohjheaaGreatDoor
end
section
namespace Go.Proofs.YtpjomdmjohjheaaGreatDoor
open Go.RowKit Go.Lk Go.Vfs Go.Log Go.ChangeShapes Go.WideShapes
variable {W:World} {H:Type} {enc:TypeId × Value -> H}
theorem arr_of {P:Program} {n fuel:Nat} {e t:TypeId} {k:IntKind} {sp:Nat -> Bool} {cs:List Value} {p:List MemPlace} {zs:List Int} (ht:P.underlying t=some (.array n e)) (he:P.underlying e=some (.int k)) (hc:P.cellsOf e=1) (hct:P.cellsOf t=n)
  (h:DataW.trod enc P W 0 sp false fuel t cs=some (.agg (zs.map fun z=>.lit (.int k z)),p)):cs=zs.map fun z=>.int k z:=by
 obtain ⟨xs,m,-,hx,hl,hn,hel⟩:=DataW.trod_array ht h;simp only [Prod.mk.injEq,DataW.agg.injEq] at hx;obtain ⟨hx,-⟩:=hx;have hzl:zs.length=n:=by
  have:=congrArg List.length hx;simp at this;omega
 refine List.ext_getElem? fun i=>?_;rcases Nat.lt_or_ge i n with hi | hi
 ·
  have h1:=hel i hi;rw [hc,List.getElem?_eq_getElem (by omega),Nat.mul_one] at h1;obtain ⟨z,e1,e2,-⟩:=DataW.trod_int he h1;have h2:=z2b e1;have h3:cs[i]?=some (.int k z):=by
   have:=congrArg (fun l=>l[0]?) h2;simpa using this
  have h4:=congrArg (fun l=>l[i]?) hx;simp only [List.getElem?_map,List.getElem?_eq_getElem (show i < xs.length by omega),List.getElem?_eq_getElem (show i < zs.length by omega),Option.map_some,e2,Option.some.injEq,DataW.lit.injEq,Lit.int.injEq] at h4;rw [h3,List.getElem?_map,List.getElem?_eq_getElem (show i < zs.length by omega),Option.map_some,h4.2]
 ·rw [List.getElem?_eq_none (by omega),List.getElem?_eq_none (by simp;omega)]
theorem gSyn:Tryz.prog.globalNamed "strconv.ErrSyntax" = some 1:=by kernel_rfl
theorem gRng:Tryz.prog.globalNamed "strconv.ErrRange" = some 2:=by kernel_rfl
theorem gTab:Tryz.prog.globalNamed "internal/strconv.uint64pow10" = some 3:=by kernel_rfl
theorem gDb:Tryz.prog.globalNamed "math/bits.deBruijn64tab" = some 5:=by kernel_rfl
theorem tTab:(Tryz.prog.globals[3]?).map (·.type)=some 218:=by kernel_rfl
theorem tRng:(Tryz.prog.globals[2]?).map (·.type)=some 161:=by kernel_rfl
theorem tSyn:(Tryz.prog.globals[1]?).map (·.type)=some 161:=by kernel_rfl
theorem z91 {P:Program} {s:String} {g:Nat} {cs:Array Value} (hg:P.globalNamed s=some g) (hv:W.var? P s=some cs):∃ T f,W.heap[g]?=some (.cells cs T f):=by
 unfold World.var? at hv;rw [hg,Option.bind_some] at hv;cases h:W.heap[g]? with
 | none=>rw [h] at hv;cases hv
 | some o =>
  rw [h] at hv;cases o with
  | cells c T f=>exact ⟨T,f,by cases hv;rfl⟩
  | _=>cases hv
theorem zim (h:laidMet Tryz.prog Rows.logSplitsRow.laid W):Vars W /\ 6 <= W.heap.size:=by
 obtain ⟨ps,⟨g1,t1,cs1,f1,p1,q1,hg1,ht1,hv1,hd1,⟨g2,t2,cs2,f2,p2,q2,hg2,ht2,hv2,hd2,⟨g3,t3,cs3,f3,p3,q3,hg3,ht3,hv3,hd3,⟨g4,t4,cs4,f4,p4,q4,hg4,ht4,hv4,hd4,⟨g5,t5,cs5,f5,p5,q5,hg5,ht5,hv5,hd5,-,-⟩,-⟩,-⟩,-⟩,-⟩,-⟩:=h;obtain rfl:=Option.some.inj (gDb.symm.trans hg2);obtain rfl:=Option.some.inj (gTab.symm.trans hg3);obtain rfl:=Option.some.inj (gRng.symm.trans hg4);obtain rfl:=Option.some.inj (gSyn.symm.trans hg5);obtain ⟨T2,F2,hb2⟩:=z91 gDb hv2;obtain ⟨T3,F3,hb3⟩:=z91 gTab hv3;rw [tTab] at ht3;cases ht3;rw [tRng] at ht4;cases ht4;rw [tSyn] at ht5;cases ht5;obtain ⟨x4,u4,v4,e4,-⟩:=iface_of_trod Tryz.underlying161 hd4;obtain ⟨x5,u5,v5,e5,-⟩:=iface_of_trod Tryz.underlying161 hd5;refine ⟨⟨⟨T3,F3,?_⟩,⟨u5,v5,?_⟩,⟨u4,v4,?_⟩⟩,lt_of_block hb2⟩
 ·have:=arr_of (p:=p3) (zs:=Lib.pow10Tab) Tryz.underlying218 Tryz.underlying80 (by kernel_rfl) (by kernel_rfl) (hd3.trans (by simp [Rows.laid_internal_strconv_uint64pow10,Lib.pow10Tab,List.range,List.range.loop]));rw [hb3,<- this]
 ·have:=World.var?_cell gSyn hv5 0;rw [Array.eq_one_of_toList e5] at this;simpa using this
 ·have:=World.var?_cell gRng hv4 0;rw [Array.eq_one_of_toList e4] at this;simpa using this
end Go.Proofs.YtpjomdmjohjheaaGreatDoor
end
section
namespace Go.Log
open Go.Vfs
abbrev Dir:=ByteArray -> Option Nat
def Dir.put (f:Dir) (s:ByteArray) (b:Nat):Dir:=fun t=>if t=s then some b else f t
def Dir.del (f:Dir) (s:ByteArray):Dir:=fun t=>if t=s then none else f t
def Dir.again (f:Dir) (s:Stp):Dir :=
 if s.act=0 then (if (f s.name).isSome then f else f.put s.name (s.f.getD 0))
 else if s.act=1 then (match f s.name with | none=>f | some b=>(f.del s.name).put s.to b)
 else f.del s.name
theorem z0c (p:ByteArray × Nat) (l:List (ByteArray × Nat)) (t:ByteArray):flook (p :: l) t=if p.1=t then some p.2 else flook l t:=by
 unfold flook;rw [List.find?_cons];by_cases h:p.1=t <;> simp [h]
theorem zda (l:List (ByteArray × Nat)) (t:ByteArray):(l.any fun p=>decide (p.1=t))=(flook l t).isSome:=by
 induction l with
 | nil=>rfl
 | cons p l ih =>
  rw [List.any_cons,z0c,ih];by_cases h:p.1=t <;> simp [h]
theorem zc0 (l:List (ByteArray × Nat)) (s:ByteArray) (b:Nat) (t:ByteArray):flook (l ++ [(s,b)]) t=(flook l t).orElse fun _=>if s=t then some b else none:=by
 induction l with
 | nil=>rw [List.nil_append,z0c];rfl
 | cons p l ih =>
  rw [List.cons_append,z0c,z0c,ih];split <;> rfl
theorem z0j {l:List (ByteArray × Nat)} {s:ByteArray} (h:flook l s=none) (b:Nat):flook (l ++ [(s,b)])=Dir.put (flook l) s b:=by
 funext t;rw [zc0];unfold Dir.put;by_cases e:t=s
 ·subst e;rw [h];simp
 ·rw [if_neg e,if_neg (fun h=>e h.symm)];cases flook l t <;> rfl
theorem z0q (l:List (ByteArray × Nat)) (s:ByteArray):flook (fdel l s)=Dir.del (flook l) s:=by
 funext t;unfold Dir.del fdel
 induction l with
 | nil=>simp [flook]
 | cons p l ih =>
  rw [List.filter_cons];by_cases h:p.1=s
  ·
   simp only [h,ne_eq,not_true_eq_false,decide_false,Bool.false_eq_true,if_false];rw [ih,z0c];by_cases e:t=s
   ·simp [e]
   ·rw [if_neg e,if_neg e,if_neg (fun h2=>e (h2.symm.trans h))]
  ·
   simp only [ne_eq,h,not_false_eq_true,decide_true,if_true];rw [z0c,z0c,ih];by_cases e:t=s
   ·rw [if_pos e,if_pos e,if_neg (fun h2=>h (h2.trans e))]
   ·rw [if_neg e,if_neg e]
theorem zdb (l:List (ByteArray × Nat)) (s:ByteArray) (b:Nat) (t:ByteArray):flook (l.map fun p=>if p.1=s then (s,b) else p) t=if t=s then (flook l t).map (fun _=>b) else flook l t:=by
 induction l with
 | nil=>simp [flook]
 | cons p l ih =>
  rw [List.map_cons,z0c,z0c,ih];by_cases h:p.1=s
  ·
   by_cases e:t=s
   ·subst e;simp [h]
   ·have h2:¬ s=t:=fun x=>e x.symm;have h3:¬ p.1=t:=fun x=>e (x.symm.trans h);simp [h,e,h2]
  ·
   by_cases e:t=s
   ·subst e;simp [h]
   ·simp [h,e]
theorem z2m (l:List (ByteArray × Nat)) (s:ByteArray) (b:Nat):flook (fput l s b)=Dir.put (flook l) s b:=by
 funext t;unfold fput Dir.put;rw [zda];by_cases h:(flook l s).isSome=true
 ·
  rw [if_pos h,zdb];by_cases e:t=s
  ·subst e;obtain ⟨c,hc⟩:=Option.isSome_iff_exists.1 h;simp [hc]
  ·simp [e]
 ·
  rw [if_neg h];have h':flook l s=none:=by simpa using h
  rw [z0j h'];rfl
theorem za8 (L:List (ByteArray × Nat)) (s:Stp):flook (againL L s)=Dir.again (flook L) s:=by
 unfold againL Dir.again;split
 ·
  split
  ·rfl
  ·rw [z2m]
 ·
  split
  ·
   cases e:flook L s.name with
   | none=>rfl
   | some b=>simp only [ren1];rw [z2m,z0q]
  ·rw [z0q]
def rep:List Bool -> List Stp -> Dir -> Dir
 | b :: bs,s :: ss,f=>rep bs ss (if b then f.again s else f)
 | _,_,f=>f
theorem zbe (ss:List Stp) (f:Dir):rep [] ss f=f:=by cases ss <;> rfl
theorem z8w (bs:List Bool) (f:Dir):rep bs [] f=f:=by cases bs <;> rfl
theorem z4s:∀ (bs:List Bool) (ss:List Stp) (L:List (ByteArray × Nat)),flook (replay bs ss L)=rep bs ss (flook L)
 | [],ss,L=>by rw [z0p,zbe]
 | b :: bs,[],L=>rfl
 | b :: bs,s :: ss,L=>by
  show flook (replay bs ss (if b then againL L s else L))=rep bs ss (if b then Dir.again (flook L) s else flook L);rw [z4s bs ss];cases b
  ·rfl
  ·simp only [if_true];rw [za8]
theorem z9v (s:Stp):∀ (ss:List Stp) (bs:List Bool) (f:Dir),∃ bs',rep bs (ss ++ [s]) f=rep bs' ss f \/ rep bs (ss ++ [s]) f=(rep bs' ss f).again s
 | [],[],f=>⟨[],.inl rfl⟩
 | [],b :: bs,f=>by
  refine ⟨[],?_⟩;show rep bs [] (if b then f.again s else f)=f \/ rep bs [] (if b then f.again s else f)=f.again s;rw [z8w];cases b
  ·exact .inl rfl
  ·exact .inr rfl
 | y :: ss,[],f=>⟨[],.inl rfl⟩
 | y :: ss,b :: bs,f=>by
  obtain ⟨bs',h⟩:=z9v s ss bs (if b then f.again y else f);exact ⟨b :: bs',h⟩
def Ds.dir (X:Ds):Dir:=flook X.D.files
def Rs (X:Ds) (f:Dir):Prop:=∃ bs,f=rep bs X.D.steps (flook X.D.lasting)
def Rch (X:Ds) (f:Dir):Prop:=f=X.dir \/ Rs X f
def Wf (X:Ds):Prop:=∀ s ∈ X.D.steps,s.act=0 -> ∃ b,s.f=some b
def Rf (D:Dk) (f:Dir):Prop:=∀ t b,f t=some b -> Ref D b
theorem zcr {D:Dk} {f:Dir} {s:Stp} (h:Rf D f) (hs:s ∈ D.steps) (hw:s.act=0 -> ∃ b,s.f=some b):Rf D (f.again s):=by
 intro t b hb;unfold Dir.again at hb;split at hb
 ·
  rename_i h0;split at hb
  ·exact h t b hb
  ·
   unfold Dir.put at hb;split at hb
   ·obtain ⟨c,hc⟩:=hw h0;cases hb;exact .inr (.inr ⟨s,hs,by rw [hc];rfl⟩)
   ·exact h t b hb
 ·
  split at hb
  ·
   cases e:f s.name with
   | none=>rw [e] at hb;exact h t b hb
   | some c =>
    rw [e] at hb;simp only at hb;unfold Dir.put Dir.del at hb;split at hb
    ·cases hb;exact h _ _ e
    ·
     split at hb
     ·cases hb
     ·exact h t b hb
  ·
   unfold Dir.del at hb;split at hb
   ·cases hb
   ·exact h t b hb
theorem zbf {D:Dk}:∀ (bs:List Bool) (ss:List Stp) (f:Dir),(∀ s ∈ ss,s ∈ D.steps /\ (s.act=0 -> ∃ b,s.f=some b)) -> Rf D f -> Rf D (rep bs ss f)
 | [],ss,f,_,h=>by rw [zbe];exact h
 | b :: bs,[],f,_,h=>h
 | b :: bs,s :: ss,f,hs,h=>by
  show Rf D (rep bs ss (if b then f.again s else f));refine zbf bs ss _ (fun s' h'=>hs s' (by simp [h'])) ?_;cases b
  ·exact h
  ·exact zcr h (hs s (by simp)).1 (hs s (by simp)).2
theorem Rch.ref {X:Ds} {f:Dir} (h:Rch X f) (hw:Wf X):Rf X.D f:=by
 rcases h with rfl | ⟨bs,rfl⟩
 ·intro t b hb;exact .inl ⟨_,zq hb,rfl⟩
 ·exact zbf bs _ _ (fun s hs=>⟨hs,hw s hs⟩) (fun t b hb=>.inr (.inl ⟨_,zq hb,rfl⟩))
structure Sm (X Y:Ds):Prop where
 files:Y.D.files=X.D.files
 lasting:Y.D.lasting=X.D.lasting
 steps:Y.D.steps=X.D.steps
 cap:Y.D.cap=X.D.cap
theorem Sm.refl (X:Ds):Sm X X:=⟨rfl,rfl,rfl,rfl⟩
theorem Sm.rch {X Y:Ds} (h:Sm X Y) {f:Dir} (hf:Rch Y f):Rch X f:=by
 unfold Rch Rs Ds.dir at hf ⊢;rw [h.files,h.lasting,h.steps] at hf;exact hf
theorem Sm.wf {X Y:Ds} (h:Sm X Y) (hw:Wf X):Wf Y:=by unfold Wf;rw [h.steps];exact hw
theorem Sm.dir {X Y:Ds} (h:Sm X Y):Y.dir=X.dir:=by unfold Ds.dir;rw [h.files]
theorem z3f {X Y:Ds} (h:Y.D=(chg X.D).1):Sm X Y:=by
 obtain ⟨a,b,c,-,d⟩:=z04 X.D;exact ⟨by rw [h,a],by rw [h,b],by rw [h,c],by rw [h,d]⟩
theorem z1p (D:Dk):((chg D).2.1=1 /\ (chg D).2.2=0) \/ ((chg D).2.1 ≠ 1 /\ (chg D).2.2 ≠ 0):=by
 unfold chg;simp only;split
 ·rename_i h;refine .inr ⟨?_,h.1⟩;simp only;split <;> decide
 ·
  split
  ·exact .inr ⟨by simp,by simp⟩
  ·exact .inl ⟨rfl,rfl⟩
structure Dn (X Y:Ds) (l:List (ByteArray × Nat)) (st:Stp):Prop where
 files:Y.D.files=l
 lasting:Y.D.lasting=X.D.lasting
 steps:Y.D.steps=X.D.steps ++ [st]
 cap:Y.D.cap=X.D.cap
theorem Dn.rch {X Y:Ds} {l:List (ByteArray × Nat)} {st:Stp} (h:Dn X Y l st) {f:Dir} (hf:Rch Y f):f=flook l \/ ∃ g,Rs X g /\ (f=g \/ f=g.again st):=by
 rcases hf with hf | ⟨bs,hf⟩
 ·left;rw [hf];unfold Ds.dir;rw [h.files]
 ·right;rw [h.steps,h.lasting] at hf;obtain ⟨bs',h1⟩:=z9v st X.D.steps bs (flook X.D.lasting);exact ⟨_,⟨bs',rfl⟩,by rw [hf];exact h1⟩
theorem Dn.wf {X Y:Ds} {l:List (ByteArray × Nat)} {st:Stp} (h:Dn X Y l st) (hw:Wf X) (hs:st.act=0 -> ∃ b,st.f=some b):Wf Y:=by
 unfold Wf;rw [h.steps];intro s h1;rcases List.mem_append.1 h1 with h1 | h1
 ·exact hw s h1
 ·rw [List.mem_singleton.1 h1];exact hs
variable {X Y:Ds} {e:Int} {s t:ByteArray}
theorem z0g (h:mkO s X e Y):(e ≠ 0 /\ Sm X Y /\ Y.fc=X.fc) \/ (e=0 /\ X.dir s=none /\ mnB s=true /\ ∃ b,(∀ c,Ref X.D c -> c ≠ b) /\ Dn X Y (X.D.files ++ [(s,b)]) ⟨0,s,ByteArray.empty,some b⟩ /\ Y.fc=fun k=>if k=b then ⟨[],0⟩ else X.fc k):=by
 obtain ⟨n,hn,h⟩:=h;have same:∀ {D':Dk},Y.D=D' -> D'=X.D -> Y.fc=X.fc -> Sm X Y:=fun h1 h2 h3=>⟨by rw [h1,h2],by rw [h1,h2],by rw [h1,h2],by rw [h1,h2]⟩
 rcases h with ⟨-,h0,h,hf⟩ | ⟨-,-,h0,h,hf⟩ | ⟨-,-,-,h0,h,hf⟩ | ⟨-,-,-,-,h0,h,hf⟩ | ⟨hm,hl,-,-,h0,⟨h1,b,hb,h,hf⟩ | ⟨h1,h,hf⟩⟩
 ·exact .inl ⟨by omega,same h rfl hf,hf⟩
 ·exact .inl ⟨by omega,same h rfl hf,hf⟩
 ·exact .inl ⟨by omega,same h rfl hf,hf⟩
 ·exact .inl ⟨by omega,same h rfl hf,hf⟩
 ·
  rcases z1p X.D with ⟨h2,h3⟩ | ⟨h2,h3⟩
  ·
   obtain ⟨q1,q2,q3,-,q5⟩:=z04 X.D;refine .inr ⟨by rw [h0,h3],hl,hm,b,fun c hc=>by have:=hn c hc;omega,⟨?_,?_,?_,?_⟩,hf⟩
   ·rw [h];simp only [Dk.make,q1]
   ·rw [h];simp only [Dk.make,q2]
   ·rw [h];simp only [Dk.make,q3]
   ·rw [h];simp only [Dk.make,q5]
  ·exact absurd h1 h2
 ·
  rcases z1p X.D with ⟨h2,h3⟩ | ⟨h2,h3⟩
  ·exact absurd h2 h1
  ·exact .inl ⟨by rw [h0];exact h3,z3f h,hf⟩
theorem z0n {bs:List Nat} (h:apO s bs X e Y):Sm X Y /\ ((e ≠ 0 /\ Y.fc=X.fc) \/ ∃ b k,X.dir s=some b /\ k <= bs.length /\ (e=0 -> k=bs.length) /\ Y.fc=setf X.fc b ⟨(X.fc b).b ++ bs.take k,(X.fc b).lasts⟩):=by
 have same:Y.D=X.D -> Sm X Y:=fun h=>⟨by rw [h],by rw [h],by rw [h],by rw [h]⟩
 rcases h with ⟨-,h0,h,hf⟩ | ⟨-,-,h0,h,hf⟩ | ⟨b,-,hl,⟨-,h0,h,hf⟩ | ⟨-,-,h0,h,hf⟩ | ⟨-,-,h0,h,hf⟩⟩
 ·exact ⟨same h,.inl ⟨by omega,hf⟩⟩
 ·exact ⟨same h,.inl ⟨by omega,hf⟩⟩
 ·exact ⟨same h,.inl ⟨by omega,hf⟩⟩
 ·exact ⟨same h,.inl ⟨by omega,hf⟩⟩
 ·
  refine ⟨z3f h,?_⟩;rcases z1p X.D with ⟨h2,h3⟩ | ⟨h2,h3⟩
  ·rw [h2] at hf;exact .inr ⟨b,bs.length,hl,Nat.le_refl _,fun _=>rfl,by simpa using hf⟩
  ·
   by_cases h4:(chg X.D).2.1=0
   ·rw [if_pos h4] at hf;exact .inl ⟨by rw [h0];exact h3,hf⟩
   ·
    rw [if_neg h4] at hf;refine .inr ⟨b,_,hl,?_,fun h5=>absurd (h0.symm.trans h5) h3,hf⟩;split
    ·omega
    ·exact Nat.le_refl _
theorem z0e (h:syO s X e Y):Sm X Y /\ ((e ≠ 0 /\ Y.fc=X.fc) \/ (e=0 /\ ∃ b,X.dir s=some b /\ Y.fc=setf X.fc b ⟨(X.fc b).b,(X.fc b).b.length⟩)):=by
 have same:Y.D=X.D -> Sm X Y:=fun h=>⟨by rw [h],by rw [h],by rw [h],by rw [h]⟩
 rcases h with ⟨-,h0,h,hf⟩ | ⟨-,-,h0,h,hf⟩ | ⟨b,-,hl,⟨-,h0,h,hf⟩ | ⟨-,h0,h,hf⟩⟩
 ·exact ⟨same h,.inl ⟨by omega,hf⟩⟩
 ·exact ⟨same h,.inl ⟨by omega,hf⟩⟩
 ·exact ⟨same h,.inl ⟨by omega,hf⟩⟩
 ·
  refine ⟨z3f h,?_⟩;rcases z1p X.D with ⟨h2,h3⟩ | ⟨h2,h3⟩
  ·rw [if_pos h2] at hf;exact .inr ⟨by rw [h0,h3],b,hl,hf⟩
  ·rw [if_neg h2] at hf;exact .inl ⟨by rw [h0];exact h3,hf⟩
theorem z2a {n:Nat} (h:cuO s n X e Y):Sm X Y /\ ((e ≠ 0 /\ Y.fc=X.fc) \/ (e=0 /\ ∃ b,X.dir s=some b /\ n <= (X.fc b).b.length /\ Y.fc=setf X.fc b ⟨(X.fc b).b.take n,min n (X.fc b).lasts⟩)):=by
 have same:Y.D=X.D -> Sm X Y:=fun h=>⟨by rw [h],by rw [h],by rw [h],by rw [h]⟩
 rcases h with ⟨-,h0,h,hf⟩ | ⟨-,-,h0,h,hf⟩ | ⟨-,-,-,h0,h,hf⟩ | ⟨b,-,-,hl,⟨-,h0,h,hf⟩ | ⟨-,-,h0,h,hf⟩ | ⟨hn,-,h0,h,hf⟩⟩
 ·exact ⟨same h,.inl ⟨by omega,hf⟩⟩
 ·exact ⟨same h,.inl ⟨by omega,hf⟩⟩
 ·exact ⟨same h,.inl ⟨by omega,hf⟩⟩
 ·exact ⟨same h,.inl ⟨by omega,hf⟩⟩
 ·exact ⟨same h,.inl ⟨by omega,hf⟩⟩
 ·
  refine ⟨z3f h,?_⟩;rcases z1p X.D with ⟨h2,h3⟩ | ⟨h2,h3⟩
  ·rw [if_pos h2] at hf;exact .inr ⟨by rw [h0,h3],b,hl,by omega,by simpa using hf⟩
  ·rw [if_neg h2] at hf;exact .inl ⟨by rw [h0];exact h3,hf⟩
theorem z1n (h:rnO s t X e Y):Y.fc=X.fc /\ ((e ≠ 0 /\ Sm X Y) \/ (e=0 /\ ∃ b,X.dir s=some b /\ Dn X Y (fput (fdel X.D.files s) t b) ⟨1,s,t,none⟩)):=by
 obtain ⟨h,hf⟩:=h;have same:Y.D=X.D -> Sm X Y:=fun h=>⟨by rw [h],by rw [h],by rw [h],by rw [h]⟩
 refine ⟨hf,?_⟩;rcases h with ⟨-,h0,h⟩ | ⟨-,-,h0,h⟩ | ⟨-,-,-,h0,h⟩ | ⟨b,-,-,hl,⟨-,h0,h⟩ | ⟨-,h0,h⟩⟩
 ·exact .inl ⟨by omega,same h⟩
 ·exact .inl ⟨by omega,same h⟩
 ·exact .inl ⟨by omega,same h⟩
 ·exact .inl ⟨by omega,same h⟩
 ·
  rcases z1p X.D with ⟨h2,h3⟩ | ⟨h2,h3⟩
  ·rw [if_pos h2] at h;obtain ⟨q1,q2,q3,-,q5⟩:=z04 X.D;exact .inr ⟨by rw [h0,h3],b,hl,by rw [h];simp only [Dk.ren,Dk.step,q1],by rw [h];simp only [Dk.ren,Dk.step,q2],by rw [h];simp only [Dk.ren,Dk.step,q3],by rw [h];simp only [Dk.ren,Dk.step,q5]⟩
  ·rw [if_neg h2] at h;exact .inl ⟨by rw [h0];exact h3,z3f h⟩
theorem z1j (h:rmO s X e Y):Y.fc=X.fc /\ ((e ≠ 0 /\ Sm X Y /\ (e=6 -> X.dir s=none \/ X.dir s ≠ none)) \/ (e=0 /\ ∃ b,X.dir s=some b /\ Dn X Y (fdel X.D.files s) ⟨2,s,ByteArray.empty,none⟩)):=by
 obtain ⟨h,hf⟩:=h;have same:Y.D=X.D -> Sm X Y:=fun h=>⟨by rw [h],by rw [h],by rw [h],by rw [h]⟩
 have em:e=6 -> X.dir s=none \/ X.dir s ≠ none:=fun _=>Classical.em _;refine ⟨hf,?_⟩;rcases h with ⟨-,h0,h⟩ | ⟨-,-,h0,h⟩ | ⟨b,-,hl,⟨-,h0,h⟩ | ⟨-,h0,h⟩⟩
 ·exact .inl ⟨by omega,same h,em⟩
 ·exact .inl ⟨by omega,same h,em⟩
 ·exact .inl ⟨by omega,same h,em⟩
 ·
  rcases z1p X.D with ⟨h2,h3⟩ | ⟨h2,h3⟩
  ·rw [if_pos h2] at h;obtain ⟨q1,q2,q3,-,q5⟩:=z04 X.D;exact .inr ⟨by rw [h0,h3],b,hl,by rw [h];simp only [Dk.rem,Dk.step,q1],by rw [h];simp only [Dk.rem,Dk.step,q2],by rw [h];simp only [Dk.rem,Dk.step,q3],by rw [h];simp only [Dk.rem,Dk.step,q5]⟩
  ·rw [if_neg h2] at h;exact .inl ⟨by rw [h0];exact h3,z3f h,em⟩
theorem z0h (h:sdO X e Y):Y.fc=X.fc /\ ((e ≠ 0 /\ Sm X Y) \/ (e=0 /\ Y.D.files=X.D.files /\ Y.D.lasting=X.D.files /\ Y.D.steps=[] /\ Y.D.cap=X.D.cap)):=by
 obtain ⟨h,hf⟩:=h;have same:Y.D=X.D -> Sm X Y:=fun h=>⟨by rw [h],by rw [h],by rw [h],by rw [h]⟩
 refine ⟨hf,?_⟩;rcases h with ⟨-,h0,h⟩ | ⟨-,h0,h⟩
 ·exact .inl ⟨by omega,same h⟩
 ·
  rcases z1p X.D with ⟨h2,h3⟩ | ⟨h2,h3⟩
  ·rw [if_pos h2] at h;obtain ⟨q1,q2,q3,-,q5⟩:=z04 X.D;exact .inr ⟨by rw [h0,h3],by rw [h];simp only [Dk.sdir,q1],by rw [h];simp only [Dk.sdir,q1],by rw [h];simp only [Dk.sdir],by rw [h];simp only [Dk.sdir,q5]⟩
  ·rw [if_neg h2] at h;exact .inl ⟨by rw [h0];exact h3,z3f h⟩
theorem z3z (h:sdO X 0 Y) {f:Dir} (hf:Rch Y f):f=X.dir:=by
 obtain ⟨-,⟨h0,-⟩ | ⟨-,h1,h2,h3,-⟩⟩:=z0h h
 ·exact absurd rfl h0
 ·
  rcases hf with hf | ⟨bs,hf⟩
  ·rw [hf];unfold Ds.dir;rw [h1]
  ·rw [hf,h3,z8w,h2];rfl
end Go.Log
end
section
namespace Go.Log
open Go.Vfs
structure Sh where
 s:Nat
 first:Nat
 sn:Option (List Nat)
 bm:Nat
 bs:Nat
 cl:List (Nat × Nat × List (List Nat))
 m:Nat
 b:Nat
 rs:List (List Nat)
 q:Nat
 du:Nat
def Sh.closed (h:Sh):List (List Nat):=h.cl.flatMap fun c=>c.2.2
def Sh.tab (h:Sh):List (Nat × Nat):=h.cl.map (fun c=>(c.1,c.2.1)) ++ [(h.m,h.b)]
def Sh.blk (h:Sh) (k:Nat):Option Nat:=(h.tab.find? fun p=>decide (p.1=k)).map Prod.snd
structure Shape (nm:ByteArray) (f:Dir) (fc:Nat -> Fl) (h:Sh):Prop where
 f1:1 <= h.first
 s1:h.s <= mxn
 man:f (manf nm)=some h.bm
 manc:fc h.bm=⟨recd (mrec h.s h.first),(recd (mrec h.s h.first)).length⟩
 snap:(h.s=0 /\ h.sn=none) \/ (1 <= h.s /\ ∃ x,h.sn=some x /\ Recs [x] /\ f (snf nm h.s)=some h.bs /\ fc h.bs=⟨recd x,(recd x).length⟩)
 asc:h.tab.Pairwise fun a b=>a.1 < b.1
 rng:∀ p ∈ h.tab,h.first <= p.1 /\ p.1 <= mxn
 segs:∀ k,h.first <= k -> k <= mxn -> f (sgf nm k)=h.blk k
 clc:∀ c ∈ h.cl,fc c.2.1=⟨enc c.2.2,(enc c.2.2).length⟩ /\ Recs c.2.2
 lastb:(fc h.b).b=(enc h.rs).take h.q
 lastq:h.q <= (enc h.rs).length
 lastl:(enc (h.rs.take h.du)).length <= (fc h.b).lasts /\ (fc h.b).lasts <= h.q
 lastd:h.du <= h.rs.length
 lastr:Recs h.rs
 apart:h.b ≠ h.bm /\ (1 <= h.s -> h.b ≠ h.bs) /\ ∀ c ∈ h.cl,c.2.1 ≠ h.b
theorem zez {l:List (Nat × Nat)} (ha:l.Pairwise fun a b=>a.1 < b.1) {k x:Nat} (h:(k,x) ∈ l):(l.find? fun p=>decide (p.1=k)).map Prod.snd=some x:=by
 induction l with
 | nil=>cases h
 | cons p l ih =>
  rw [List.pairwise_cons] at ha;rw [List.find?_cons];rcases List.mem_cons.1 h with h | h
  ·subst h;simp
  ·have:=ha.1 _ h;simp only at this;rw [decide_eq_false (by omega)];exact ih ha.2 h
theorem z8a {l:List (Nat × Nat)} {k:Nat} (h:∀ p ∈ l,p.1 ≠ k):(l.find? fun p=>decide (p.1=k)).map Prod.snd=none:=by
 rw [Option.map_eq_none_iff,List.find?_eq_none];intro p hp;simpa using h p hp
theorem zey {l:List (Nat × Nat)} {k x:Nat} (h:(l.find? fun p=>decide (p.1=k)).map Prod.snd=some x):(k,x) ∈ l:=by
 obtain ⟨p,h1,h2⟩:=Option.map_eq_some_iff.1 h;have h3:=List.find?_some h1;have h4:=List.mem_of_find?_eq_some h1;obtain ⟨a,c⟩:=p;simp only [decide_eq_true_eq] at h3 h2;subst h3 h2;exact h4
variable {nm:ByteArray} {f g:Dir} {fc fc':Nat -> Fl} {h:Sh}
def Sh.names (nm:ByteArray) (h:Sh) (t:ByteArray):Prop:=t=manf nm \/ (1 <= h.s /\ t=snf nm h.s) \/ ∃ k,h.first <= k /\ k <= mxn /\ t=sgf nm k
def Sh.blocks (h:Sh) (b:Nat):Prop:=b=h.bm \/ (1 <= h.s /\ b=h.bs) \/ (∃ c ∈ h.cl,b=c.2.1) \/ b=h.b
theorem zb4 (h:Sh):(h.m,h.b) ∈ h.tab:=by unfold Sh.tab;simp
theorem mem_tab' {h:Sh} {c:Nat × Nat × List (List Nat)} (hc:c ∈ h.cl):(c.1,c.2.1) ∈ h.tab:=by
 unfold Sh.tab;exact List.mem_append_left _ (List.mem_map.2 ⟨c,hc,rfl⟩)
theorem Shape.blkOf (hs:Shape nm f fc h) {k x:Nat} (hp:(k,x) ∈ h.tab):f (sgf nm k)=some x:=by
 have hr:=hs.rng _ hp;rw [hs.segs k hr.1 hr.2];exact zez hs.asc hp
theorem Shape.lastAt (hs:Shape nm f fc h):f (sgf nm h.m)=some h.b:=hs.blkOf (zb4 h)
theorem Shape.m1 (hs:Shape nm f fc h):h.first <= h.m /\ h.m <= mxn:=hs.rng _ (zb4 h)
theorem Shape.blocks_at (hs:Shape nm f fc h) {b:Nat} (hb:h.blocks b):∃ t,f t=some b:=by
 rcases hb with rfl | ⟨h1,rfl⟩ | ⟨c,hc,rfl⟩ | rfl
 ·exact ⟨_,hs.man⟩
 ·
  rcases hs.snap with ⟨h0,-⟩ | ⟨-,x,-,-,h2,-⟩
  ·omega
  ·exact ⟨_,h2⟩
 ·exact ⟨_,hs.blkOf (mem_tab' hc)⟩
 ·exact ⟨_,hs.lastAt⟩
theorem Shape.ofDir (hs:Shape nm f fc h) (hg:∀ t,h.names nm t -> g t=f t):Shape nm g fc h:=by
  have e:∀ k,h.first <= k -> k <= mxn -> g (sgf nm k)=f (sgf nm k):=fun k h1 h2=>hg _ (.inr (.inr ⟨k,h1,h2,rfl⟩))
  exact { hs with
    man := (hg _ (.inl rfl)).trans hs.man
    snap := hs.snap.imp id fun ⟨h1, x, h2, h3, h4, h5⟩ => ⟨h1, x, h2, h3, (hg _ (.inr (.inl ⟨h1, rfl⟩))).trans h4, h5⟩
    segs := fun k h1 h2 => (e k h1 h2).trans (hs.segs k h1 h2) }
theorem Shape.ofCon (hs:Shape nm f fc h) (hg:∀ b,h.blocks b -> fc' b=fc b):Shape nm f fc' h:=by
  have eb:=hg h.b (.inr (.inr (.inr rfl)))
  exact { hs with
    manc := (hg _ (.inl rfl)).trans hs.manc
    snap := hs.snap.imp id fun ⟨h1, x, h2, h3, h4, h5⟩ => ⟨h1, x, h2, h3, h4, (hg _ (.inr (.inl ⟨h1, rfl⟩))).trans h5⟩
    clc := fun c hc => ⟨(hg _ (.inr (.inr (.inl ⟨c, hc, rfl⟩)))).trans (hs.clc c hc).1, (hs.clc c hc).2⟩
    lastb := by rw [eb]; exact hs.lastb
    lastl := by rw [eb]; exact hs.lastl }
theorem z0l (fc:Nat -> Fl) (b:Nat) (x:Fl):setf fc b x b=x:=by simp [setf]
theorem z0m (fc:Nat -> Fl) {b c:Nat} (x:Fl) (h:c ≠ b):setf fc b x c=fc c:=by simp [setf,h]
theorem Shape.setOther (hs:Shape nm f fc h) {b:Nat} (x:Fl) (hb:¬ h.blocks b):Shape nm f (setf fc b x) h :=
 hs.ofCon fun c hc=>z0m fc x (fun e=>hb (e ▸ hc))
theorem Shape.setLast (hs:Shape nm f fc h) (x:Fl) (rs:List (List Nat)) (q du:Nat) (h1:x.b=(enc rs).take q) (h2:q <= (enc rs).length) (h3:(enc (rs.take du)).length <= x.lasts /\ x.lasts <= q) (h4:du <= rs.length) (h5:Recs rs) :
    Shape nm f (setf fc h.b x) { h with rs:=rs,q:=q,du:=du }:=by
  obtain ⟨a1,a2,a3⟩:=hs.apart
  exact { f1 := hs.f1, s1 := hs.s1, man := hs.man, asc := hs.asc, rng := hs.rng, segs := hs.segs, lastq := h2, lastd := h4, lastr := h5, apart := hs.apart
          manc := by show setf fc h.b x h.bm = _; rw [z0m _ _ a1.symm]; exact hs.manc
          snap := hs.snap.imp id fun ⟨g1, y, g2, g3, g4, g5⟩ => ⟨g1, y, g2, g3, g4, by show setf fc h.b x h.bs = _; rw [z0m _ _ (a2 g1).symm]; exact g5⟩
          clc := fun c hc => ⟨by rw [z0m _ _ (a3 c hc)]; exact (hs.clc c hc).1, (hs.clc c hc).2⟩
          lastb := by show (setf fc h.b x h.b).b = _; rw [z0l]; exact h1
          lastl := by show _ <= (setf fc h.b x h.b).lasts /\ (setf fc h.b x h.b).lasts <= _; rw [z0l]; exact h3 }
theorem z1q (x:List Nat):enc [x]=recd x:=by simp [enc]
theorem Recs.one {x:List Nat} (h1:x.length <= mxr) (h2:∀ y ∈ x,y < 256):Recs [x]:=fun b hb=>by rw [List.mem_singleton.1 hb];exact ⟨h1,h2⟩
theorem Shape.append (hs:Shape nm f fc h) (hq:h.q=(enc h.rs).length) {x:List Nat} (hx:Recs [x]) {k:Nat} (hk:k <= (recd x).length) :
  Shape nm f (setf fc h.b ⟨(fc h.b).b ++ (recd x).take k,(fc h.b).lasts⟩) { h with rs:=h.rs ++ [x],q:=h.q + k }:=by
 have hl:=hs.lastl;refine hs.setLast _ (h.rs ++ [x]) (h.q + k) h.du ?_ ?_ ?_ ?_ (hs.lastr.append hx)
 ·show (fc h.b).b ++ (recd x).take k=_;rw [hs.lastb,z0o,z1q,List.take_append,List.take_of_length_le (show (enc h.rs).length <= h.q by omega),List.take_of_length_le (show (enc h.rs).length <= h.q + k by omega),show h.q + k - (enc h.rs).length=k by omega]
 ·rw [z0o,z1q,List.length_append];omega
 ·rw [List.take_append_of_le_length hs.lastd];exact ⟨hl.1,by show (fc h.b).lasts <= _;omega⟩
 ·rw [List.length_append];have:=hs.lastd;omega
theorem Shape.synced (hs:Shape nm f fc h) (hq:h.q=(enc h.rs).length):Shape nm f (setf fc h.b ⟨(fc h.b).b,(fc h.b).b.length⟩) { h with du:=h.rs.length }:=by
 have hl:(fc h.b).b.length=h.q:=by rw [hs.lastb,List.length_take,hq];omega
 refine hs.setLast _ h.rs h.q h.rs.length hs.lastb hs.lastq ?_ (Nat.le_refl _) hs.lastr;show _ <= (fc h.b).b.length /\ (fc h.b).b.length <= _;rw [hl,List.take_length,hq];exact ⟨Nat.le_refl _,Nat.le_refl _⟩
theorem Shape.wholes (hs:Shape nm f fc h):∃ j,h.du <= j /\ j <= h.rs.length /\ whole (fc h.b).b=(h.rs.take j,(enc (h.rs.take j)).length,true) /\ (enc (h.rs.take j)).length <= (fc h.b).b.length /\ (fc h.b).b.length=h.q /\ (h.q=(enc h.rs).length -> j=h.rs.length):=by
 have hl:(fc h.b).b.length=h.q:=by rw [hs.lastb,List.length_take];have:=hs.lastq;omega
 obtain ⟨j,h1,h2,h3,h4⟩:=z8r hs.lastr hs.lastq;refine ⟨j,?_,h1,by rw [hs.lastb];exact h2,by omega,hl,fun hq=>?_⟩
 ·
  rcases Nat.lt_or_ge j h.du with hj | hj
  ·have h5:=h4 (by have:=hs.lastd;omega);have h6:=z1g (l:=h.rs) (show j + 1 <= h.du from hj);have:=hs.lastl;omega
  ·exact hj
 ·
  rcases Nat.lt_or_ge j h.rs.length with hj | hj
  ·have h5:=h4 hj;have h6:=z1g (l:=h.rs) (show j + 1 <= h.rs.length from hj);rw [List.take_length] at h6;omega
  ·omega
theorem Shape.cut (hs:Shape nm f fc h) {j:Nat} (h1:h.du <= j) (h2:j <= h.rs.length) (h3:(enc (h.rs.take j)).length <= (fc h.b).b.length) :
  Shape nm f (setf fc h.b ⟨(fc h.b).b.take (enc (h.rs.take j)).length,min (enc (h.rs.take j)).length (fc h.b).lasts⟩) { h with rs:=h.rs.take j,q:=(enc (h.rs.take j)).length }:=by
 have hl:(fc h.b).b.length=h.q:=by rw [hs.lastb,List.length_take];have:=hs.lastq;omega
 refine hs.setLast _ (h.rs.take j) (enc (h.rs.take j)).length h.du ?_ (Nat.le_refl _) ?_ ?_ (hs.lastr.take j)
 ·
  show (fc h.b).b.take _=_;rw [hs.lastb,List.take_take,Nat.min_eq_left (by omega),List.take_length];have e:enc h.rs=enc (h.rs.take j) ++ enc (h.rs.drop j):=by rw [<- z0o,List.take_append_drop]
  rw [e,List.take_left]
 ·rw [List.take_take,Nat.min_eq_left h1];have:=hs.lastl;have h6:=z1g (l:=h.rs) h1;refine ⟨?_,Nat.min_le_left _ _⟩;show _ <= min _ _;omega
 ·rw [List.length_take];omega
theorem Shape.uncut (hs:Shape nm f fc h) {j:Nat} (h1:h.du <= j) (h2:j <= h.rs.length) (h3:(enc (h.rs.take j)).length=(fc h.b).b.length) :
  Shape nm f fc { h with rs:=h.rs.take j,q:=(enc (h.rs.take j)).length }:=by
 have hl:(fc h.b).b.length=h.q:=by rw [hs.lastb,List.length_take];have:=hs.lastq;omega
 have hc:=hs.cut h1 h2 (by omega);rw [h3,List.take_length,Nat.min_eq_right (by have:=hs.lastl;omega)] at hc;have e:setf fc h.b ⟨(fc h.b).b,(fc h.b).lasts⟩=fc:=by
  funext c;by_cases e:c=h.b
  ·subst e;rw [z0l]
  ·rw [z0m _ _ e]
 rw [e] at hc;exact h3 ▸ hc
def Sh.grow (h:Sh) (n b:Nat):Sh:={ h with cl:=h.cl ++ [(h.m,h.b,h.rs)],m:=n,b:=b,rs:=[],q:=0,du:=0 }
theorem Shape.grow (hs:Shape nm f fc h) (hq:h.q=(enc h.rs).length) (hd:h.du=h.rs.length) {n b:Nat} (hn:h.m < n) (hn2:n <= mxn) (hb:¬ h.blocks b) (hfc:fc b=⟨[],0⟩):Shape nm (f.put (sgf nm n) b) fc (h.grow n b):=by
 have hf1:=hs.f1;have hm:=hs.m1;have n1:1 <= n:=by omega
 have ht:(h.grow n b).tab=h.tab ++ [(n,b)]:=by unfold Sh.grow Sh.tab;simp
 have top:∀ p ∈ h.tab,p.1 <= h.m:=by
  intro p hp;unfold Sh.tab at hp;rcases List.mem_append.1 hp with hp | hp
  ·have ha:=hs.asc;unfold Sh.tab at ha;have:=(List.pairwise_append.1 ha).2.2 p hp (h.m,h.b) (by simp);simp only at this;omega
  ·rw [List.mem_singleton.1 hp];exact Nat.le_refl _
 have hlb:(fc h.b).b=enc h.rs:=by rw [hs.lastb,hq,List.take_length]
 have hll:(fc h.b).lasts=(enc h.rs).length:=by have:=hs.lastl;rw [hd,List.take_length] at this;omega
 refine { f1:=hf1,s1:=hs.s1,man:=?_,manc:=hs.manc,snap:=?_,asc:=?_,rng:=?_,segs:=?_,clc:=?_,lastb:=?_,lastq:=Nat.zero_le _,lastl:=?_,lastd:=Nat.zero_le _,lastr:=(fun x hx=>by cases hx),apart:=?_ }
 ·show (if manf nm=sgf nm n then _ else _)=_;rw [if_neg (fun e=>z2v nm n1 hn2 e.symm)];exact hs.man
 ·
  refine hs.snap.imp id fun ⟨g1,y,g2,g3,g4,g5⟩=>⟨g1,y,g2,g3,?_,g5⟩
  show (if snf nm h.s=sgf nm n then _ else _)=_;rw [if_neg (fun e=>z2x nm n1 hn2 e.symm)];exact g4
 ·rw [ht,List.pairwise_append];refine ⟨hs.asc,by simp,fun p hp p' hp'=>?_⟩;rw [List.mem_singleton.1 hp'];have:=top p hp;show p.1 < n;omega
 ·
  intro p hp;rw [ht] at hp;rcases List.mem_append.1 hp with hp | hp
  ·exact hs.rng p hp
  ·rw [List.mem_singleton.1 hp];exact ⟨by show h.first <= n;omega,hn2⟩
 ·
  intro k h1 h2;have k1:h.first <= k:=h1;unfold Sh.blk;rw [ht];show (if sgf nm k=sgf nm n then _ else _)=_;by_cases e:k=n
  ·
   subst e;rw [if_pos rfl,List.find?_append];have:h.tab.find? (fun p=>decide (p.1=k))=none:=by
    rw [List.find?_eq_none];intro p hp;have:=top p hp;simp;omega
   rw [this];simp
  ·
   rw [if_neg (fun e2=>e (z5q nm (by omega) h2 n1 hn2 e2)),hs.segs k k1 h2,List.find?_append];unfold Sh.blk;have:[(n,b)].find? (fun p=>decide (p.1=k))=none:=by simp;omega
   rw [this,Option.or_none]
 ·
  intro c hc;have hc':c ∈ h.cl ++ [(h.m,h.b,h.rs)]:=hc;rcases List.mem_append.1 hc' with hc' | hc'
  ·exact hs.clc c hc'
  ·rw [List.mem_singleton.1 hc'];exact ⟨by cases e:fc h.b;rw [e] at hlb hll;simp only at hlb hll;rw [hlb,hll],hs.lastr⟩
 ·show (fc b).b=_;rw [hfc];rfl
 ·show _ <= (fc b).lasts /\ (fc b).lasts <= _;rw [hfc];exact ⟨Nat.le_refl _,Nat.le_refl _⟩
 ·
  refine ⟨fun e=>hb (.inl e),fun g1 e=>hb (.inr (.inl ⟨g1,e⟩)),fun c hc=>?_⟩;have hc':c ∈ h.cl ++ [(h.m,h.b,h.rs)]:=hc;rcases List.mem_append.1 hc' with hc' | hc'
  ·exact fun e=>hb (.inr (.inr (.inl ⟨c,hc',e.symm⟩)))
  ·rw [List.mem_singleton.1 hc'];exact fun e=>hb (.inr (.inr (.inr e.symm)))
theorem z0y (h:Sh) (n b:Nat):(h.grow n b).closed=h.closed ++ h.rs:=by unfold Sh.grow Sh.closed;simp
def Sh.new (s n:Nat) (x:List Nat) (bm bs b:Nat):Sh:=⟨s,n,some x,bm,bs,[],n,b,[],0,0⟩
theorem Shape.new {s n bm bs b:Nat} {x:List Nat} (hs1:1 <= s) (hs2:s <= mxn) (hn1:1 <= n) (hn2:n <= mxn) (hx:Recs [x]) (h1:f (manf nm)=some bm) (h2:fc bm=⟨recd (mrec s n),(recd (mrec s n)).length⟩) (h3:f (snf nm s)=some bs) (h4:fc bs=⟨recd x,(recd x).length⟩)
  (h5:f (sgf nm n)=some b) (h6:fc b=⟨[],0⟩) (h7:∀ k,n < k -> k <= mxn -> f (sgf nm k)=none) (h8:b ≠ bm) (h9:b ≠ bs):Shape nm f fc (Sh.new s n x bm bs b):=by
 refine { f1:=hn1,s1:=hs2,man:=h1,manc:=h2,snap:=.inr ⟨hs1,x,rfl,hx,h3,h4⟩,asc:=List.pairwise_singleton _ _,rng:=?_,segs:=?_,clc:=(fun c hc=>by cases hc),lastb:=?_,lastq:=Nat.zero_le _,lastl:=?_,lastd:=Nat.zero_le _,lastr:=(fun x hx=>by cases hx),apart:=⟨h8,fun _=>h9,fun c hc=>by cases hc⟩ }
 ·intro p hp;rw [List.mem_singleton.1 (show p ∈ [(n,b)] from hp)];exact ⟨Nat.le_refl _,hn2⟩
 ·
  intro k k1 k2;have k1':n <= k:=k1;show f (sgf nm k)=([(n,b)].find? fun p=>decide (p.1=k)).map Prod.snd;by_cases e:k=n
  ·subst e;rw [h5];simp
  ·rw [h7 k (by omega) k2];simp;omega
 ·show (fc b).b=_;rw [h6];rfl
 ·show _ <= (fc b).lasts /\ (fc b).lasts <= _;rw [h6];exact ⟨Nat.le_refl _,Nat.le_refl _⟩
end Go.Log
end
section
namespace Go.Log
open Go.Vfs
variable {nm:ByteArray} {X Y Z:Ds} {P P':Sh -> Prop} {e:Int} {s t:ByteArray} {h g:Sh} {f:Dir} {fc:Nat -> Fl}
structure In (nm:ByteArray) (X:Ds) (P:Sh -> Prop):Prop where
 wf:Wf X
 all:∀ f,Rch X f -> ∃ h,P h /\ Shape nm f X.fc h
theorem In.mono (h:In nm X P) (hP:∀ h,P h -> P' h):In nm X P':=⟨h.wf,fun f hf=>(h.all f hf).imp fun _ g=>⟨hP _ g.1,g.2⟩⟩
theorem In.live (h:In nm X P):∃ h,P h /\ Shape nm X.dir X.fc h:=h.all _ (.inl rfl)
theorem In.fresh (h:In nm X P) {b:Nat} (hb:∀ c,Ref X.D c -> c ≠ b):In nm X fun h=>P h /\ ¬ h.blocks b:=by
 refine ⟨h.wf,fun f hf=>?_⟩;obtain ⟨g,h1,h2⟩:=h.all f hf;refine ⟨g,⟨h1,fun hb2=>?_⟩,h2⟩;obtain ⟨t,ht⟩:=h2.blocks_at hb2;exact hb b (hf.ref h.wf t b ht) rfl
theorem In.con (h:In nm X P) (hs:Sm X Y) (hf:∀ h b,P h -> h.blocks b -> Y.fc b=X.fc b):In nm Y P:=by
 refine ⟨hs.wf h.wf,fun f hr=>?_⟩;obtain ⟨g,h1,h2⟩:=h.all f (hs.rch hr);exact ⟨g,h1,h2.ofCon fun b hb=>hf g b h1 hb⟩
theorem In.same (h:In nm X P) (hs:Sm X Y) (hf:Y.fc=X.fc):In nm Y P:=h.con hs fun _ b _ _=>by rw [hf]
theorem In.write (h:In nm X P) (hs:Sm X Y) {b:Nat} {x:Fl} (hf:Y.fc=setf X.fc b x) (hP:∀ h f,P h -> Shape nm f X.fc h -> ∃ h',P' h' /\ Shape nm f (setf X.fc b x) h'):In nm Y P':=by
 refine ⟨hs.wf h.wf,fun f hr=>?_⟩;obtain ⟨g,h1,h2⟩:=h.all f (hs.rch hr);rw [hf];exact hP g f h1 h2
theorem In.other (h:In nm X P) (hs:Sm X Y) {b:Nat} {x:Fl} (hf:Y.fc=setf X.fc b x) (hb:∀ h,P h -> ¬ h.blocks b):In nm Y P :=
 h.con hs fun g c h1 h2=>by rw [hf];exact z0m _ _ (fun e=>hb g h1 (e ▸ h2))
theorem In.step (h:In nm X P) {l:List (ByteArray × Nat)} {st:Stp} (hd:Dn X Y l st) (hw:st.act=0 -> ∃ b,st.f=some b) (hl:flook l=Dir.again X.dir st) (hf:∀ h b,P h -> h.blocks b -> Y.fc b=X.fc b) (hP:∀ h,P h -> P' h)
  (ha:∀ f h,P h -> Shape nm f Y.fc h -> ∃ h',P' h' /\ Shape nm (Dir.again f st) Y.fc h'):In nm Y P':=by
 refine ⟨hd.wf h.wf hw,fun f hr=>?_⟩;have key:∀ g,Rch X g -> ∃ h,P h /\ Shape nm g Y.fc h:=fun g hg=>by
  obtain ⟨q,h1,h2⟩:=h.all g hg;exact ⟨q,h1,h2.ofCon fun b hb=>hf q b h1 hb⟩
 rcases hd.rch hr with e | ⟨g,hg,e | e⟩
 ·obtain ⟨q,h1,h2⟩:=key X.dir (.inl rfl);rw [e,hl];exact ha _ q h1 h2
 ·obtain ⟨q,h1,h2⟩:=key g (.inr hg);rw [e];exact ⟨q,hP q h1,h2⟩
 ·obtain ⟨q,h1,h2⟩:=key g (.inr hg);rw [e];exact ha _ q h1 h2
theorem z2p (f:Dir) (s:ByteArray) (b:Nat):f.again ⟨0,s,ByteArray.empty,some b⟩=if (f s).isSome then f else f.put s b:=by
 unfold Dir.again;rw [if_pos rfl];rfl
theorem zcs (f:Dir) (s t:ByteArray):f.again ⟨1,s,t,none⟩=match f s with | none=>f | some b=>(f.del s).put t b:=rfl
theorem z7y (f:Dir) (s:ByteArray):f.again ⟨2,s,ByteArray.empty,none⟩=f.del s:=rfl
theorem Shape.put (hs:Shape nm f fc h) (ht:¬ h.names nm t) (b:Nat):Shape nm (Dir.put f t b) fc h :=
 hs.ofDir fun u hu=>if_neg fun e:u=t=>ht (e ▸ hu)
theorem Shape.del (hs:Shape nm f fc h) (ht:h.names nm t -> f t=none):Shape nm (Dir.del f t) fc h :=
 hs.ofDir fun u hu=>by
  unfold Dir.del;split
  ·rename_i e;subst e;exact (ht hu).symm
  ·rfl
theorem In.made (h:In nm X P) {b:Nat} (hb:∀ c,Ref X.D c -> c ≠ b) (hn:X.dir s=none) (hd:Dn X Y (X.D.files ++ [(s,b)]) ⟨0,s,ByteArray.empty,some b⟩) (hf:Y.fc=fun k=>if k=b then ⟨[],0⟩ else X.fc k) (hs:∀ f h,P h -> Shape nm f Y.fc h -> ¬ h.names nm s):In nm Y fun h=>P h /\ ¬ h.blocks b:=by
 refine (h.fresh hb).step hd (fun _=>⟨b,rfl⟩) ?_ (fun g c hg hc=>?_) (fun _ g=>g) (fun f g hg hsh=>?_)
 ·rw [z2p,hn,z0j hn];rfl
 ·rw [hf];exact if_neg fun e:c=b=>hg.2 (e ▸ hc)
 ·
  refine ⟨g,hg,?_⟩;rw [z2p];split
  ·exact hsh
  ·exact hsh.put (hs f g hg.1 hsh) b
theorem In.rm (h:In nm X P) (hd:Dn X Y (fdel X.D.files s) ⟨2,s,ByteArray.empty,none⟩) (hf:Y.fc=X.fc) (hs:∀ f h,P h -> Shape nm f Y.fc h -> h.names nm s -> f s=none):In nm Y P:=by
 refine h.step hd (fun e=>by cases e) ?_ (fun g c hg hc=>by rw [hf]) (fun _ g=>g) (fun f g hg hsh=>?_)
 ·rw [z7y,z0q];rfl
 ·exact ⟨g,hg,by rw [z7y];exact hsh.del (hs f g hg hsh)⟩
theorem In.grow (h:In nm X (·=g)) (hq:g.q=(enc g.rs).length) (hdu:g.du=g.rs.length) {n b:Nat} (hn:g.m < n) (hn2:n <= mxn) (hb:∀ c,Ref X.D c -> c ≠ b) (h0:X.dir (sgf nm n)=none) (hd:Dn X Y (X.D.files ++ [(sgf nm n,b)]) ⟨0,sgf nm n,ByteArray.empty,some b⟩) (hf:Y.fc=fun k=>if k=b then ⟨[],0⟩ else X.fc k) :
  In nm Y (fun h=>(h=g \/ h=g.grow n b) /\ ¬ g.blocks b):=by
 have hne:¬ g.blocks b:=by
  obtain ⟨q,⟨rfl,h1⟩,-⟩:=(h.fresh hb).live;exact h1
 refine (h.fresh hb).step hd (fun _=>⟨b,rfl⟩) ?_ (fun q c hg hc=>?_) (fun q hq=>⟨.inl hq.1,hne⟩) (fun f q hg hsh=>?_)
 ·rw [z2p,h0,z0j h0];rfl
 ·rw [hf];exact if_neg fun e:c=b=>hg.2 (e ▸ hc)
 ·
  obtain ⟨rfl,h1⟩:=hg;rw [z2p];split
  ·exact ⟨q,⟨.inl rfl,hne⟩,hsh⟩
  ·exact ⟨_,⟨.inr rfl,hne⟩,hsh.grow hq hdu hn hn2 h1 (by rw [hf];exact if_pos rfl)⟩
theorem In.synced (h:In nm X (·=g)) (hq:g.q=(enc g.rs).length) (hy:syO (sgf nm g.m) X 0 Y):In nm Y (·={ g with du:=g.rs.length }) /\ Sm X Y:=by
 obtain ⟨hs,⟨h0,-⟩ | ⟨-,b,hb,hf⟩⟩:=z0e hy
 ·exact absurd rfl h0
 ·obtain ⟨q,rfl,h1⟩:=h.live;have e:b=q.b:=Option.some.inj (hb.symm.trans h1.lastAt);subst e;refine ⟨h.write hs hf fun g' f hg hsh=>?_,hs⟩;subst hg;exact ⟨_,rfl,hsh.synced hq⟩
theorem zdx {l:List ByteArray} (hs:s ∈ l):sgn nm s <= nxL nm l /\ snn nm s <= nxL nm l:=by
 induction l with
 | nil=>cases hs
 | cons a l ih =>
  show sgn nm s <= max (max (sgn nm a) (snn nm a)) (nxL nm l) /\ snn nm s <= max (max (sgn nm a) (snn nm a)) (nxL nm l);rcases List.mem_cons.1 hs with rfl | hs
  ·omega
  ·have:=ih hs;omega
theorem z7j {b:Nat} (h:X.dir s=some b):s ∈ X.D.files.map Prod.fst:=List.mem_map.2 ⟨_,zq h,rfl⟩
theorem zdy {k b:Nat} (h1:1 <= k) (h2:k <= mxn) (h:X.dir (sgf nm k)=some b):k <= nx nm X:=by
 have:=(zdx (nm:=nm) (z7j h)).1
 rwa [z1l nm h1 h2] at this
theorem zba {k b:Nat} (h1:1 <= k) (h2:k <= mxn) (h:X.dir (snf nm k)=some b):k <= nx nm X:=by
 have:=(zdx (nm:=nm) (z7j h)).2
 rwa [z30 nm h1 h2] at this
theorem z4e {k:Nat} (h1:nx nm X < k) (h2:k <= mxn):X.dir (sgf nm k)=none /\ X.dir (snf nm k)=none:=by
 constructor
 ·
  cases e:X.dir (sgf nm k) with
  | none=>rfl
  | some b=>have:=zdy (by omega) h2 e;omega
 ·
  cases e:X.dir (snf nm k) with
  | none=>rfl
  | some b=>have:=zba (by omega) h2 e;omega
theorem z5l (hs:Sm X Y):nx nm Y=nx nm X:=by unfold nx;rw [hs.files]
theorem Shape.nx (hs:Shape nm X.dir X.fc h):h.m <= nx nm X /\ h.s <= nx nm X:=by
 have:=hs.m1;have:=hs.f1;refine ⟨zdy (by omega) (by omega) hs.lastAt,?_⟩;rcases hs.snap with ⟨h0,-⟩ | ⟨h1,x,-,-,h2,-⟩
 ·omega
 ·exact zba h1 hs.s1 h2
theorem zdq {k:Nat} (h1:1 <= k) (h2:k <= mxn) (hk:k ≠ h.s) (hs1:h.s <= mxn) (hf:1 <= h.first):¬ h.names nm (snf nm k):=by
 rintro (e | ⟨g1,e⟩ | ⟨j,g1,g2,e⟩)
 ·exact z77 nm h1 h2 e
 ·exact hk (zie nm h1 h2 g1 hs1 e)
 ·exact z2x nm (by omega) g2 e.symm
theorem z4w (hs1:h.s <= mxn) (hf:1 <= h.first):¬ h.names nm (newf nm):=by
 rintro (e | ⟨g1,e⟩ | ⟨j,g1,g2,e⟩)
 ·exact zc7 nm e.symm
 ·exact z7a nm g1 hs1 e.symm
 ·exact z2w nm (by omega) g2 e.symm
end Go.Log
end
section
namespace Go.Log
open Go.Vfs
variable {nm:ByteArray} {X Y Z:Ds} {P P':Sh -> Prop} {e:Int} {s t:ByteArray} {h g:Sh} {f:Dir} {fc:Nat -> Fl} {L L':Lg} {x:List Nat}
theorem zh {o:Op} {l:List Op} (h:askO (o :: l) X e Y):(e ≠ 0 /\ o X e Y) \/ ∃ Z,o X 0 Z /\ askO l Z e Y:=by
 obtain ⟨e1,Z,h1,⟨h2,rfl,rfl⟩ | ⟨rfl,h3⟩⟩:=h
 ·exact .inl ⟨h2,h1⟩
 ·exact .inr ⟨Z,h1,h3⟩
theorem z07 {o:Op} (h:askO [o] X e Y):o X e Y:=by
 rcases zh h with ⟨-,h⟩ | ⟨Z,h1,rfl,rfl⟩
 ·exact h
 ·exact h1
theorem z6w (h:In nm X P) (hs:∀ f fc h,P h -> Shape nm f fc h -> ¬ h.names nm s) (hp:putO s x X e Y) :
  In nm Y P /\ (e=0 -> X.dir s=none /\ ∃ b,(∀ t c,X.dir t=some c -> c ≠ b) /\ In nm Y (fun h=>P h /\ ¬ h.blocks b) /\ Y.dir=Dir.put X.dir s b /\ Y.fc b=⟨recd x,(recd x).length⟩ /\ ∀ c,c ≠ b -> Y.fc c=X.fc c):=by
 rcases zh hp with ⟨h0,h1⟩ | ⟨Z1,h1,hp⟩
 ·
  rcases z0g h1 with ⟨-,h2,h3⟩ | ⟨h2,-⟩
  ·exact ⟨h.same h2 h3,fun e0=>absurd e0 h0⟩
  ·exact absurd h2 h0
 rcases z0g h1 with ⟨h2,-⟩ | ⟨-,hn,-,b,hb,hd,hf⟩
 ·exact absurd rfl h2
 have i1:=h.made hb hn hd hf (fun f g hg hsh=>hs f _ g hg hsh);have d1:Z1.dir=Dir.put X.dir s b:=by unfold Ds.dir;rw [hd.files,z0j hn]
 have hb':∀ t c,X.dir t=some c -> c ≠ b:=fun t c ht=>hb c (.inl ⟨_,zq ht,rfl⟩);have d1s:Z1.dir s=some b:=by rw [d1];exact if_pos rfl
 have f1:Z1.fc b=⟨[],0⟩:=by rw [hf];exact if_pos rfl
 have f2:∀ c,c ≠ b -> Z1.fc c=X.fc c:=fun c hc=>by rw [hf];exact if_neg hc
 clear hd hf h1;rcases zh hp with ⟨h0,h1⟩ | ⟨Z2,h1,hp⟩
 ·
  obtain ⟨h2,⟨-,h3⟩ | ⟨b',k,h3,-,-,h4⟩⟩:=z0n h1
  ·exact ⟨(i1.same h2 h3).mono fun _ g=>g.1,fun e0=>absurd e0 h0⟩
  ·obtain rfl:b'=b:=Option.some.inj (h3.symm.trans d1s);exact ⟨(i1.other h2 h4 fun _ g=>g.2).mono fun _ g=>g.1,fun e0=>absurd e0 h0⟩
 obtain ⟨h2,⟨h3,-⟩ | ⟨b',k,h3,-,hk,h4⟩⟩:=z0n h1
 ·exact absurd rfl h3
 obtain rfl:b'=b:=Option.some.inj (h3.symm.trans d1s);have i2:=i1.other h2 h4 fun _ g=>g.2;have d2:Z2.dir=Dir.put X.dir s b':=h2.dir.trans d1;have d2s:Z2.dir s=some b':=by rw [d2];exact if_pos rfl
 have g1:Z2.fc b'=⟨recd x,0⟩:=by rw [h4,z0l,f1,hk rfl,List.take_length];rfl
 have g2:∀ c,c ≠ b' -> Z2.fc c=X.fc c:=fun c hc=>by rw [h4,z0m _ _ hc];exact f2 c hc
 clear h1 h2 h3 h4 hk f1 f2 i1 d1 d1s;have h1:=z07 hp;obtain ⟨h2,⟨h0,h3⟩ | ⟨-,b,h3,h4⟩⟩:=z0e h1
 ·exact ⟨(i2.same h2 h3).mono fun _ g=>g.1,fun e0=>absurd e0 h0⟩
 ·obtain rfl:b=b':=Option.some.inj (h3.symm.trans d2s);have i3:=i2.other h2 h4 fun _ g=>g.2;exact ⟨i3.mono fun _ g=>g.1,fun _=>⟨hn,b,hb',i3,h2.dir.trans d2,by rw [h4,z0l,g1],fun c hc=>by rw [h4,z0m _ _ hc];exact g2 c hc⟩⟩
def manD (nm:ByteArray) (f:Dir) (b:Nat):Dir:=fun t=>if t=manf nm then some b else if t=newf nm then none else f t
theorem z58 (hr:rmnO s X e Y):Y.fc=X.fc /\ (Sm X Y \/ Dn X Y (fdel X.D.files s) ⟨2,s,ByteArray.empty,none⟩):=by
 obtain ⟨e1,h1,h2⟩:=hr;obtain ⟨h3,⟨-,h4,-⟩ | ⟨-,b,-,h4⟩⟩:=z1j h1
 ·exact ⟨h3,.inl h4⟩
 ·exact ⟨h3,.inr h4⟩
theorem zbg (h:Sm X Y \/ Dn X Y (fdel X.D.files s) ⟨2,s,ByteArray.empty,none⟩):Y.dir=X.dir \/ Y.dir=Dir.del X.dir s:=by
 rcases h with h | h
 ·exact .inl h.dir
 ·right;unfold Ds.dir;rw [h.files,z0q]
theorem man_in {s n:Nat} (h:In nm X P) (hP:∀ h,P h -> P' h) (hm:manO nm s n X e Y)
  (hnew:∀ b fc,(∀ t c,t ≠ newf nm -> X.dir t=some c -> c ≠ b) -> fc b=⟨recd (mrec s n),(recd (mrec s n)).length⟩ -> (∀ c,c ≠ b -> fc c=X.fc c) -> ∃ h',P' h' /\ Shape nm (manD nm X.dir b) fc h') :
  In nm Y P' /\ (e=0 -> ∃ b,(∀ t c,t ≠ newf nm -> X.dir t=some c -> c ≠ b) /\ Y.dir=manD nm X.dir b /\ Y.fc b=⟨recd (mrec s n),(recd (mrec s n)).length⟩ /\ (∀ c,c ≠ b -> Y.fc c=X.fc c) /\ ∀ f,Rch Y f -> f=Y.dir):=by
 have rmI:∀ {e Z},rmnO (newf nm) X e Z -> In nm Z P:=fun hr=>by
  obtain ⟨h1,h2 | h2⟩:=z58 hr
  ·exact h.same h2 h1
  ·exact h.rm h2 h1 fun f g hg hsh hn=>absurd hn (z4w hsh.s1 hsh.f1)
 rcases zh hm with ⟨h0,h1⟩ | ⟨Z1,h1,hm⟩
 ·exact ⟨(rmI h1).mono hP,fun e0=>absurd e0 h0⟩
 have i1:=rmI h1;obtain ⟨f1,d1⟩:=z58 h1;have d1:=zbg d1;clear h1 rmI;rcases zh hm with ⟨h0,h1⟩ | ⟨Z2,h1,hm⟩
 ·exact ⟨(z6w i1 (fun f fc g _ hsh=>z4w hsh.s1 hsh.f1) h1).1.mono hP,fun e0=>absurd e0 h0⟩
 obtain ⟨i2,h2⟩:=z6w i1 (fun f fc g _ hsh=>z4w hsh.s1 hsh.f1) h1;obtain ⟨hn,b,hb,-,d2,f2,f3⟩:=h2 rfl;have d1':∀ t,Z1.dir t=if t=newf nm then none else X.dir t:=fun t=>by
  by_cases ht:t=newf nm
  ·rw [if_pos ht,ht];exact hn
  ·
   rw [if_neg ht];rcases d1 with d1 | d1
   ·rw [d1]
   ·rw [d1];exact if_neg ht
 have d2':∀ t,Z2.dir t=if t=newf nm then some b else X.dir t:=fun t=>by
  rw [d2];show (if t=newf nm then some b else Z1.dir t)=_;by_cases ht:t=newf nm
  ·rw [if_pos ht,if_pos ht]
  ·rw [if_neg ht,if_neg ht,d1' t,if_neg ht]
 have hb':∀ t c,t ≠ newf nm -> X.dir t=some c -> c ≠ b:=fun t c ht hc=>hb t c (by rw [d1' t,if_neg ht];exact hc);have f3':∀ c,c ≠ b -> Z2.fc c=X.fc c:=fun c hc=>(f3 c hc).trans (by rw [f1]);clear h1 h2 hn d1 d1' f1 f3 d2 hb i1 h;rcases zh hm with ⟨h0,h1⟩ | ⟨Z3,h1,hm⟩
 ·
  obtain ⟨h2,⟨-,h3⟩ | ⟨h3,-⟩⟩:=z0h h1
  ·exact ⟨(i2.same h3 h2).mono hP,fun e0=>absurd e0 h0⟩
  ·exact absurd h3 h0
 obtain ⟨f4,⟨h0,-⟩ | ⟨-,g1,g2,g3,g4⟩⟩:=z0h h1
 ·exact absurd rfl h0
 have r3:∀ f,Rch Z3 f -> f=Z3.dir:=fun f hf=>by rw [z3z h1 hf];unfold Ds.dir;rw [g1]
 have d3:Z3.dir=Z2.dir:=by unfold Ds.dir;rw [g1]
 have w3:Wf Z3:=by unfold Wf;rw [g3];intro s hs;cases hs
 have i3:In nm Z3 P:=⟨w3,fun f hf=>by
  obtain ⟨q,h1,h2⟩:=i2.live
  rw [r3 f hf,d3,f4];exact ⟨q,h1,h2⟩⟩
 have d3':∀ t,Z3.dir t=if t=newf nm then some b else X.dir t:=fun t=>by rw [d3];exact d2' t
 rw [<- f4] at f2 f3';clear h1 g1 g2 g3 g4 f4 d3 d2' i2 w3;have dn:Z3.dir (newf nm)=some b:=by rw [d3',if_pos rfl]
 have fin:∀ f:Dir,f=Dir.put (Dir.del Z3.dir (newf nm)) (manf nm) b -> f=manD nm X.dir b:=fun f hf=>by
  subst hf;funext t;show (if t=manf nm then some b else if t=newf nm then none else Z3.dir t)=if t=manf nm then some b else if t=newf nm then none else X.dir t
  by_cases h1:t=manf nm
  ·rw [if_pos h1,if_pos h1]
  ·
   rw [if_neg h1,if_neg h1];by_cases h2:t=newf nm
   ·rw [if_pos h2,if_pos h2]
   ·rw [if_neg h2,if_neg h2,d3',if_neg h2]
 rcases zh hm with ⟨h0,h1⟩ | ⟨Z4,h1,hm⟩
 ·
  obtain ⟨h2,⟨-,h3⟩ | ⟨h3,-⟩⟩:=z1n h1
  ·exact ⟨(i3.same h3 h2).mono hP,fun e0=>absurd e0 h0⟩
  ·exact absurd h3 h0
 obtain ⟨f4,⟨h0,-⟩ | ⟨-,b',hb2,hd⟩⟩:=z1n h1
 ·exact absurd rfl h0
 obtain rfl:b'=b:=Option.some.inj (hb2.symm.trans dn);have hag:Dir.again Z3.dir ⟨1,newf nm,manf nm,none⟩=Dir.put (Dir.del Z3.dir (newf nm)) (manf nm) b':=by rw [zcs,dn]
 have hl:flook (fput (fdel Z3.D.files (newf nm)) (manf nm) b')=Dir.put (Dir.del Z3.dir (newf nm)) (manf nm) b':=by rw [z2m,z0q];rfl
 rw [<- f4] at f2 f3';have d4:Z4.dir=manD nm X.dir b':=fin _ (by unfold Ds.dir;rw [hd.files];exact hl);have nw:=hnew b' Z4.fc hb' f2 f3';have i4:In nm Z4 P':=by
  refine ⟨hd.wf i3.wf (fun e=>by cases e),fun f hf=>?_⟩;rcases hd.rch hf with e | ⟨g,hg,e | e⟩
  ·rw [fin f (e.trans hl)];exact nw
  ·obtain ⟨q,h1,h2⟩:=i3.all g (.inr hg);rw [e,f4];exact ⟨q,hP q h1,h2⟩
  ·rw [fin f (by rw [e,r3 g (.inr hg)];exact hag)];exact nw
 have h1:=z07 hm;obtain ⟨f5,⟨h0,h3⟩ | ⟨h0,g1,g2,g3,g4⟩⟩:=z0h h1
 ·exact ⟨i4.same h3 f5,fun e0=>absurd e0 h0⟩
 ·
  subst h0;have r5:∀ f,Rch Y f -> f=Y.dir:=fun f hf=>by rw [z3z h1 hf];unfold Ds.dir;rw [g1]
  have d5:Y.dir=manD nm X.dir b':=by rw [<- d4];unfold Ds.dir;rw [g1]
  refine ⟨⟨(by unfold Wf;rw [g3];intro s hs;cases hs),fun f hf=>?_⟩,fun _=>⟨b',hb',d5,by rw [f5];exact f2,fun c hc=>by rw [f5];exact f3' c hc,r5⟩⟩;rw [r5 f hf,d5,f5];exact nw
structure LI (nm:ByteArray) (L:Lg) (X:Ds) (h:Sh):Prop where
 inn:In nm X (·=h)
 full:h.q=(enc h.rs).length
 name:L.name=nm
 nob:L.bad=false
 first:L.first=h.first
 seg:L.segment=h.m
 segs:L.segments=h.cl.length + 1
 size:L.size=h.q
 recs:L.recs=h.closed ++ h.rs
 syn:L.synced <= h.closed.length + h.du
 snap:(h.sn=none /\ L.has=false /\ L.snap=[]) \/ ∃ x,h.sn=some x /\ L.has=true /\ L.snap=x
theorem LI.shape (h:LI nm L X g):Shape nm X.dir X.fc g:=by obtain ⟨q,rfl,hq⟩:=h.inn.live;exact hq
theorem LI.may (h:LI nm L X g) {n:Nat} (hn:n <= mxr):mayE L n=0:=by
 unfold mayE;rw [if_neg (by omega),h.nob];rfl
theorem LI.atseg (h:LI nm L X g):L.seg=sgf nm g.m:=by unfold Lg.seg;rw [h.name,h.seg]
theorem z7d (h:LI nm L X g) (hr:synR L X e L' Y):(e=0 /\ L'={ L with synced:=L.recs.length } /\ LI nm L' Y { g with du:=g.rs.length }) \/ (e ≠ 0 /\ L'={ L with bad:=true } /\ In nm Y (·=g)):=by
 rcases hr with ⟨h0,-⟩ | ⟨-,h1,⟨h2,h3⟩ | ⟨h2,h3⟩⟩
 ·exact absurd (h.may (Nat.zero_le _)) h0
 ·
  rw [h.atseg] at h1;obtain ⟨q1,⟨-,q2⟩ | ⟨q2,-⟩⟩:=z0e h1
  ·exact .inr ⟨h2,h3,h.inn.same q1 q2⟩
  ·exact absurd q2 h2
 ·subst h2 h3;rw [h.atseg] at h1;refine .inl ⟨rfl,rfl,{ h with inn:=(h.inn.synced h.full h1).1,full:=h.full,syn:=?_ }⟩;show L.recs.length <= g.closed.length + g.rs.length;rw [h.recs,List.length_append];exact Nat.le_refl _
theorem zfg (h:LI nm L X g) (hr:onR L X e L' Y):(e=0 /\ ∃ b,L'={ L with segment:=nx nm X + 1,size:=0,synced:=L.recs.length,segments:=L.segments + 1 } /\ LI nm L' Y (Sh.grow { g with du:=g.rs.length } (nx nm X + 1) b)) \/
  (e ≠ 0 /\ L'={ L with bad:=true } /\ In nm Y fun h=>h=g \/ h={ g with du:=g.rs.length } \/ ∃ n b,h=Sh.grow { g with du:=g.rs.length } n b):=by
 obtain ⟨h1,h2⟩:=hr;rw [h.atseg] at h1;obtain rfl:nm=L.name:=h.name.symm
 have bad:∀ {P:Sh -> Prop},e ≠ 0 -> In L.name Y P -> (∀ h,P h -> h=g \/ h={ g with du:=g.rs.length } \/ ∃ n b,h=Sh.grow { g with du:=g.rs.length } n b) -> (e=0 /\ ∃ b,L'={ L with segment:=nx L.name X + 1,size:=0,synced:=L.recs.length,segments:=L.segments + 1 } /\ LI L.name L' Y (Sh.grow { g with du:=g.rs.length } (nx L.name X + 1) b)) \/
  (e ≠ 0 /\ L'={ L with bad:=true } /\ In L.name Y fun h=>h=g \/ h={ g with du:=g.rs.length } \/ ∃ n b,h=Sh.grow { g with du:=g.rs.length } n b):=fun h0 hi hP=>by
  rcases h2 with ⟨-,h2⟩ | ⟨h2,-⟩
  ·exact .inr ⟨h0,h2,hi.mono hP⟩
  ·exact absurd h2 h0
 rcases zh h1 with ⟨h0,h1⟩ | ⟨Z1,h1,hk⟩
 ·
  obtain ⟨q1,⟨-,q2⟩ | ⟨q2,-⟩⟩:=z0e h1
  ·exact bad h0 (h.inn.same q1 q2) fun _ e=>.inl e
  ·exact absurd q2 h0
 obtain ⟨i1,s1⟩:=h.inn.synced h.full h1;have sh1:Shape L.name Z1.dir Z1.fc { g with du:=g.rs.length }:=by obtain ⟨q,rfl,hq⟩:=i1.live;exact hq
 have n1:nx L.name Z1=nx L.name X:=z5l s1;clear h1;rcases zh hk with ⟨h0,-,h1⟩ | ⟨Z2,⟨h1,e2⟩,hk2⟩
 ·subst h1;exact bad h0 i1 fun _ e=>.inr (.inl e)
 clear hk;subst e2;have hlt:nx L.name X < mxn:=by
  unfold nxE at h1;split at h1
  ·cases h1
  ·omega
 have hno:=z4e (nm:=L.name) (X:=Z2) (k:=nx L.name X + 1) (by omega) (by omega);have hmm:=sh1.nx (h:={ g with du:=g.rs.length });have hm1:g.m <= nx L.name X:=by have:({ g with du:=g.rs.length }:Sh).m <= nx L.name Z2:=hmm.1;rw [n1] at this;exact this
 rcases zh hk2 with ⟨h0,h3⟩ | ⟨Z3,h3,hk⟩
 ·
  rcases z0g h3 with ⟨-,q1,q2⟩ | ⟨q1,-⟩
  ·exact bad h0 (i1.same q1 q2) fun _ e=>.inr (.inl e)
  ·exact absurd q1 h0
 rcases z0g h3 with ⟨q1,-⟩ | ⟨-,-,-,b,hb,hd,hf⟩
 ·exact absurd rfl q1
 have i3:=In.grow (g:={ g with du:=g.rs.length }) i1 h.full rfl (n:=nx L.name X + 1) (by show g.m < _;omega) (by omega) hb hno.1 hd hf;have i3':In L.name Z3 fun h=>h={ g with du:=g.rs.length } \/ h=Sh.grow { g with du:=g.rs.length } (nx L.name X + 1) b:=i3.mono fun _ e=>e.1;have d3:Z3.dir=Dir.put Z2.dir (sgf L.name (nx L.name X + 1)) b:=by unfold Ds.dir;rw [hd.files,z0j hno.1]
 have h4:=z07 hk;obtain ⟨f5,⟨h0,q1⟩ | ⟨h0,g1,g2,g3,g4⟩⟩:=z0h h4
 ·exact bad h0 (i3'.same q1 f5) fun _ e=>e.elim (fun e=>.inr (.inl e)) (fun e=>.inr (.inr ⟨_,_,e⟩))
 ·
  subst h0;rcases h2 with ⟨h2,-⟩ | ⟨-,h2⟩
  ·exact absurd rfl h2
  refine .inl ⟨rfl,b,h2,?_⟩;subst h2;have d5:Y.dir=Z3.dir:=by unfold Ds.dir;rw [g1]
  have lv:Shape L.name Y.dir Y.fc (Sh.grow { g with du:=g.rs.length } (nx L.name X + 1) b):=by
   rw [d5,d3,f5];have hnb:¬ Sh.blocks { g with du:=g.rs.length } b:=by obtain ⟨q,⟨-,h1⟩,-⟩:=i3.live;exact h1
   refine (sh1.ofCon fun c hc=>?_).grow h.full rfl (by show g.m < _;omega) (by omega) hnb (by rw [hf];exact if_pos rfl);rw [hf];exact if_neg fun e:c=b=>hnb (e ▸ hc)
  refine { inn:=⟨(by unfold Wf;rw [g3];intro s hs;cases hs),fun f hf=>⟨_,rfl,?_⟩⟩,full:=rfl,name:=h.name,nob:=h.nob,first:=h.first,seg:=rfl,segs:=?_,size:=rfl,recs:=?_,syn:=?_,snap:=h.snap }
  ·
   have:f=Y.dir:=by rw [z3z h4 hf,d5]
   rw [this];exact lv
  ·show L.segments + 1=(g.cl ++ [_]).length + 1;rw [h.segs];simp
  ·show L.recs=(Sh.grow _ _ _).closed ++ [];rw [z0y,List.append_nil];exact h.recs
  ·show L.recs.length <= (Sh.grow _ _ _).closed.length + 0;rw [z0y,h.recs];exact Nat.le_refl _
end Go.Log
end
section
namespace Go.Log
open Go.Vfs
variable {nm:ByteArray} {X Y Z:Ds} {P P':Sh -> Prop} {e:Int} {s t:ByteArray} {h g:Sh} {f:Dir} {fc:Nat -> Fl} {L L':Lg} {x:List Nat}
def Left (g:Sh) (all:List (List Nat)) (h:Sh):Prop:=h.sn=g.sn /\ h.closed ++ h.rs <+: all /\ g.closed.length + g.du <= h.closed.length + h.du
theorem z8d (g:Sh) (all:List (List Nat)) (ha:g.closed ++ g.rs <+: all):Left g all g:=⟨rfl,ha,Nat.le_refl _⟩
theorem z5x {g:Sh} (hd:g.du <= g.rs.length) {all:List (List Nat)} (ha:g.closed ++ g.rs <+: all):Left g all { g with du:=g.rs.length }:=⟨rfl,ha,by show _ <= g.closed.length + g.rs.length;omega⟩
theorem zdk {g:Sh} (hd:g.du <= g.rs.length) {all:List (List Nat)} (ha:g.closed ++ g.rs <+: all) (n b:Nat):Left g all (Sh.grow { g with du:=g.rs.length } n b):=by
 refine ⟨rfl,?_,?_⟩
 ·show (Sh.grow _ _ _).closed ++ [] <+: all;rw [z0y,List.append_nil];exact ha
 ·show _ <= (Sh.grow _ _ _).closed.length + 0;rw [z0y,List.length_append];show _ <= g.closed.length + g.rs.length + 0;omega
theorem z7z (h:LI nm L X g) (hx:Recs [x]) (hr:appR L x X e L' Y) :
  (L'.bad=false /\ e=0 /\ L.segment <= L'.segment /\ L'.recs=L.recs ++ [x] /\ ∃ g',LI nm L' Y g' /\ g'.sn=g.sn /\ g.closed.length + g.du <= g'.closed.length + g'.du) \/
  (L'.bad=true /\ e ≠ 0 /\ L'.segment=L.segment /\ L'.synced=L.synced /\ In nm Y (Left g (L.recs ++ [x]))):=by
 have hxl:x.length <= mxr:=(hx x (by simp)).1;have hgd:g.du <= g.rs.length:=h.shape.lastd;have hpre:g.closed ++ g.rs <+: L.recs ++ [x]:=by rw [h.recs];exact List.prefix_append _ _
 rcases hr with ⟨h0,-⟩ | ⟨-,e1,Z,h1,h2⟩
 ·exact absurd (h.may hxl) h0
 rw [h.atseg] at h1;obtain ⟨s1,h3⟩:=z0n h1;rcases h3 with ⟨h3,h4⟩ | ⟨b,k,hb,hk,hk0,hf⟩
 ·
  rcases h2 with ⟨-,rfl,rfl,rfl⟩ | ⟨h5,-⟩ | ⟨h5,-⟩
  ·exact .inr ⟨rfl,h3,rfl,rfl,(h.inn.same s1 h4).mono fun q e=>by rw [e];exact z8d g _ hpre⟩
  ·exact absurd h5 h3
  ·exact absurd h5 h3
 obtain rfl:b=g.b:=Option.some.inj (hb.symm.trans h.shape.lastAt);have i1:In nm Z (·={ g with rs:=g.rs ++ [x],q:=g.q + k }):=h.inn.write s1 hf fun q f hq hsh=>by
  subst hq;exact ⟨_,rfl,hsh.append h.full hx (by rw [zv] at hk ⊢;exact hk)⟩
 rcases h2 with ⟨h5,rfl,rfl,rfl⟩ | ⟨rfl,h5,rfl,rfl,rfl⟩ | ⟨rfl,h5,h6⟩
 ·refine .inr ⟨rfl,h5,rfl,rfl,i1.mono fun q e=>?_⟩;subst e;refine ⟨rfl,?_,Nat.le_refl _⟩;show g.closed ++ (g.rs ++ [x]) <+: _;rw [<- List.append_assoc,<- h.recs];exact List.prefix_rfl
 all_goals
  have hkl:=hk0 rfl
  subst hkl;have hfull:g.q + (recd x).length=(enc (g.rs ++ [x])).length:=by rw [z0o,z1q,List.length_append,h.full]
 ·
  refine .inl ⟨h.nob,rfl,Nat.le_refl _,rfl,_,{ inn:=i1,full:=hfull,name:=h.name,nob:=h.nob,first:=h.first,seg:=h.seg,segs:=h.segs,size:=?_,recs:=?_,syn:=h.syn,snap:=h.snap },rfl,Nat.le_refl _⟩
  ·show L.size + _=g.q + _;rw [h.size,zv]
  ·show L.recs ++ [x]=g.closed ++ (g.rs ++ [x]);rw [h.recs,List.append_assoc]
 ·
  have l1:LI nm { L with recs:=L.recs ++ [x],size:=L.size + (8 + x.length) } Z { g with rs:=g.rs ++ [x],q:=g.q + (recd x).length }:=by
   refine { inn:=i1,full:=hfull,name:=h.name,nob:=h.nob,first:=h.first,seg:=h.seg,segs:=h.segs,size:=?_,recs:=?_,syn:=h.syn,snap:=h.snap }
   ·show L.size + _=g.q + _;rw [h.size,zv]
   ·show L.recs ++ [x]=g.closed ++ (g.rs ++ [x]);rw [h.recs,List.append_assoc]
  have hpr:g.closed ++ (g.rs ++ [x]) <+: L.recs ++ [x]:=by rw [<- List.append_assoc,<- h.recs];exact List.prefix_rfl
  have hle:g.du <= (g.rs ++ [x]).length:=by rw [List.length_append];omega
  rcases zfg l1 h6 with ⟨rfl,b,rfl,h7⟩ | ⟨h7,rfl,h8⟩
  ·
   refine .inl ⟨h.nob,rfl,?_,rfl,_,h7,rfl,?_⟩
   ·show L.segment <= nx nm Z + 1;have:=l1.shape.nx.1;have e:L.segment=g.m:=h.seg;have:g.m <= nx nm Z:=this;omega
   ·show _ <= (Sh.grow _ _ _).closed.length + 0;rw [z0y,List.length_append];show _ <= g.closed.length + (g.rs ++ [x]).length + 0;omega
  ·
   refine .inr ⟨rfl,h7,rfl,rfl,h8.mono fun q hq=>?_⟩;rcases hq with rfl | rfl | ⟨n,b,rfl⟩
   ·exact ⟨rfl,hpr,Nat.le_refl _⟩
   ·exact z5x (g:={ g with rs:=g.rs ++ [x],q:=g.q + (recd x).length }) hle hpr
   ·exact zdk (g:={ g with rs:=g.rs ++ [x],q:=g.q + (recd x).length }) hle hpr n b
theorem zfz {l:List ByteArray} (hi:∀ t ∈ l,∀ f fc h,P h -> Shape nm f fc h -> h.names nm t -> f t=none):∀ {X},In nm X P -> askO (l.map rmO) X e Y -> In nm Y P:=by
 induction l with
 | nil=>intro X h ha;obtain ⟨-,rfl⟩:=ha;exact h
 | cons t l ih =>
  intro X h ha;have step:∀ {e Z},rmO t X e Z -> In nm Z P:=fun hr=>by
   obtain ⟨h1,⟨-,h2,-⟩ | ⟨-,b,-,h2⟩⟩:=z1j hr
   ·exact h.same h2 h1
   ·exact h.rm h2 h1 fun f q hq hsh hn=>hi t (by simp) f _ q hq hsh hn
  rcases zh (o:=rmO t) (l:=l.map rmO) ha with ⟨-,h1⟩ | ⟨Z,h1,h2⟩
  ·exact step h1
  ·exact ih (fun t ht=>hi t (by simp [ht])) (step h1) h2
theorem z7g (h:LI nm L X g) (hx:Recs [x]) (hr:turnR L x X e L' Y) :
  (e=0 /\ ∃ s n bm bs b,L'={ L with snap:=x,has:=true,recs:=[],synced:=0,first:=n,segment:=n,segments:=1,size:=0 } /\ LI nm L' Y (Sh.new s n x bm bs b) /\ L.segment <= n) \/
  (e ≠ 0 /\ L'={ L with bad:=true } /\ In nm Y fun q=>Left g L.recs q \/ q.sn=some x /\ q.closed=[] /\ q.rs=[]):=by
 have hxl:x.length <= mxr:=(hx x (by simp)).1;rcases hr with ⟨h0,-⟩ | ⟨-,h1,h2⟩
 ·exact absurd (h.may hxl) h0
 rw [h.atseg] at h1;obtain rfl:nm=L.name:=h.name.symm;have hgd:g.du <= g.rs.length:=h.shape.lastd;have hpre:g.closed ++ g.rs <+: L.recs:=by rw [h.recs];exact List.prefix_rfl
 have bad:∀ {P:Sh -> Prop},e ≠ 0 -> In L.name Y P -> (∀ h,P h -> Left g L.recs h \/ h.sn=some x /\ h.closed=[] /\ h.rs=[]) -> (e=0 /\ ∃ s n bm bs b,L'={ L with snap:=x,has:=true,recs:=[],synced:=0,first:=n,segment:=n,segments:=1,size:=0 } /\ LI L.name L' Y (Sh.new s n x bm bs b) /\ L.segment <= n) \/
   (e ≠ 0 /\ L'={ L with bad:=true } /\ In L.name Y fun q=>Left g L.recs q \/ q.sn=some x /\ q.closed=[] /\ q.rs=[]):=fun h0 hi hP=>by
  rcases h2 with ⟨-,h2⟩ | ⟨h2,-⟩
  ·exact .inr ⟨h0,h2,hi.mono hP⟩
  ·exact absurd h2 h0
 rcases zh h1 with ⟨h0,h1⟩ | ⟨Z1,h1,hk⟩
 ·
  obtain ⟨q1,⟨-,q2⟩ | ⟨q2,-⟩⟩:=z0e h1
  ·exact bad h0 (h.inn.same q1 q2) fun _ e=>.inl (e ▸ z8d g _ hpre)
  ·exact absurd q2 h0
 obtain ⟨i1,s1⟩:=h.inn.synced h.full h1;obtain ⟨g1,hg1⟩:∃ g1,g1=({ g with du:=g.rs.length }:Sh):=⟨_,rfl⟩
 have lg1:Left g L.recs g1:=hg1 ▸ z5x hgd hpre;have q1:g1.q=(enc g1.rs).length:=by rw [hg1];exact h.full
 have du1:g1.du=g1.rs.length:=by rw [hg1]
 have m1:g1.m=L.segment:=by rw [hg1];exact h.seg.symm
 rw [<- hg1] at i1;have sh1:Shape L.name Z1.dir Z1.fc g1:=by obtain ⟨q,rfl,hq⟩:=i1.live;exact hq
 have n1:nx L.name Z1=nx L.name X:=z5l s1;clear h1 hg1;rcases zh hk with ⟨h0,-,h1⟩ | ⟨Z2,⟨h1,e2⟩,hk2⟩
 ·subst h1;exact bad h0 i1 fun _ e=>.inl (e ▸ lg1)
 clear hk;subst e2;have hlt:nx L.name X + 1 < mxn:=by
  unfold turnE at h1;split at h1
  ·cases h1
  ·omega
 obtain ⟨k,hk⟩:∃ k,nx L.name X + 1=k:=⟨_,rfl⟩
 have hk':nx L.name X + 2=k + 1:=by omega
 rw [hk,hk'] at hk2;rw [hk'] at h2;have hmm:=sh1.nx;rw [n1] at hmm;have hno:∀ j,k <= j -> j <= mxn -> Z2.dir (sgf L.name j)=none:=fun j h3 h4=>(z4e (nm:=L.name) (by rw [n1];omega) h4).1;have kk:1 <= k /\ k + 1 <= mxn /\ g1.m < k /\ g1.s < k:=by omega
 clear n1 hmm h1 hlt hk hk';have irr:∀ f fc q,q=g1 -> Shape L.name f fc q -> ¬ q.names L.name (snf L.name k):=fun f fc q e hsh=>by
  subst e;exact zdq kk.1 (by omega) (by omega) hsh.s1 hsh.f1
 rcases zh hk2 with ⟨h0,h3⟩ | ⟨Z3,h3,hk3⟩
 ·exact bad h0 (z6w i1 irr h3).1 fun _ e=>.inl (e ▸ lg1)
 obtain ⟨hn3,b1,hb1,i3,d3,f3,f3'⟩:=(z6w i1 irr h3).2 rfl;have i3':In L.name Z3 (·=g1):=i3.mono fun _ e=>e.1;clear h3 irr hk2;rcases zh hk3 with ⟨h0,h4⟩ | ⟨Z4,h4,hk4⟩
 ·
  rcases z0g h4 with ⟨-,q1,q2⟩ | ⟨q1,-⟩
  ·exact bad h0 (i3'.same q1 q2) fun _ e=>.inl (e ▸ lg1)
  ·exact absurd q1 h0
 rcases z0g h4 with ⟨q1,-⟩ | ⟨-,hn4,-,b2,hb2,hd4,hf4⟩
 ·exact absurd rfl q1
 have i4:=(i3'.grow q1 du1 (n:=k + 1) (by omega) kk.2.1 hb2 hn4 hd4 hf4).mono fun _ e=>e.1;have d4:Z4.dir=Dir.put Z3.dir (sgf L.name (k + 1)) b2:=by unfold Ds.dir;rw [hd4.files,z0j hn4]
 have hb21:b1 ≠ b2:=hb2 b1 (.inl ⟨_,zq (show flook Z3.D.files (snf L.name k)=some b1 by show Z3.dir _=_;rw [d3];exact if_pos rfl),rfl⟩);have f4:Z4.fc b2=⟨[],0⟩:=by rw [hf4];exact if_pos rfl
 have f4':Z4.fc b1=⟨recd x,(recd x).length⟩:=by rw [hf4];exact (if_neg hb21).trans f3
 have kn:∀ j,1 <= j -> j <= mxn -> sgf L.name j ≠ snf L.name k:=fun j h3 h4=>z2x L.name h3 h4;have d4s:Z4.dir (snf L.name k)=some b1:=by
  rw [d4];show (if snf L.name k=sgf L.name (k + 1) then _ else Z3.dir _)=_;rw [if_neg (fun e=>kn (k + 1) (by omega) kk.2.1 e.symm),d3];exact if_pos rfl
 have d4g:Z4.dir (sgf L.name (k + 1))=some b2:=by rw [d4];exact if_pos rfl
 have d4n:∀ j,k + 1 < j -> j <= mxn -> Z4.dir (sgf L.name j)=none:=fun j h5 h6=>by
  rw [d4];show (if sgf L.name j=sgf L.name (k + 1) then _ else Z3.dir _)=_;rw [if_neg (fun e=>by have:=z5q L.name (by omega) h6 (by omega) kk.2.1 e;omega),d3];show (if sgf L.name j=snf L.name k then _ else Z2.dir _)=_;rw [if_neg (kn j (by omega) h6)];exact hno j (by omega) h6
 clear hd4 hf4 h4 hn4 d4 i3 i3' d3 f3 f3' hn3 hb1 hb2 hno hk3;have nw:∀ b fc,(∀ t c,t ≠ newf L.name -> Z4.dir t=some c -> c ≠ b) -> fc b=⟨recd (mrec k (k + 1)),(recd (mrec k (k + 1))).length⟩ -> (∀ c,c ≠ b -> fc c=Z4.fc c) -> Shape L.name (manD L.name Z4.dir b) fc (Sh.new k (k + 1) x b b1 b2):=fun b fc h3 h5 h6=>by
  have at':∀ t,t ≠ manf L.name -> t ≠ newf L.name -> manD L.name Z4.dir b t=Z4.dir t:=fun t h7 h8=>by unfold manD;rw [if_neg h7,if_neg h8]
  have n1:=z77 L.name kk.1 (show k <= mxn by omega);have n2:=z7a L.name kk.1 (show k <= mxn by omega);have n3:∀ j,1 <= j -> j <= mxn -> sgf L.name j ≠ manf L.name:=fun j a c=>z2v L.name a c;have n4:∀ j,1 <= j -> j <= mxn -> sgf L.name j ≠ newf L.name:=fun j a c=>z2w L.name a c;have e1:b1 ≠ b:=h3 _ _ n2 d4s;have e2:b2 ≠ b:=h3 _ _ (n4 _ (by omega) kk.2.1) d4g
  exact Shape.new kk.1 (by omega) (by omega) kk.2.1 hx (if_pos rfl) h5 ((at' _ n1 n2).trans d4s) ((h6 b1 e1).trans f4') ((at' _ (n3 _ (by omega) kk.2.1) (n4 _ (by omega) kk.2.1)).trans d4g) ((h6 b2 e2).trans f4)
   (fun j a c=>(at' _ (n3 j (by omega) c) (n4 j (by omega) c)).trans (d4n j a c)) e2 (fun e=>hb21 e.symm)
 have mi:∀ {e Z},manO L.name k (k + 1) Z4 e Z -> _:=fun {e Z} hm=>man_in (P':=fun h=>(h=g1 \/ h=g1.grow (k + 1) b2) \/ ∃ b,h=Sh.new k (k + 1) x b b1 b2) i4 (fun _ e=>.inl e) hm fun b fc h3 h5 h6=>⟨_,.inr ⟨b,rfl⟩,nw b fc h3 h5 h6⟩
 have lgg:Left g L.recs (g1.grow (k + 1) b2):=by
  refine ⟨lg1.1,?_,?_⟩
  ·show (Sh.grow _ _ _).closed ++ [] <+: _;rw [z0y,List.append_nil];exact lg1.2.1
  ·show _ <= (Sh.grow _ _ _).closed.length + 0;rw [z0y,List.length_append];have:=lg1.2.2;rw [du1] at this;omega
 rcases zh hk4 with ⟨h0,h5⟩ | ⟨Z5,h5,hk5⟩
 ·
  refine bad h0 (mi h5).1 fun q hq=>?_;rcases hq with (rfl | rfl) | ⟨b,rfl⟩
  ·exact .inl lg1
  ·exact .inl lgg
  ·exact .inr ⟨rfl,rfl,rfl⟩
 obtain ⟨b3,hb3,d5,f5,f5',r5⟩:=(mi h5).2 rfl;have i5:In L.name Z5 (·=Sh.new k (k + 1) x b3 b1 b2):=⟨(mi h5).1.wf,fun f hf=>⟨_,rfl,by rw [r5 f hf,d5];exact nw b3 _ hb3 f5 f5'⟩⟩
 have i6:∀ {e Z},sweepO L.name k (k + 1) Z5 e Z -> In L.name Z (·=Sh.new k (k + 1) x b3 b1 b2):=fun {e Z} hw=>by
  obtain ⟨ns,-,hw⟩:=hw;refine zfz (fun t ht f fc q hq hsh hn=>?_) i5 hw;subst hq;have hsw:=(List.mem_filter.1 ht).2;simp only [swept,Bool.and_eq_true,Bool.not_eq_true',Bool.or_eq_false_iff,decide_eq_false_iff_not] at hsw;obtain ⟨-,⟨h6,h7⟩,h8⟩:=hsw;rcases hn with e | ⟨-,e⟩ | ⟨j,j1,j2,e⟩
  ·exact absurd e h6
  ·exact absurd e h7
  ·subst e;have j1':k + 1 <= j:=j1;have:j ≠ k + 1:=fun e=>h8 (by rw [e]);rw [hsh.segs j j1 j2];exact z8a (l:=[(k + 1,b2)]) (fun p hp=>by rw [List.mem_singleton.1 hp];exact fun e=>this e.symm)
 clear mi nw hb3 d5 f5 f5' r5 h5 hk4;have h7:=i6 (z07 hk5);by_cases h0:e=0
 ·
  subst h0;rcases h2 with ⟨h2,-⟩ | ⟨-,h2⟩
  ·exact absurd rfl h2
  refine .inl ⟨rfl,k,k + 1,b3,b1,b2,h2,?_,by omega⟩;subst h2;exact { inn:=h7,full:=rfl,name:=rfl,nob:=h.nob,first:=rfl,seg:=rfl,segs:=rfl,size:=rfl,recs:=rfl,syn:=Nat.le_refl _,snap:=.inr ⟨x,rfl,rfl,rfl⟩ }
 ·exact bad h0 h7 fun q hq=>by subst hq;exact .inr ⟨rfl,rfl,rfl⟩
end Go.Log
end
section
namespace Go.Log
open Go.Vfs
open Go.Proofs.YtpjomdmjohjheaaGreatDoor (readOf)
variable {nm:ByteArray} {X Y Z:Ds} {P P':Sh -> Prop} {e:Int} {s t:ByteArray} {h g:Sh} {f:Dir} {fc:Nat -> Fl} {L L':Lg} {x:List Nat}
theorem flook_mem' {l:List (ByteArray × Nat)} {b:Nat} (hn:(l.map Prod.fst).Nodup) (h:(s,b) ∈ l):flook l s=some b:=by
 induction l with
 | nil=>cases h
 | cons p l ih =>
  rw [List.map_cons,List.nodup_cons] at hn;rw [z0c];rcases List.mem_cons.1 h with h | h
  ·subst h;simp
  ·have hne:p.1 ≠ s:=fun e=>hn.1 (e ▸ List.mem_map.2 ⟨_,h,rfl⟩);rw [if_neg hne];exact ih hn.2 h
theorem z6i {l l':List (ByteArray × Nat)} (hn:(l.map Prod.fst).Nodup) (hp:l'.Perm l):flook l'=flook l:=by
 funext t;have hn':(l'.map Prod.fst).Nodup:=(hp.map Prod.fst).nodup_iff.2 hn;cases e:flook l' t with
 | some b=>exact (flook_mem' hn (hp.mem_iff.1 (zq e))).symm
 | none =>
  cases e2:flook l t with
  | none=>rfl
  | some b=>rw [flook_mem' hn' (hp.mem_iff.2 (zq e2))] at e;cases e
def Sh.move (h:Sh) (v:Nat -> Nat) (q:Nat):Sh:={ h with bm:=v h.bm,bs:=v h.bs,cl:=h.cl.map fun c=>(c.1,v c.2.1,c.2.2),b:=v h.b,q:=q }
theorem z3o (h:Sh) (v:Nat -> Nat) (q:Nat):(h.move v q).closed=h.closed:=by
 unfold Sh.move Sh.closed;simp only [List.flatMap_def,List.map_map];rfl
theorem z5z (h:Sh) (v:Nat -> Nat) (q:Nat):(h.move v q).tab=h.tab.map fun p=>(p.1,v p.2):=by
 unfold Sh.move Sh.tab;simp only [List.map_append,List.map_map];rfl
theorem Shape.move (hs:Shape nm f fc h) (v:Nat -> Nat) {f':Dir} {fc':Nat -> Fl} (hf:∀ t,f' t=(f t).map v) (hv:∀ t t' b b',f t=some b -> f t'=some b' -> v b=v b' -> b=b')
  (hc:∀ t b,f t=some b -> ∃ n,(fc b).lasts <= n /\ n <= (fc b).b.length /\ fc' (v b)=⟨(fc b).b.take n,n⟩):∃ q,Shape nm f' fc' (h.move v q):=by
 have full:∀ t b l,f t=some b -> fc b=⟨l,l.length⟩ -> fc' (v b)=⟨l,l.length⟩:=fun t b l hb hl=>by
  obtain ⟨n,h1,h2,h3⟩:=hc t b hb;rw [hl] at h1 h2 h3;simp only at h1 h2 h3;have:n=l.length:=by omega
  subst this;rw [List.take_length] at h3;exact h3
 obtain ⟨n,n1,n2,n3⟩:=hc _ _ hs.lastAt;have hl:(fc h.b).b.length=h.q:=by rw [hs.lastb,List.length_take];have:=hs.lastq;omega
 have hlast:=hs.lastAt;refine ⟨n,{ f1:=hs.f1,s1:=hs.s1,man:=?_,manc:=full _ _ _ hs.man hs.manc,snap:=?_,asc:=?_,rng:=?_,segs:=?_,clc:=?_,lastb:=?_,lastq:=?_,lastl:=?_,lastd:=hs.lastd,lastr:=hs.lastr,apart:=?_ }⟩
 ·rw [hf,hs.man];rfl
 ·exact hs.snap.imp id fun ⟨g1,y,g2,g3,g4,g5⟩=>⟨g1,y,g2,g3,by rw [hf];show (f (snf nm h.s)).map v=_;rw [g4];rfl,full _ _ _ g4 g5⟩
 ·rw [z5z,List.pairwise_map];exact hs.asc
 ·intro p hp;rw [z5z] at hp;obtain ⟨q,hq,rfl⟩:=List.mem_map.1 hp;exact hs.rng q hq
 ·intro k k1 k2;rw [hf,hs.segs k k1 k2];unfold Sh.blk;rw [z5z,List.find?_map,Option.map_map,Option.map_map];rfl
 ·intro c hc';obtain ⟨c0,h0,rfl⟩:=List.mem_map.1 (show c ∈ h.cl.map fun c=>(c.1,v c.2.1,c.2.2) from hc');exact ⟨full _ _ _ (hs.blkOf (mem_tab' h0)) (hs.clc c0 h0).1,(hs.clc c0 h0).2⟩
 ·show (fc' (v h.b)).b=(enc h.rs).take n;rw [n3,hs.lastb,List.take_take,Nat.min_eq_left (by omega)]
 ·show n <= (enc h.rs).length;have:=hs.lastq;omega
 ·show _ <= (fc' (v h.b)).lasts /\ (fc' (v h.b)).lasts <= n;rw [n3];have:=hs.lastl;exact ⟨by show (enc (h.rs.take h.du)).length <= n;omega,Nat.le_refl _⟩
 ·
  obtain ⟨a1,a2,a3⟩:=hs.apart;refine ⟨fun e=>a1 (hv _ _ _ _ hlast hs.man e),fun g1 e=>?_,fun c hc' e=>?_⟩
  ·
   rcases hs.snap with ⟨h0,-⟩ | ⟨-,y,-,-,g4,-⟩
   ·have:1 <= h.s:=g1;omega
   ·exact a2 g1 (hv _ _ _ _ hlast g4 e)
  ·obtain ⟨c0,h0,rfl⟩:=List.mem_map.1 (show c ∈ h.cl.map fun c=>(c.1,v c.2.1,c.2.2) from hc');exact a3 c0 h0 (hv _ _ _ _ (hs.blkOf (mem_tab' h0)) hlast e)
theorem z5v {zs:List Int} {D':Dk} {fc':Nat -> Fl} {φ:Nat -> Option Nat} {l2:List (ByteArray × Nat)} {bs:List Bool} (h:In nm X P) (hn:(X.D.lasting.map Prod.fst).Nodup) (hc:CrashR zs X.D X.fc D' fc' φ l2 bs) :
  ∃ f q v n,Rs X f /\ P q /\ Shape nm f X.fc q /\ In nm ⟨D',fc'⟩ (·=Sh.move q v n) /\ (∀ t,(⟨D',fc'⟩:Ds).dir t=(f t).map v):=by
 obtain ⟨p2,-,-,-,inj,all,eq,fcc⟩:=hc;have hf:flook (replay bs X.D.steps l2)=rep bs X.D.steps (flook X.D.lasting):=by rw [z4s,z6i hn p2]
 have hR:Rs X (flook (replay bs X.D.steps l2)):=⟨bs,hf⟩
 obtain ⟨q,h1,h2⟩:=h.all _ (.inr hR);have hd:∀ t,flook D'.files t=(flook (replay bs X.D.steps l2) t).map fun b=>(φ b).getD 0:=fun t=>by
  rw [eq];exact z4r _ _
 have hl:D'.lasting=D'.files:=by rw [eq];rfl
 have hs:D'.steps=[]:=by rw [eq];rfl
 have hrf:=(show Rch X _ from .inr hR).ref h.wf
 obtain ⟨n,h3⟩:=h2.move (fun b=>(φ b).getD 0) (f':=flook D'.files) (fc':=fc') hd (fun t t' b b' hb hb' e=>by
  obtain ⟨c,hc⟩:=Option.ne_none_iff_exists'.1 (all b (hrf t b hb));obtain ⟨c',hc'⟩:=Option.ne_none_iff_exists'.1 (all b' (hrf t' b' hb'));simp only [hc,hc',Option.getD_some] at e
  exact inj b b' c hc (e ▸ hc')) (fun t b hb=>fcc _ (zq hb))
 refine ⟨_,q,_,n,hR,h1,h2,⟨fun s hs'=>?_,fun f hf'=>⟨_,rfl,?_⟩⟩,hd⟩
 ·rw [hs] at hs';cases hs'
 ·
  have:f=flook D'.files:=by
   rcases hf' with hf' | ⟨bs',hf'⟩
   ·exact hf'
   ·
    have e:rep bs' D'.steps (flook D'.lasting)=flook D'.files:=by rw [hs,z8w,hl]
    exact hf'.trans e
  rw [this];exact h3
def Sh.trim (h:Sh) (j:Nat):Sh:={ h with rs:=h.rs.take j,q:=(enc (h.rs.take j)).length }
def Trims (P:Sh -> Prop):Prop:=∀ h j,P h -> h.du <= j -> j <= h.rs.length -> (enc (h.rs.take j)).length <= h.q -> P (h.trim j)
theorem z8p (fc:Nat -> Fl) {b:Nat} {x:Fl} (h:fc b=x):setf fc b x=fc:=by
 funext c;by_cases e:c=b
 ·rw [e,z0l,h]
 ·rw [z0m _ _ e]
theorem zek {x:List Nat} (hx:Recs [x]):whole (recd x)=([x],(recd x).length,true):=by
 have:=z5g hx;rw [z1q] at this;exact this
theorem zd1 {s n:Nat}:∀ x ∈ mrec s n,x < 256:=by
 intro x hx;unfold mrec at hx;rcases List.mem_append.1 hx with hx | hx
 ·exact z45 _ _ x hx
 ·exact z45 _ _ x hx
theorem z2d (s n:Nat):(mrec s n).length=16:=by unfold mrec;rw [List.length_append,z00,z00]
theorem z8h (s n:Nat):Recs [mrec s n]:=Recs.one (by rw [z2d];decide) zd1
theorem Shape.cutAny (hs:Shape nm f fc h) (b:Nat):∃ j,h.du <= j /\ j <= h.rs.length /\ (Shape nm f (setf fc b ⟨(fc b).b.take (whole (fc b).b).2.1,min (whole (fc b).b).2.1 (fc b).lasts⟩) h \/ (enc (h.rs.take j)).length <= h.q /\ Shape nm f (setf fc b ⟨(fc b).b.take (whole (fc b).b).2.1,min (whole (fc b).b).2.1 (fc b).lasts⟩) (h.trim j)):=by
 by_cases hb:h.blocks b
 ·
  have full:∀ l,fc b=⟨enc l,(enc l).length⟩ -> Recs l -> ∃ j,h.du <= j /\ j <= h.rs.length /\ (Shape nm f (setf fc b ⟨(fc b).b.take (whole (fc b).b).2.1,min (whole (fc b).b).2.1 (fc b).lasts⟩) h \/ (enc (h.rs.take j)).length <= h.q /\ Shape nm f (setf fc b ⟨(fc b).b.take (whole (fc b).b).2.1,min (whole (fc b).b).2.1 (fc b).lasts⟩) (h.trim j)):=fun l hl hr=>by
   refine ⟨h.rs.length,hs.lastd,Nat.le_refl _,.inl ?_⟩;have e:(⟨(fc b).b.take (whole (fc b).b).2.1,min (whole (fc b).b).2.1 (fc b).lasts⟩:Fl)=fc b:=by
    rw [hl];simp only [z5g hr,List.take_length,Nat.min_self]
   rw [e,z8p fc rfl];exact hs
  by_cases e:b=h.b
  ·subst e;obtain ⟨j,h1,h2,h3,h4,h5,-⟩:=hs.wholes;refine ⟨j,h1,h2,.inr ⟨by omega,?_⟩⟩;rw [h3];exact hs.cut h1 h2 h4
  ·
   rcases hb with rfl | ⟨g1,rfl⟩ | ⟨c,hc,rfl⟩ | rfl
   ·exact full [mrec h.s h.first] (by rw [z1q];exact hs.manc) (z8h _ _)
   ·
    rcases hs.snap with ⟨h0,-⟩ | ⟨-,y,-,g3,-,g5⟩
    ·omega
    ·exact full [y] (by rw [z1q];exact g5) g3
   ·exact full _ (hs.clc c hc).1 (hs.clc c hc).2
   ·exact absurd rfl e
 ·exact ⟨h.rs.length,hs.lastd,Nat.le_refl _,.inl (hs.setOther _ hb)⟩
theorem Shape.syncAny (hs:Shape nm f fc h) (b:Nat):Shape nm f (setf fc b ⟨(fc b).b,(fc b).b.length⟩) h:=by
 by_cases hb:h.blocks b
 ·
  have full:∀ l:List Nat,fc b=⟨l,l.length⟩ -> Shape nm f (setf fc b ⟨(fc b).b,(fc b).b.length⟩) h:=fun l hl=>by
   rw [z8p fc (by rw [hl])];exact hs
  by_cases e:b=h.b
  ·
   subst e;have hl:(fc h.b).b.length=h.q:=by rw [hs.lastb,List.length_take];have:=hs.lastq;omega
   have h1:=hs.setLast ⟨(fc h.b).b,(fc h.b).b.length⟩ h.rs h.q h.du hs.lastb hs.lastq ⟨by show _ <= (fc h.b).b.length;have:=hs.lastl;omega,by show (fc h.b).b.length <= _;omega⟩ hs.lastd hs.lastr;exact h1
  ·
   rcases hb with rfl | ⟨g1,rfl⟩ | ⟨c,hc,rfl⟩ | rfl
   ·exact full _ hs.manc
   ·
    rcases hs.snap with ⟨h0,-⟩ | ⟨-,y,-,g3,-,g5⟩
    ·omega
    ·exact full _ g5
   ·exact full _ (hs.clc c hc).1
   ·exact absurd rfl e
 ·exact hs.setOther _ hb
end Go.Log
end
section
namespace Go.Log
open Go.Vfs
open Go.Proofs.YtpjomdmjohjheaaGreatDoor (readOf)
variable {nm:ByteArray} {X Y Z:Ds} {P P':Sh -> Prop} {e:Int} {s t:ByteArray} {h g:Sh} {f:Dir} {fc:Nat -> Fl} {L L':Lg} {x:List Nat} {most:Nat}
theorem z3p {b:Nat} (hm:mnB s=true) (h:X.dir s=some b):readOf X.D X.fc s=((X.fc b).b,0):=by
 have e:found X.D s=(some b,0):=by
  unfold found;rw [if_pos hm,show flook X.D.files s=some b from h]
 unfold readOf;rw [e]
theorem z8i {b:Nat} (hm:mnB s=true) (h:X.dir s=some b) (hx:Recs [x]) (hc:(X.fc b).b=recd x):oneR X s=some x:=by
 unfold oneR;rw [z3p hm h,hc,zek hx];simp
theorem zdn {s n:Nat} (hs:s <= mxn) (h1:1 <= n) (hn:n <= mxn):manN (mrec s n)=some (s,n):=by
 have e1:(mrec s n).take 8=be 8 s:=by unfold mrec;rw [List.take_left' (z00 _ _)]
 have e2:(mrec s n).drop 8=be 8 n:=by unfold mrec;rw [List.drop_left' (z00 _ _)]
 have m:∀ k,k <= mxn -> k % 256 ^ 8=k:=fun k hk=>Nat.mod_eq_of_lt (by unfold mxn at hk;omega);unfold manN;rw [e1,e2,z6r,z6r,m s hs,m n hn,z2d];rw [if_pos ⟨rfl,hs,h1,hn⟩]
theorem zhq {l:List Nat} {T:List Nat} (hT:T.Pairwise (· < ·)) (hl:l.Pairwise (· <= ·)) (hn:l.Nodup) (hm:∀ k,k ∈ l ↔ k ∈ T):l=T:=by
 have nT:T.Nodup:=hT.imp (fun h=>by omega);have hp:l.Perm T:=(List.perm_ext_iff_of_nodup hn nT).2 hm;exact hp.eq_of_pairwise (le:=(· <= ·)) (fun a b _ _ h1 h2=>by omega) hl (hT.imp (fun h=>by omega))
theorem zic (hs:Shape nm X.dir X.fc h) (hnd:(X.D.files.map Prod.fst).Nodup) {ns:List Nat} (hN:SegsOf nm h.first X ns):ns=h.tab.map Prod.fst:=by
 obtain ⟨h1,h2⟩:=hN;have f1:=hs.f1;have hF:((((X.D.files.map Prod.fst).map (sgn nm)).filter fun n=>decide (h.first <= n))).Nodup:=by
  rw [List.filter_map];refine List.pairwise_map.2 ?_;have hnf:((X.D.files.map Prod.fst).filter ((fun n=>decide (h.first <= n)) ∘ sgn nm)).Nodup:=hnd.sublist List.filter_sublist;refine List.Pairwise.imp_of_mem (fun {a b} ha hb hne e=>hne ?_) hnf;have ha':h.first <= sgn nm a:=by simpa using (List.mem_filter.1 ha).2
  have hb':h.first <= sgn nm b:=by simpa using (List.mem_filter.1 hb).2
  rw [(z3e (nm:=nm) (s:=a) (by omega)).1,(z3e (nm:=nm) (s:=b) (by omega)).1,e]
 refine zhq (List.pairwise_map.2 hs.asc) h1 (h2.nodup_iff.2 hF) (fun k=>?_);rw [h2.mem_iff,List.mem_filter];constructor
 ·
  rintro ⟨hk,hk2⟩;obtain ⟨s,hs1,rfl⟩:=List.mem_map.1 hk;have hk':h.first <= sgn nm s:=by simpa using hk2
  obtain ⟨e1,e2,e3⟩:=z3e (nm:=nm) (s:=s) (by omega);obtain ⟨b,hb⟩:=z1h hs1;have hb':X.dir (sgf nm (sgn nm s))=some b:=by rw [<- e1];exact hb
  rw [hs.segs _ hk' e3] at hb';exact List.mem_map.2 ⟨_,zey hb',rfl⟩
 ·intro hk;obtain ⟨p,hp,rfl⟩:=List.mem_map.1 hk;have hr:=hs.rng p hp;have hb:=hs.blkOf (k:=p.1) (x:=p.2) hp;refine ⟨List.mem_map.2 ⟨_,z7j hb,z1l nm (by omega) hr.2⟩,by simpa using hr.1⟩
theorem z6z {ms:List Nat} (hne:ms ≠ []) (hm:∀ k,k <= mxn -> mnB (sgf nm k)=true):∀ (cl:List (Nat × Nat × List (List Nat))) (L:Lg) (e:Nat),L.name=nm -> (∀ c ∈ cl,c.1 <= mxn /\ X.dir (sgf nm c.1)=some c.2.1 /\ (X.fc c.2.1).b=enc c.2.2 /\ Recs c.2.2) ->
  ∃ L' e',rdl X (cl.map (fun c=>c.1) ++ ms) L e=rdl X ms L' e' /\ ∃ k q,L'={ L with recs:=L.recs ++ cl.flatMap (fun c=>c.2.2),segment:=k,size:=q }
 | [],L,e,_,_=>⟨L,e,rfl,L.segment,L.size,by simp⟩
 | c :: cl,L,e,hL,hc=>by
  obtain ⟨h1,h2,h3,h4⟩:=hc c (by simp);obtain ⟨L',e',h5,k,q,h6⟩:=z6z hne hm cl { L with recs:=L.recs ++ c.2.2,segment:=c.1,size:=(enc c.2.2).length } (enc c.2.2).length hL (fun c' hc'=>hc c' (by simp [hc']));refine ⟨L',e',?_,k,q,?_⟩
  ·obtain rfl:=hL;rw [List.map_cons,List.cons_append];show (if _ then _ else _)=_;rw [z3p (hm _ h1) h2,h3,z5g h4,if_pos ⟨rfl,.inl (Nat.le_refl _)⟩];exact h5
  ·rw [h6];simp
theorem zi1 (hs:Shape nm X.dir X.fc h) (hn:mnB nm=true) (h16:nm.size <= 16) (hnd:(X.D.files.map Prod.fst).Nodup) {r:Option (Lg × Nat)} (hr:readR X { lg0 nm most with first:=h.first } h.s r) :
  ∃ j,h.du <= j /\ j <= h.rs.length /\ (h.q=(enc h.rs).length -> j=h.rs.length) /\ (X.fc h.b).b.length=h.q /\ (whole (X.fc h.b).b).2.1=(enc (h.rs.take j)).length /\ (enc (h.rs.take j)).length <= h.q /\
   r=some ({ lg0 nm most with first:=h.first,segment:=h.m,segments:=h.cl.length + 1,size:=h.q,snap:=h.sn.getD [],has:=h.sn.isSome,recs:=h.closed ++ h.rs.take j },(enc (h.rs.take j)).length):=by
 obtain ⟨j,h1,h2,h3,h4,h5,h6⟩:=hs.wholes;refine ⟨j,h1,h2,h6,h5,by rw [h3],by omega,?_⟩;have hmn:∀ k,k <= mxn -> mnB (sgf nm k)=true:=fun k hk=>z0u hn h16 hk
 have key:∀ L1:Lg,L1.name=nm -> L1.first=h.first -> L1.recs=[] -> (∃ ns,SegsOf L1.name L1.first X ns /\ r=if ns=[] then none else (rdl X ns L1 0).map fun p=>({ p.1 with segments:=ns.length },p.2)) ->
   r=some ({ L1 with segment:=h.m,segments:=h.cl.length + 1,size:=h.q,recs:=h.closed ++ h.rs.take j },(enc (h.rs.take j)).length):=by
  rintro L1 e1 e2 e3 ⟨ns,hN,hr⟩;rw [e1,e2] at hN;have hns:=zic hs hnd hN;have hns':ns=h.cl.map (fun c=>c.1) ++ [h.m]:=by rw [hns];unfold Sh.tab;rw [List.map_append,List.map_map];rfl
  have hlen:ns.length=h.cl.length + 1:=by rw [hns'];simp
  have hmm:=hs.m1;rw [hr,if_neg (by intro e;rw [e] at hlen;simp at hlen),hns']
  obtain ⟨L',e',h7,k,q,h8⟩:=z6z (X:=X) (ms:=[h.m]) (by simp) hmn h.cl L1 0 e1 (fun c hc=>by
   have hp:=mem_tab' hc;have:=hs.rng _ hp
   exact ⟨this.2,hs.blkOf hp,by rw [(hs.clc c hc).1],(hs.clc c hc).2⟩)
  have hL':L'.name=nm:=by rw [h8];exact e1
  have e9:rdl X [h.m] L' e'=some ({ L' with recs:=L'.recs ++ h.rs.take j,segment:=h.m,size:=h.q },(enc (h.rs.take j)).length):=by
   show (if _ then _ else _)=_;rw [hL',z3p (hmn _ hmm.2) hs.lastAt,h3,if_pos ⟨rfl,.inr rfl⟩,<- h5];rfl
  rw [h7,e9,<- hns',hlen,h8,e3];simp [Sh.closed]
 unfold readR snapR at hr;rcases hs.snap with ⟨h0,h0'⟩ | ⟨h0,y,h7,h8,h9,h10⟩
 ·rw [if_pos h0] at hr;have:=key _ rfl rfl rfl hr;rw [this,h0'];rfl
 ·rw [if_neg (by omega),show ({ lg0 nm most with first:=h.first }:Lg).name=nm from rfl,z8i (z5k hn h16 hs.s1) h9 h8 (by rw [h10])] at hr;have:=key _ rfl rfl rfl hr;rw [this,h7];rfl
theorem z6s (hn:mnB nm=true) (h16:nm.size <= 16) (hnd:(X.D.files.map Prod.fst).Nodup) (hi:In nm X P) (hP:Trims P) (hr:openR nm most X e L Y) :
  ∃ h j,P h /\ Shape nm X.dir X.fc h /\ h.du <= j /\ j <= h.rs.length /\ (h.q=(enc h.rs).length -> j=h.rs.length) /\ In nm Y P /\
   (∃ en,(X.fc h.b).b.length=h.q /\ en=(enc (h.rs.take j)).length /\ en <= h.q /\ X.dir (sgf nm h.m)=some h.b /\ askO [if h.q=en then nop else cuO (sgf nm h.m) en,syO (sgf nm h.m),sdO] X e Y) /\
   (e=0 -> LI nm L Y { h.trim j with du:=j } /\ L.synced=L.recs.length /\ L.most=most):=by
 obtain ⟨h,hPh,hs⟩:=hi.live;have hman:oneR X (manf nm)=some (mrec h.s h.first):=z8i (z2y hn h16) hs.man (z8h _ _) (by rw [hs.manc]);have hfn:h.first <= mxn:=by have:=hs.m1;omega
 have hbind:(oneR X (manf nm)).bind manN=some (h.s,h.first):=by rw [hman];exact zdn hs.s1 hs.f1 hfn
 rcases hr with ⟨h0,-⟩ | ⟨b,-,h0,-⟩ | ⟨b,s,n,r,-,h0,hr,hq⟩
 ·rw [show flook X.D.files (manf nm)=some h.bm from hs.man] at h0;cases h0
 ·rw [hbind] at h0;cases h0
 rw [hbind] at h0;cases h0;obtain ⟨j,h1,h2,h3,h4,h5,h6,h7⟩:=zi1 hs hn h16 hnd hr;rcases hq with ⟨h8,-⟩ | ⟨L1,en,h8,h9,h10⟩
 ·rw [h7] at h8;cases h8
 rw [h7] at h8;cases h8;have hmm:=hs.m1;obtain ⟨en,hen⟩:∃ en,(enc (h.rs.take j)).length=en:=⟨_,rfl⟩
 rw [hen] at h5 h6 h9 h10;have h9':askO [if h.q=en then nop else cuO (sgf nm h.m) en,syO (sgf nm h.m),sdO] X e Y:=h9;have hla:=hs.lastAt;have cutI:∀ {e Z},(if h.q=en then nop else cuO (sgf nm h.m) en) X e Z -> In nm Z P /\ Sm X Z /\ (e=0 -> Shape nm Z.dir Z.fc (h.trim j)):=fun {e Z} hc=>by
  by_cases he:h.q=en
  ·rw [if_pos he] at hc;obtain ⟨rfl,rfl⟩:=hc;exact ⟨hi,Sm.refl _,fun _=>hs.uncut h1 h2 (by rw [hen,h4,he])⟩
  ·
   rw [if_neg he] at hc;obtain ⟨s1,⟨e0,hf⟩ | ⟨rfl,b,hb,-,hf⟩⟩:=z2a hc
   ·exact ⟨hi.same s1 hf,s1,fun e1=>absurd e1 e0⟩
   ·
    obtain rfl:b=h.b:=Option.some.inj (hb.symm.trans hla);refine ⟨hi.write s1 hf fun q f hq hsh=>?_,s1,fun _=>?_⟩
    ·
     obtain ⟨i,i1,i2,i3⟩:=hsh.cutAny h.b;rw [h5] at i3;rcases i3 with i3 | ⟨i4,i3⟩
     ·exact ⟨q,hq,i3⟩
     ·exact ⟨_,hP q i hq i1 i2 i4,i3⟩
    ·rw [s1.dir,hf,<- hen];exact hs.cut h1 h2 (by rw [h4,hen];exact h6)
 have fin:∀ (hI:In nm Y P) (hL:e=0 -> LI nm L Y { h.trim j with du:=j } /\ L.synced=L.recs.length /\ L.most=most),_:=fun hI hL=>(⟨h,j,hPh,hs,h1,h2,h3,hI,⟨en,h4,hen.symm,h6,hla,h9'⟩,hL⟩:∃ h j,P h /\ Shape nm X.dir X.fc h /\ h.du <= j /\ j <= h.rs.length /\ (h.q=(enc h.rs).length -> j=h.rs.length) /\ In nm Y P /\
   (∃ en,(X.fc h.b).b.length=h.q /\ en=(enc (h.rs.take j)).length /\ en <= h.q /\ X.dir (sgf nm h.m)=some h.b /\ askO [if h.q=en then nop else cuO (sgf nm h.m) en,syO (sgf nm h.m),sdO] X e Y) /\
   (e=0 -> LI nm L Y { h.trim j with du:=j } /\ L.synced=L.recs.length /\ L.most=most))
 rcases zh h9' with ⟨e0,g1⟩ | ⟨Z1,g1,k1⟩
 ·exact fin (cutI g1).1 (fun e1=>absurd e1 e0)
 obtain ⟨i1,s1,sh1⟩:=cutI g1;have sh1:=sh1 rfl;have d1:Z1.dir (sgf nm h.m)=some h.b:=by rw [s1.dir];exact hla
 have syI:∀ {e Z},syO (sgf nm h.m) Z1 e Z -> In nm Z P /\ Sm Z1 Z /\ (e=0 -> Shape nm Z.dir Z.fc { h.trim j with du:=j }):=fun {e Z} hc=>by
  obtain ⟨s2,⟨e0,hf⟩ | ⟨rfl,b,hb,hf⟩⟩:=z0e hc
  ·exact ⟨i1.same s2 hf,s2,fun e1=>absurd e1 e0⟩
  ·
   obtain rfl:b=h.b:=Option.some.inj (hb.symm.trans d1);refine ⟨i1.write s2 hf fun q f hq hsh=>⟨q,hq,hsh.syncAny _⟩,s2,fun _=>?_⟩;rw [s2.dir,hf];have:=sh1.synced rfl;have e3:(h.trim j).rs.length=j:=by show (h.rs.take j).length=j;rw [List.length_take];omega
   rw [e3] at this;exact this
 rcases zh k1 with ⟨e0,g2⟩ | ⟨Z2,g2,k2⟩
 ·exact fin (syI g2).1 (fun e1=>absurd e1 e0)
 obtain ⟨i2,s2,sh2⟩:=syI g2;have sh2:=sh2 rfl;have g3:=z07 k2;obtain ⟨f3,⟨e0,s3⟩ | ⟨e0,a1,a2,a3,a4⟩⟩:=z0h g3
 ·exact fin (i2.same s3 f3) (fun e1=>absurd e1 e0)
 subst e0;have d3:Y.dir=Z2.dir:=by unfold Ds.dir;rw [a1]
 have w3:Wf Y:=by unfold Wf;rw [a3];intro s hs;cases hs
 refine fin ⟨w3,fun f hf=>?_⟩ fun _=>⟨?_,?_,?_⟩
 ·rw [z3z g3 hf,f3];exact i2.live
 ·
  have e3:(h.rs.take j).length=j:=by rw [List.length_take];omega
  subst h10;refine { inn:=⟨w3,fun f hf=>⟨_,rfl,by rw [z3z g3 hf,f3];exact sh2⟩⟩,full:=rfl,name:=rfl,nob:=rfl,first:=rfl,seg:=rfl,segs:=rfl,size:=hen.symm,recs:=rfl,syn:=?_,snap:=?_ }
  ·show (h.closed ++ h.rs.take j).length <= h.closed.length + j;rw [List.length_append,e3];exact Nat.le_refl _
  ·
   show (h.sn=none /\ h.sn.isSome=false /\ h.sn.getD []=[]) \/ ∃ x,h.sn=some x /\ h.sn.isSome=true /\ h.sn.getD []=x;cases h.sn with
   | none=>exact .inl ⟨rfl,rfl,rfl⟩
   | some x=>exact .inr ⟨x,rfl,rfl,rfl⟩
 ·subst h10;rfl
 ·subst h10;rfl
end Go.Log
end
section
namespace Go.Log
open Go.Vfs
variable {nm:ByteArray} {X Y Z:Ds} {e:Int} {s t:ByteArray} {n k m:Nat} {bs:List Nat}
structure Fau (D:Dk):Prop where
 dead:D.dead=false
 fuse:D.fuse < 0
theorem zd3 (D:Dk):(chg D).1.fe=D.fe \/ (chg D).1.fe=0:=by
 unfold chg;simp only;split
 ·exact .inr rfl
 ·
  split
  ·left;simp only;split <;> rfl
  ·left;simp only;split <;> rfl
theorem zan {D:Dk} (h:Fau D):Fau (chg D).1 /\ ((chg D).2.2 ≠ 0 -> (chg D).1.fe=0) /\ (D.fe=0 -> (chg D).2.2=0 /\ (chg D).1.fe=0):=by
 obtain ⟨h1,h2⟩:=h;have f1:¬ 0 < D.fuse:=by omega
 have f0:¬ D.fuse=0:=by omega
 unfold chg;simp only [if_neg f1];split
 ·rename_i hf;exact ⟨⟨h1,h2⟩,fun _=>rfl,fun h0=>absurd h0 hf.1⟩
 ·
  by_cases h0:D.fe=0
  ·
   try rw [if_neg f0]
   exact ⟨by simp only;split <;> exact ⟨h1,h2⟩,fun h=>absurd rfl h,fun _=>⟨rfl,by simp only;split <;> exact h0⟩⟩
  ·
   try rw [if_neg f0]
   exact ⟨by simp only;split <;> exact ⟨h1,h2⟩,fun h=>absurd rfl h,fun h=>absurd h h0⟩
structure FR (X:Ds) (e:Int) (Y:Ds):Prop where
 fau:Fau Y.D
 met:e ≠ 0 -> Y.D.fe=0
 calm:X.D.fe=0 -> e=0 /\ Y.D.fe=0
 fe:Y.D.fe=X.D.fe \/ Y.D.fe=0
theorem FR.trans (h1:FR X 0 Z) (h2:FR Z e Y):FR X e Y:=⟨h2.fau,h2.met,fun h=>h2.calm (h1.calm h).2,h2.fe.elim (fun e=>e ▸ h1.fe) .inr⟩
theorem FR.refl (h:Fau X.D):FR X 0 X:=⟨h,fun h=>absurd rfl h,fun h=>⟨rfl,h⟩,.inl rfl⟩
theorem FR.chg (h:Fau X.D) (hd:Y.D=(chg X.D).1) (he:e=(chg X.D).2.2):FR X e Y:=by
 obtain ⟨a,b,c⟩:=zan h;subst he;exact ⟨hd ▸ a,fun h=>hd ▸ b h,fun h=>⟨(c h).1,hd ▸ (c h).2⟩,hd ▸ zd3 X.D⟩
theorem FR.chg' (h:Fau X.D) {D':Dk} (hY:Y.D.dead=D'.dead /\ Y.D.fuse=D'.fuse /\ Y.D.fe=D'.fe) (hd:D'=(Go.Vfs.chg X.D).1) (he:e=(Go.Vfs.chg X.D).2.2):FR X e Y:=by
 obtain ⟨a,b,c⟩:=zan h;obtain ⟨y1,y2,y3⟩:=hY;subst he hd;exact ⟨⟨by rw [y1];exact a.dead,by rw [y2];exact a.fuse⟩,fun h=>by rw [y3];exact b h,fun h=>⟨(c h).1,by rw [y3];exact (c h).2⟩,by rw [y3];exact zd3 X.D⟩
theorem z49 (h:Fau X.D) (h1:mnB s=true) (h2:X.dir s=none) (h3:X.D.files.length < 64) (hr:mkO s X e Y):FR X e Y:=by
 obtain ⟨n,-,hr⟩:=hr;rcases hr with ⟨g,-⟩ | ⟨-,⟨b,g⟩,-⟩ | ⟨-,-,g,-⟩ | ⟨-,-,-,g,-⟩ | ⟨-,-,-,-,h0,⟨-,b,-,hd,-⟩ | ⟨-,hd,-⟩⟩
 ·rw [h1] at g;cases g
 ·rw [show flook X.D.files s=none from h2] at g;cases g
 ·omega
 ·rw [h.dead] at g;cases g
 ·exact FR.chg' h (by rw [hd];exact ⟨rfl,rfl,rfl⟩) rfl h0
 ·exact FR.chg h hd h0
theorem zc1 {b:Nat} (h:Fau X.D) (h1:mnB s=true) (h2:X.dir s=some b) (h3:(bs.length:Int) <= X.D.cap - (tot X.D.files X.fc:Nat)) (hr:apO s bs X e Y):FR X e Y:=by
 have h2:flook X.D.files s=some b:=h2;rcases hr with ⟨g,-⟩ | ⟨-,g,-⟩ | ⟨b',-,hl,⟨g,-⟩ | ⟨-,g,-⟩ | ⟨-,-,h0,hd,-⟩⟩
 ·rw [h1] at g;cases g
 ·rw [h2] at g;cases g
 ·omega
 ·rw [h.dead] at g;cases g
 ·exact FR.chg h hd h0
theorem z3g {b:Nat} (h:Fau X.D) (h1:mnB s=true) (h2:X.dir s=some b) (hr:syO s X e Y):FR X e Y:=by
 have h2:flook X.D.files s=some b:=h2;rcases hr with ⟨g,-⟩ | ⟨-,g,-⟩ | ⟨b',-,hl,⟨g,-⟩ | ⟨-,h0,hd,-⟩⟩
 ·rw [h1] at g;cases g
 ·rw [h2] at g;cases g
 ·rw [h.dead] at g;cases g
 ·exact FR.chg h hd h0
theorem fr_cu {b:Nat} (h:Fau X.D) (h1:mnB s=true) (h2:X.dir s=some b) (h3:k <= (X.fc b).b.length) (hr:cuO s k X e Y):FR X e Y:=by
 have h2:flook X.D.files s=some b:=h2;rcases hr with ⟨g,-⟩ | ⟨-,g,-⟩ | ⟨-,-,g,-⟩ | ⟨b',-,-,hl,⟨g,-⟩ | ⟨-,g,-⟩ | ⟨-,-,h0,hd,-⟩⟩
 ·omega
 ·rw [h1] at g;cases g
 ·rw [h2] at g;cases g
 ·rw [h2] at hl;cases hl;omega
 ·rw [h.dead] at g;cases g
 ·exact FR.chg h hd h0
theorem zg9 {b:Nat} (h:Fau X.D) (h1:mnB s=true) (h1':mnB t=true) (h2:X.dir s=some b) (hr:rnO s t X e Y):FR X e Y:=by
 have h2:flook X.D.files s=some b:=h2;obtain ⟨hr,-⟩:=hr;rcases hr with ⟨g,-⟩ | ⟨-,g,-⟩ | ⟨-,-,g,-⟩ | ⟨b',-,-,hl,⟨g,-⟩ | ⟨-,h0,hd⟩⟩
 ·rw [h1'] at g;cases g
 ·rw [h1] at g;cases g
 ·rw [h2] at g;cases g
 ·rw [h.dead] at g;cases g
 ·refine FR.chg' h (D':=(chg X.D).1) ?_ rfl h0;rw [hd];split <;> exact ⟨rfl,rfl,rfl⟩
theorem zc2 {b:Nat} (h:Fau X.D) (h1:mnB s=true) (h2:X.dir s=some b) (hr:rmO s X e Y):FR X e Y:=by
 have h2:flook X.D.files s=some b:=h2;obtain ⟨hr,-⟩:=hr;rcases hr with ⟨g,-⟩ | ⟨-,g,-⟩ | ⟨b',-,hl,⟨g,-⟩ | ⟨-,h0,hd⟩⟩
 ·rw [h1] at g;cases g
 ·rw [h2] at g;cases g
 ·rw [h.dead] at g;cases g
 ·refine FR.chg' h (D':=(chg X.D).1) ?_ rfl h0;rw [hd];split <;> exact ⟨rfl,rfl,rfl⟩
theorem zi5 (h1:mnB s=true) (h2:X.dir s=none) (hr:rmO s X e Y):e=6 /\ Y=X:=by
 have h2:flook X.D.files s=none:=h2;obtain ⟨hr,hf⟩:=hr;rcases hr with ⟨g,-⟩ | ⟨-,-,h0,hd⟩ | ⟨b',-,g,-⟩
 ·rw [h1] at g;cases g
 ·exact ⟨h0,by cases X;cases Y;simp_all⟩
 ·rw [h2] at g;cases g
theorem zdd (h:Fau X.D) (h6:X.D.fe ≠ 6) (h1:mnB s=true) (hr:rmnO s X e Y):FR X e Y /\ (e=0 -> Y.dir s=none):=by
 obtain ⟨e1,hr,he⟩:=hr;cases hd:X.dir s with
 | none =>
  obtain ⟨rfl,rfl⟩:=zi5 h1 hd hr;subst he;exact ⟨FR.refl h,fun _=>hd⟩
 | some b =>
  have hf:=zc2 h h1 hd hr;have ne6:e1 ≠ 6:=by
   intro e6;subst e6;obtain ⟨hr,-⟩:=hr;rcases hr with ⟨-,g,-⟩ | ⟨-,g,-⟩ | ⟨b',-,hl,⟨g,-⟩ | ⟨-,h0,-⟩⟩
   ·omega
   ·rw [show flook X.D.files s=some b from hd] at g;cases g
   ·rw [h.dead] at g;cases g
   ·
    unfold chg at h0;simp only at h0;split at h0
    ·exact h6 h0.symm
    ·rw [if_neg (by have:=h.fuse;omega)] at h0;cases h0
  rw [if_neg ne6] at he;subst he;refine ⟨hf,fun e0=>?_⟩;obtain ⟨-,⟨g,-⟩ | ⟨-,b',-,hd'⟩⟩:=z1j hr
  ·exact absurd e0 g
  ·unfold Ds.dir;rw [hd'.files,z0q];exact if_pos rfl
theorem z6k (h:Fau X.D) (hr:sdO X e Y):FR X e Y:=by
 obtain ⟨hr,-⟩:=hr;rcases hr with ⟨g,-⟩ | ⟨-,h0,hd⟩
 ·rw [h.dead] at g;cases g
 ·refine FR.chg' h (D':=(chg X.D).1) ?_ rfl h0;rw [hd];split <;> exact ⟨rfl,rfl,rfl⟩
structure Bd (n t:Nat) (X:Ds):Prop where
 nf:X.D.files.length <= n
 nt:tot X.D.files X.fc <= t
 key:(X.D.files.map Prod.fst).Nodup
 blk:(X.D.files.map Prod.snd).Nodup
theorem Bd.mono {n t n' t':Nat} (h:Bd n t X) (h1:n <= n') (h2:t <= t'):Bd n' t' X:=⟨Nat.le_trans h.nf h1,Nat.le_trans h.nt h2,h.key,h.blk⟩
theorem z11 (p:ByteArray × Nat) (l:List (ByteArray × Nat)) (fc:Nat -> Fl):tot (p :: l) fc=(fc p.2).b.length + tot l fc:=by simp [tot]
theorem zej {l:List (ByteArray × Nat)} {fc fc':Nat -> Fl} (h:∀ p ∈ l,(fc' p.2).b.length=(fc p.2).b.length):tot l fc'=tot l fc:=by
 unfold tot;rw [List.map_congr_left h]
theorem zik {l:List (ByteArray × Nat)} {fc:Nat -> Fl} {b:Nat} {x:Fl} (hn:(l.map Prod.snd).Nodup) {j:Nat} (hx:x.b.length <= (fc b).b.length + j):tot l (setf fc b x) <= tot l fc + j:=by
 induction l with
 | nil=>simp [tot]
 | cons p l ih =>
  rw [List.map_cons,List.nodup_cons] at hn;rw [z11,z11];by_cases e:p.2=b
  ·
   have:tot l (setf fc b x)=tot l fc:=zej fun q hq=>by
    rw [z0m];exact fun e2=>hn.1 (by rw [e,<- e2];exact List.mem_map.2 ⟨q,hq,rfl⟩)
   rw [this,e,z0l];omega
  ·rw [z0m _ _ e];have:=ih hn.2;omega
theorem z7f (a b:List (ByteArray × Nat)) (fc:Nat -> Fl):tot (a ++ b) fc=tot a fc + tot b fc:=by simp [tot]
theorem zbu {l:List (ByteArray × Nat)} (fc:Nat -> Fl) (s:ByteArray):tot (fdel l s) fc <= tot l fc:=by
 unfold fdel
 induction l with
 | nil=>simp
 | cons p l ih =>
  rw [List.filter_cons];split
  ·rw [z11,z11];omega
  ·rw [z11];omega
theorem za1 {l:List (ByteArray × Nat)} {b:Nat} (fc:Nat -> Fl) (s:ByteArray) (h:flook l s=some b):tot (fdel l s) fc + (fc b).b.length <= tot l fc:=by
 induction l with
 | nil=>cases h
 | cons p l ih =>
  rw [z0c] at h;by_cases e:p.1=s
  ·
   rw [if_pos e] at h;cases h;have h1:fdel (p :: l) s=fdel l s:=by unfold fdel;rw [List.filter_cons,if_neg (by simpa using e)]
   have:=zbu (l:=l) fc s;rw [h1,z11];omega
  ·
   rw [if_neg e] at h;have h1:fdel (p :: l) s=p :: fdel l s:=by unfold fdel;rw [List.filter_cons,if_pos (by simpa using e)]
   rw [h1,z11,z11];have:=ih h;omega
theorem zij {l:List (ByteArray × Nat)} (fc:Nat -> Fl) (s:ByteArray) (b:Nat) (hk:(l.map Prod.fst).Nodup):tot (l.map fun p=>if p.1=s then (s,b) else p) fc <= tot l fc + (fc b).b.length:=by
 induction l with
 | nil=>simp [tot]
 | cons p l ih =>
  rw [List.map_cons,List.nodup_cons] at hk;rw [List.map_cons,z11,z11];by_cases e:p.1=s
  ·
   have:(l.map fun p=>if p.1=s then (s,b) else p)=l:=by
    conv=>rhs;rw [<- List.map_id l]
    exact List.map_congr_left fun q hq=>if_neg fun e2=>hk.1 (by rw [e,<- e2];exact List.mem_map.2 ⟨q,hq,rfl⟩)
   rw [if_pos e,this];simp only;omega
  ·rw [if_neg e];have:=ih hk.2;omega
theorem zfo (l:List (ByteArray × Nat)) (s:ByteArray) (b:Nat):(l.map fun p=>if p.1=s then (s,b) else p).map Prod.fst=l.map Prod.fst:=by
 rw [List.map_map];refine List.map_congr_left fun p hp=>?_;simp only [Function.comp];split
 ·rename_i e;exact e.symm
 ·rfl
theorem zcf {l:List (ByteArray × Nat)} {s:ByteArray} {b:Nat} (hk:(l.map Prod.fst).Nodup) (hb:(l.map Prod.snd).Nodup) (hn:b ∉ l.map Prod.snd):((l.map fun p=>if p.1=s then (s,b) else p).map Prod.snd).Nodup:=by
 induction l with
 | nil=>simp
 | cons p l ih =>
  rw [List.map_cons,List.nodup_cons] at hk hb;rw [List.map_cons,List.mem_cons,not_or] at hn;rw [List.map_cons,List.map_cons,List.nodup_cons];by_cases e:p.1=s
  ·
   have:(l.map fun p=>if p.1=s then (s,b) else p)=l:=by
    conv=>rhs;rw [<- List.map_id l]
    exact List.map_congr_left fun q hq=>if_neg fun e2=>hk.1 (by rw [e,<- e2];exact List.mem_map.2 ⟨q,hq,rfl⟩)
   rw [this,if_pos e];exact ⟨hn.2,hb.2⟩
  ·
   rw [if_neg e];refine ⟨fun h=>?_,ih hk.2 hb.2 hn.2⟩;rw [List.map_map] at h;obtain ⟨q,hq,e2⟩:=List.mem_map.1 h;simp only [Function.comp] at e2;split at e2
   ·exact hn.1 e2
   ·exact hb.1 (e2 ▸ List.mem_map.2 ⟨q,hq,rfl⟩)
theorem zgj {l:List (ByteArray × Nat)} {t:ByteArray} (h:¬ (l.any fun p=>decide (p.1=t))=true):t ∉ l.map Prod.fst:=by
 intro hm;obtain ⟨p,hp,e⟩:=List.mem_map.1 hm;exact h (List.any_eq_true.2 ⟨p,hp,by simpa using e⟩)
theorem bd_put {l:List (ByteArray × Nat)} {t:ByteArray} {b:Nat} (hk:(l.map Prod.fst).Nodup) (hb:(l.map Prod.snd).Nodup) (hn:b ∉ l.map Prod.snd) (fc:Nat -> Fl) :
  ((fput l t b).map Prod.fst).Nodup /\ ((fput l t b).map Prod.snd).Nodup /\ tot (fput l t b) fc <= tot l fc + (fc b).b.length:=by
 unfold fput;split
 ·exact ⟨by rw [zfo];exact hk,zcf hk hb hn,zij fc t b hk⟩
 ·
  rename_i h;refine ⟨?_,?_,?_⟩
  ·rw [List.map_append,List.nodup_append];exact ⟨hk,by simp,fun a ha c hc e=>zgj h (by simp at hc;rw [<- hc,<- e];exact ha)⟩
  ·rw [List.map_append,List.nodup_append];exact ⟨hb,by simp,fun a ha c hc e=>hn (by simp at hc;rw [<- hc,<- e];exact ha)⟩
  ·rw [z7f];simp [tot]
theorem Bd.sm {n t:Nat} (h:Bd n t X) (hs:Sm X Y) (hf:Y.fc=X.fc):Bd n t Y:=by
 obtain ⟨h1,h2,h3,h4⟩:=h;exact ⟨by rw [hs.files];exact h1,by rw [hs.files,hf];exact h2,by rw [hs.files];exact h3,by rw [hs.files];exact h4⟩
theorem Bd.set {n t j b:Nat} {x:Fl} (h:Bd n t X) (hs:Sm X Y) (hf:Y.fc=setf X.fc b x) (hx:x.b.length <= (X.fc b).b.length + j):Bd n (t + j) Y:=by
 obtain ⟨h1,h2,h3,h4⟩:=h;exact ⟨by rw [hs.files];exact h1,by rw [hs.files,hf];have:=zik h4 hx (fc:=X.fc);omega,by rw [hs.files];exact h3,by rw [hs.files];exact h4⟩
theorem bd_mk {n t:Nat} (h:Bd n t X) (hr:mkO s X e Y):Bd (n + 1) t Y:=by
 rcases z0g hr with ⟨-,h1,h2⟩ | ⟨-,hn,-,b,hb,hd,hf⟩
 ·exact (h.sm h1 h2).mono (by omega) (Nat.le_refl _)
 ·
  have hbn:b ∉ X.D.files.map Prod.snd:=fun hm=>by
   obtain ⟨p,hp,e⟩:=List.mem_map.1 hm;exact hb b (.inl ⟨p,hp,e⟩) rfl
  have hkn:s ∉ X.D.files.map Prod.fst:=fun hm=>by
   obtain ⟨c,hc⟩:=z1h hm;rw [show flook X.D.files s=none from hn] at hc;cases hc
  obtain ⟨h1,h2,h3,h4⟩:=h;have ht:tot X.D.files Y.fc=tot X.D.files X.fc:=zej fun p hp=>by
   rw [hf];simp only;rw [if_neg fun e:p.2=b=>hbn (e ▸ List.mem_map.2 ⟨p,hp,rfl⟩)]
  refine ⟨by rw [hd.files,List.length_append];simpa using h1,?_,?_,?_⟩
  ·
   rw [hd.files,z7f,ht];have:(Y.fc b).b.length=0:=by rw [hf];simp
   simp only [tot,List.map_cons,List.map_nil,List.sum_cons,List.sum_nil] at h2 ⊢;omega
  ·rw [hd.files,List.map_append,List.nodup_append];exact ⟨h3,by simp,fun a ha c hc e=>hkn (by simp at hc;rw [<- hc,<- e];exact ha)⟩
  ·rw [hd.files,List.map_append,List.nodup_append];exact ⟨h4,by simp,fun a ha c hc e=>hbn (by simp at hc;rw [<- hc,<- e];exact ha)⟩
theorem bd_ap {n t:Nat} (h:Bd n t X) (hr:apO s bs X e Y):Bd n (t + bs.length) Y:=by
 obtain ⟨h1,⟨-,h2⟩ | ⟨b,k,-,hk,-,hf⟩⟩:=z0n hr
 ·exact (h.sm h1 h2).mono (Nat.le_refl _) (by omega)
 ·exact h.set h1 hf (by simp only [List.length_append,List.length_take];omega)
theorem bd_sy {n t:Nat} (h:Bd n t X) (hr:syO s X e Y):Bd n t Y:=by
 obtain ⟨h1,⟨-,h2⟩ | ⟨-,b,-,hf⟩⟩:=z0e hr
 ·exact h.sm h1 h2
 ·exact h.set h1 hf (j:=0) (by simp)
theorem bd_cu {n t:Nat} (h:Bd n t X) (hr:cuO s k X e Y):Bd n t Y:=by
 obtain ⟨h1,⟨-,h2⟩ | ⟨-,b,-,-,hf⟩⟩:=z2a hr
 ·exact h.sm h1 h2
 ·exact h.set h1 hf (j:=0) (by simp only [List.length_take];omega)
theorem bd_rm {n t:Nat} (h:Bd n t X) (hr:rmO s X e Y):Bd n t Y:=by
 obtain ⟨hf,⟨-,h1,-⟩ | ⟨-,b,-,hd⟩⟩:=z1j hr
 ·exact h.sm h1 hf
 ·obtain ⟨h1,h2,h3,h4⟩:=h;have hsub:(fdel X.D.files s).Sublist X.D.files:=List.filter_sublist;exact ⟨by rw [hd.files];exact Nat.le_trans hsub.length_le h1,by rw [hd.files,hf];exact Nat.le_trans (zbu _ _) h2,by rw [hd.files];exact h3.sublist (hsub.map _),by rw [hd.files];exact h4.sublist (hsub.map _)⟩
theorem bd_rn {n k:Nat} (h:Bd n k X) (hr:rnO s t X e Y):Bd n k Y:=by
 obtain ⟨hf,⟨-,h1⟩ | ⟨-,b,hb,hd⟩⟩:=z1n hr
 ·exact h.sm h1 hf
 ·
  obtain ⟨h1,h2,h3,h4⟩:=h;have hb:flook X.D.files s=some b:=hb;have hsub:(fdel X.D.files s).Sublist X.D.files:=List.filter_sublist;have hk:=h3.sublist (hsub.map Prod.fst);have hbk:=h4.sublist (hsub.map Prod.snd);have hn:b ∉ (fdel X.D.files s).map Prod.snd:=fun hm=>by
   obtain ⟨p,hp,e⟩:=List.mem_map.1 hm;obtain ⟨hp1,hp2⟩:=List.mem_filter.1 hp;have hps:p.1 ≠ s:=by simpa using hp2
   have h5:=zq hb;have:p=(s,b):=by
    have h6:=h4;rw [List.Nodup,List.pairwise_map] at h6;obtain ⟨i,hi,hpi⟩:=List.getElem_of_mem hp1;obtain ⟨j,hj,hpj⟩:=List.getElem_of_mem h5;rcases Nat.lt_trichotomy i j with hij | hij | hij
    ·exact absurd (by rw [hpi,hpj];exact e) (List.pairwise_iff_getElem.1 h6 i j hi hj hij)
    ·subst hij;rw [<- hpi,hpj]
    ·exact absurd (by rw [hpi,hpj];exact e.symm) (List.pairwise_iff_getElem.1 h6 j i hj hi hij)
   exact hps (by rw [this])
  obtain ⟨g1,g2,g3⟩:=bd_put (t:=t) hk hbk hn Y.fc;have g4:=za1 X.fc s hb;refine ⟨?_,?_,by rw [hd.files];exact g1,by rw [hd.files];exact g2⟩
  ·rw [hd.files];exact Nat.le_trans (z3y hb t) h1
  ·rw [hd.files];rw [hf] at g3 ⊢;omega
theorem bd_sd {n t:Nat} (h:Bd n t X) (hr:sdO X e Y):Bd n t Y:=by
 obtain ⟨hf,⟨-,h1⟩ | ⟨-,h1,-⟩⟩:=z0h hr
 ·exact h.sm h1 hf
 ·obtain ⟨g1,g2,g3,g4⟩:=h;exact ⟨by rw [h1];exact g1,by rw [h1,hf];exact g2,by rw [h1];exact g3,by rw [h1];exact g4⟩
theorem cap_mk (hr:mkO s X e Y):Y.D.cap=X.D.cap:=by
 rcases z0g hr with ⟨-,h1,-⟩ | ⟨-,-,-,b,-,hd,-⟩
 ·exact h1.cap
 ·exact hd.cap
end Go.Log
end
section
namespace Go.Log
open Go.Vfs
variable {nm:ByteArray} {X Y Z:Ds} {e:Int} {s t:ByteArray} {n k m q:Nat} {x:List Nat} {A:ByteArray -> Prop} {g:Sh} {L L':Lg}
def AllN (A:ByteArray -> Prop) (X:Ds):Prop:=∀ t b,X.dir t=some b -> A t
structure Qt (n q:Nat) (A:ByteArray -> Prop) (c:Int) (X:Ds):Prop where
 bd:Bd n q X
 al:AllN A X
 cap:X.D.cap=c
variable {c:Int}
theorem Qt.mono {n' q':Nat} {A':ByteArray -> Prop} (h:Qt n q A c X) (h1:n <= n') (h2:q <= q') (h3:∀ t,A t -> A' t):Qt n' q' A' c X:=⟨h.bd.mono h1 h2,fun t b hb=>h3 t (h.al t b hb),h.cap⟩
theorem Qt.sm (h:AllN A X) (hs:Sm X Y):AllN A Y:=fun t b hb=>h t b (by rw [<- hs.dir];exact hb)
theorem z2r (h:Qt n q A c X) (hA:A s) (hr:mkO s X e Y):Qt (n + 1) q A c Y:=by
 refine ⟨bd_mk h.bd hr,?_,(cap_mk hr).trans h.cap⟩;rcases z0g hr with ⟨-,h1,-⟩ | ⟨-,hn,-,b,-,hd,-⟩
 ·exact Qt.sm h.al h1
 ·
  intro t b' hb;have hb:(Dir.put X.dir s b) t=some b':=by rw [show Y.dir=Dir.put X.dir s b by unfold Ds.dir;rw [hd.files,z0j hn]] at hb;exact hb
  unfold Dir.put at hb;split at hb
  ·rename_i e1;rw [e1];exact hA
  ·exact h.al t b' hb
theorem zcc (h:Qt n q A c X) (hr:apO s x X e Y):Qt n (q + x.length) A c Y:=⟨bd_ap h.bd hr,Qt.sm h.al (z0n hr).1,(z0n hr).1.cap.trans h.cap⟩
theorem z2s (h:Qt n q A c X) (hr:syO s X e Y):Qt n q A c Y:=⟨bd_sy h.bd hr,Qt.sm h.al (z0e hr).1,(z0e hr).1.cap.trans h.cap⟩
theorem qt_cu (h:Qt n q A c X) (hr:cuO s k X e Y):Qt n q A c Y:=⟨bd_cu h.bd hr,Qt.sm h.al (z2a hr).1,(z2a hr).1.cap.trans h.cap⟩
theorem al_del (h:AllN A X) (hd:Y.dir=Dir.del X.dir s):AllN A Y:=fun t b hb=>by
 rw [hd] at hb;unfold Dir.del at hb;split at hb
 ·cases hb
 ·exact h t b hb
theorem zcd (h:Qt n q A c X) (hr:rmO s X e Y):Qt n q A c Y:=by
 refine ⟨bd_rm h.bd hr,?_,?_⟩
 ·
  obtain ⟨-,⟨-,h1,-⟩ | ⟨-,b,-,hd⟩⟩:=z1j hr
  ·exact Qt.sm h.al h1
  ·exact al_del h.al (by unfold Ds.dir;rw [hd.files,z0q])
 ·
  obtain ⟨-,⟨-,h1,-⟩ | ⟨-,b,-,hd⟩⟩:=z1j hr
  ·exact h1.cap.trans h.cap
  ·exact hd.cap.trans h.cap
theorem z9t (h:Qt n q A c X) (hr:rmnO s X e Y):Qt n q A c Y:=by
 obtain ⟨e1,hr,-⟩:=hr;exact zcd h hr
theorem zge (h:Qt n q A c X) (hA:A t) (hr:rnO s t X e Y):Qt n q A c Y:=by
 refine ⟨bd_rn h.bd hr,?_,?_⟩
 ·
  obtain ⟨-,⟨-,h1⟩ | ⟨-,b,-,hd⟩⟩:=z1n hr
  ·exact Qt.sm h.al h1
  ·
   intro u b' hb;have hb:(Dir.put (Dir.del X.dir s) t b) u=some b':=by rw [show Y.dir=Dir.put (Dir.del X.dir s) t b by unfold Ds.dir;rw [hd.files,z2m,z0q]] at hb;exact hb
   unfold Dir.put Dir.del at hb;split at hb
   ·rename_i e1;rw [e1];exact hA
   ·
    split at hb
    ·cases hb
    ·exact h.al u b' hb
 ·
  obtain ⟨-,⟨-,h1⟩ | ⟨-,b,-,hd⟩⟩:=z1n hr
  ·exact h1.cap.trans h.cap
  ·exact hd.cap.trans h.cap
theorem z6y (h:Qt n q A c X) (hr:sdO X e Y):Qt n q A c Y:=by
 refine ⟨bd_sd h.bd hr,?_,?_⟩
 ·
  obtain ⟨-,⟨-,h1⟩ | ⟨-,h1,-⟩⟩:=z0h hr
  ·exact Qt.sm h.al h1
  ·exact fun t b hb=>h.al t b (by unfold Ds.dir at hb ⊢;rw [<- h1];exact hb)
 ·
  obtain ⟨-,⟨-,h1⟩ | ⟨-,-,-,-,h1⟩⟩:=z0h hr
  ·exact h1.cap.trans h.cap
  ·exact h1.trans h.cap
theorem z55 (h:Qt n q A c X) (hA:A s) (hr:putO s x X e Y):Qt (n + 1) (q + (8 + x.length)) A c Y:=by
 rcases zh hr with ⟨-,h1⟩ | ⟨Z1,h1,hr⟩
 ·exact (z2r h hA h1).mono (Nat.le_refl _) (by omega) (fun _ e=>e)
 have q1:=z2r h hA h1;rcases zh hr with ⟨-,h1⟩ | ⟨Z2,h1,hr⟩
 ·have:=zcc q1 h1;rw [zv] at this;exact this
 have q2:=zcc q1 h1;rw [zv] at q2;exact z2s q2 (z07 hr)
theorem z6j (hF:Fau X.D) (h:Qt n q A c X) (hA:A s) (hm:mnB s=true) (h0:X.dir s=none) (hn:n < 64) (hq:((q + (8 + x.length):Nat):Int) <= c) (hr:putO s x X e Y):FR X e Y:=by
 have hl:X.D.files.length < 64:=by have:=h.bd.nf;omega
 rcases zh hr with ⟨-,h1⟩ | ⟨Z1,h1,hr⟩
 ·exact z49 hF hm h0 hl h1
 have f1:=z49 hF hm h0 hl h1;have q1:=z2r h hA h1;rcases z0g h1 with ⟨h2,-⟩ | ⟨-,-,-,b,-,hd,-⟩
 ·exact absurd rfl h2
 have d1:Z1.dir s=some b:=by
  have:Z1.dir=Dir.put X.dir s b:=by unfold Ds.dir;rw [hd.files,z0j h0]
  rw [this];exact if_pos rfl
 have hroom:((recd x).length:Int) <= Z1.D.cap - (tot Z1.D.files Z1.fc:Nat):=by
  rw [zv,q1.cap];have:=q1.bd.nt;omega
 clear h1 hd;rcases zh hr with ⟨-,h1⟩ | ⟨Z2,h1,hr⟩
 ·exact f1.trans (zc1 f1.fau hm d1 hroom h1)
 have f2:=f1.trans (zc1 f1.fau hm d1 hroom h1);have d2:Z2.dir s=some b:=by rw [(z0n h1).1.dir];exact d1
 exact f2.trans (z3g f2.fau hm d2 (z07 hr))
theorem z6x (h:Qt n q A c X) (hA1:A (newf nm)) (hA2:A (manf nm)) (hr:manO nm m k X e Y):Qt (n + 1) (q + 24) A c Y:=by
 rcases zh hr with ⟨-,h1⟩ | ⟨Z1,h1,hr⟩
 ·exact (z9t h h1).mono (by omega) (by omega) (fun _ e=>e)
 have q1:=z9t h h1;rcases zh hr with ⟨-,h1⟩ | ⟨Z2,h1,hr⟩
 ·have:=z55 q1 hA1 h1;rw [z2d] at this;exact this
 have q2:=z55 q1 hA1 h1;rw [z2d] at q2;rcases zh hr with ⟨-,h1⟩ | ⟨Z3,h1,hr⟩
 ·exact z6y q2 h1
 have q3:=z6y q2 h1;rcases zh hr with ⟨-,h1⟩ | ⟨Z4,h1,hr⟩
 ·exact zge q3 hA2 h1
 exact z6y (zge q3 hA2 h1) (z07 hr)
theorem z7s (hr:putO s x X 0 Y):X.dir s=none /\ ∃ b,Y.dir=Dir.put X.dir s b /\ (∀ t c,X.dir t=some c -> c ≠ b) /\ Y.fc b=⟨recd x,(recd x).length⟩ /\ (∀ c,c ≠ b -> Y.fc c=X.fc c):=by
 rcases zh hr with ⟨h0,-⟩ | ⟨Z1,h1,hr⟩
 ·exact absurd rfl h0
 rcases z0g h1 with ⟨h2,-⟩ | ⟨-,hn,-,b,hb,hd,hf⟩
 ·exact absurd rfl h2
 have d1:Z1.dir=Dir.put X.dir s b:=by unfold Ds.dir;rw [hd.files,z0j hn]
 have d1s:Z1.dir s=some b:=by rw [d1];exact if_pos rfl
 rcases zh hr with ⟨h0,-⟩ | ⟨Z2,h2,hr⟩
 ·exact absurd rfl h0
 obtain ⟨s2,⟨h3,-⟩ | ⟨b',k,h3,-,hk,h4⟩⟩:=z0n h2
 ·exact absurd rfl h3
 obtain rfl:b'=b:=Option.some.inj (h3.symm.trans d1s);have d2s:Z2.dir s=some b':=by rw [s2.dir];exact d1s
 obtain ⟨s3,⟨h5,-⟩ | ⟨-,b,h5,h6⟩⟩:=z0e (z07 hr)
 ·exact absurd rfl h5
 obtain rfl:b=b':=Option.some.inj (h5.symm.trans d2s);refine ⟨hn,b,s3.dir.trans (s2.dir.trans d1),fun t c ht=>hb c (.inl ⟨_,zq ht,rfl⟩),?_,fun c hc=>?_⟩
 ·rw [h6,z0l,h4,z0l,hf,hk rfl,List.take_length];simp
 ·rw [h6,z0m _ _ hc,h4,z0m _ _ hc,hf];exact if_neg hc
theorem z9c (hF:Fau X.D) (h6:X.D.fe ≠ 6) (h:Qt n q A c X) (hA1:A (newf nm)) (hm1:mnB (newf nm)=true) (hm2:mnB (manf nm)=true) (hn:n < 64) (hq:((q + 24:Nat):Int) <= c) (hr:manO nm m k X e Y):FR X e Y:=by
 rcases zh hr with ⟨-,h1⟩ | ⟨Z1,h1,hr⟩
 ·exact (zdd hF h6 hm1 h1).1
 obtain ⟨f1,d1⟩:=zdd hF h6 hm1 h1;have q1:=z9t h h1;rcases zh hr with ⟨-,h1⟩ | ⟨Z2,h1,hr⟩
 ·exact f1.trans (z6j f1.fau q1 hA1 hm1 (d1 rfl) hn (by rw [z2d];exact hq) h1)
 have f2:=f1.trans (z6j f1.fau q1 hA1 hm1 (d1 rfl) hn (by rw [z2d];exact hq) h1);obtain ⟨-,b,d2,-⟩:=z7s h1;rcases zh hr with ⟨-,h1⟩ | ⟨Z3,h1,hr⟩
 ·exact f2.trans (z6k f2.fau h1)
 have f3:=f2.trans (z6k f2.fau h1);have d3:Z3.dir (newf nm)=some b:=by
  obtain ⟨-,⟨g,-⟩ | ⟨-,g,-⟩⟩:=z0h h1
  ·exact absurd rfl g
  ·
   have:Z3.dir=Z2.dir:=by unfold Ds.dir;rw [g]
   rw [this,d2];exact if_pos rfl
 rcases zh hr with ⟨-,h1⟩ | ⟨Z4,h1,hr⟩
 ·exact f3.trans (zg9 f3.fau hm1 hm2 d3 h1)
 have f4:=f3.trans (zg9 f3.fau hm1 hm2 d3 h1);exact f4.trans (z6k f4.fau (z07 hr))
theorem man_ok (hw:Wf X) (hr:manO nm m k X 0 Y):Wf Y /\ ∃ b,(∀ t c,t ≠ newf nm -> X.dir t=some c -> c ≠ b) /\ Y.dir=manD nm X.dir b /\ Y.fc b=⟨recd (mrec m k),(recd (mrec m k)).length⟩ /\ (∀ c,c ≠ b -> Y.fc c=X.fc c) /\ (∀ f,Rch Y f -> f=Y.dir) /\ Y.D.steps=[] /\ Y.D.lasting=Y.D.files:=by
 rcases zh hr with ⟨h0,-⟩ | ⟨Z1,h1,hr⟩
 ·exact absurd rfl h0
 obtain ⟨f1,d1⟩:=z58 h1;have d1:=zbg d1;rcases zh hr with ⟨h0,-⟩ | ⟨Z2,h2,hr⟩
 ·exact absurd rfl h0
 obtain ⟨hn,b,d2,hb,f2,f2'⟩:=z7s h2;rcases zh hr with ⟨h0,-⟩ | ⟨Z3,h3,hr⟩
 ·exact absurd rfl h0
 obtain ⟨f3,⟨h0,-⟩ | ⟨-,g1,g2,g3,-⟩⟩:=z0h h3
 ·exact absurd rfl h0
 rcases zh hr with ⟨h0,-⟩ | ⟨Z4,h4,hr⟩
 ·exact absurd rfl h0
 obtain ⟨f4,⟨h0,-⟩ | ⟨-,b',hb4,hd⟩⟩:=z1n h4
 ·exact absurd rfl h0
 have h5:=z07 hr;obtain ⟨f5,⟨h0,-⟩ | ⟨-,k1,k2,k3,-⟩⟩:=z0h h5
 ·exact absurd rfl h0
 have d1':∀ t,t ≠ newf nm -> Z1.dir t=X.dir t:=fun t ht=>by
  rcases d1 with d1 | d1
  ·rw [d1]
  ·rw [d1];exact if_neg ht
 have d3:Z3.dir=Dir.put Z1.dir (newf nm) b:=by rw [<- d2];unfold Ds.dir;rw [g1]
 have eb:b'=b:=Option.some.inj (hb4.symm.trans (by rw [d3];exact if_pos rfl));subst eb;have d5:Y.dir=manD nm X.dir b':=by
  have h6:Y.dir=Dir.put (Dir.del Z3.dir (newf nm)) (manf nm) b':=by unfold Ds.dir;rw [k1,hd.files,z2m,z0q]
  rw [h6,d3];funext t;show (if t=manf nm then some b' else if t=newf nm then none else if t=newf nm then some b' else Z1.dir t)=if t=manf nm then some b' else if t=newf nm then none else X.dir t
  by_cases e1:t=manf nm
  ·rw [if_pos e1,if_pos e1]
  ·
   rw [if_neg e1,if_neg e1];by_cases e2:t=newf nm
   ·rw [if_pos e2,if_pos e2]
   ·rw [if_neg e2,if_neg e2,if_neg e2,d1' t e2]
 refine ⟨(by unfold Wf;rw [k3];intro s hs;cases hs),b',fun t c ht hc=>hb t c (by rw [d1' t ht];exact hc),d5,by rw [f5,f4,f3];exact f2,fun c hc=>by rw [f5,f4,f3,f2' c hc,f1],fun f hf=>?_,k3,by rw [k2,k1]⟩;rw [z3z h5 hf];unfold Ds.dir;rw [k1]
end Go.Log
end
section
namespace Go.Log
open Go.Vfs
variable {nm:ByteArray} {X Y Z:Ds} {e:Int} {s t:ByteArray} {n k m q:Nat} {x:List Nat} {A:ByteArray -> Prop} {g:Sh} {L L':Lg} {c:Int} {P:Sh -> Prop}
theorem qt_app (h:Qt n q A c X) (hA:nx L.name X < mxn -> A (sgf L.name (nx L.name X + 1))) (hr:appR L x X e L' Y):Qt (n + 1) (q + (8 + x.length)) A c Y:=by
 rcases hr with ⟨-,-,-,rfl⟩ | ⟨-,e1,Z,h1,h2⟩
 ·exact h.mono (by omega) (by omega) (fun _ e=>e)
 have q1:=zcc h h1;rw [zv] at q1;rcases h2 with ⟨-,-,-,rfl⟩ | ⟨-,-,-,-,rfl⟩ | ⟨-,-,h2,-⟩
 ·exact q1.mono (by omega) (Nat.le_refl _) (fun _ e=>e)
 ·exact q1.mono (by omega) (Nat.le_refl _) (fun _ e=>e)
 rcases zh h2 with ⟨-,h3⟩ | ⟨Z1,h3,h2⟩
 ·exact (z2s q1 h3).mono (by omega) (Nat.le_refl _) (fun _ e=>e)
 have q2:=z2s q1 h3;rcases zh h2 with ⟨-,-,h4⟩ | ⟨Z2,⟨h4,h4'⟩,h2'⟩
 ·subst h4;exact q2.mono (by omega) (Nat.le_refl _) (fun _ e=>e)
 clear h2;subst h4';have nz:nx L.name Z=nx L.name X:=z5l (z0n h1).1;have hlt:nx L.name X < mxn:=by
  rw [<- nz];have h4:(0:Int)=nxE L.name Z:=h4;unfold nxE at h4;split at h4
  ·cases h4
  ·omega
 have ha:=hA hlt;rw [<- nz] at ha;rcases zh h2' with ⟨-,h5⟩ | ⟨Z3,h5,h2⟩
 ·exact z2r q2 ha h5
 ·exact z6y (z2r q2 ha h5) (z07 h2)
theorem qt_syn (h:Qt n q A c X) (hr:synR L X e L' Y):Qt n q A c Y:=by
 rcases hr with ⟨-,-,-,rfl⟩ | ⟨-,h1,-⟩
 ·exact h
 ·exact z2s h h1
theorem zfk (h:Qt n q A c X) {l:List ByteArray} (hr:askO (l.map rmO) X e Y):Qt n q A c Y:=by
 induction l generalizing X with
 | nil=>obtain ⟨-,rfl⟩:=hr;exact h
 | cons t l ih =>
  rcases zh (o:=rmO t) (l:=l.map rmO) hr with ⟨-,h1⟩ | ⟨Z,h1,h2⟩
  ·exact zcd h h1
  ·exact ih (zcd h h1) h2
structure TN (nm:ByteArray) (A:ByteArray -> Prop) (k:Nat):Prop where
 new:A (newf nm)
 man:A (manf nm)
 snap:A (snf nm (k + 1))
 seg:A (sgf nm (k + 2))
theorem zhy (h:Qt n q A c X) (hA:nx L.name X + 1 < mxn -> TN L.name A (nx L.name X)) (hr:turnR L x X e L' Y):Qt (n + 3) (q + (8 + x.length) + 24) A c Y:=by
 rcases hr with ⟨-,-,-,rfl⟩ | ⟨-,h1,-⟩
 ·exact h.mono (by omega) (by omega) (fun _ e=>e)
 rcases zh h1 with ⟨-,h2⟩ | ⟨Z1,h2,h1⟩
 ·exact (z2s h h2).mono (by omega) (by omega) (fun _ e=>e)
 have q1:=z2s h h2;rcases zh h1 with ⟨-,-,h3⟩ | ⟨Z2,⟨h3,h3'⟩,h1'⟩
 ·subst h3;exact q1.mono (by omega) (by omega) (fun _ e=>e)
 clear h1;subst h3'
 have ha:=hA (by
  have h3:(0:Int)=turnE L.name X:=h3;unfold turnE at h3;split at h3
  ·cases h3
  ·omega)
 rcases zh h1' with ⟨-,h4⟩ | ⟨Z3,h4,h1⟩
 ·exact (z55 q1 ha.snap h4).mono (by omega) (by omega) (fun _ e=>e)
 have q3:=z55 q1 ha.snap h4;rcases zh h1 with ⟨-,h5⟩ | ⟨Z4,h5,h1⟩
 ·exact (z2r q3 ha.seg h5).mono (by omega) (by omega) (fun _ e=>e)
 have q4:=z2r q3 ha.seg h5;rcases zh h1 with ⟨-,h6⟩ | ⟨Z5,h6,h1⟩
 ·exact z6x q4 ha.new ha.man h6
 have q5:=z6x q4 ha.new ha.man h6;obtain ⟨ns,-,hw⟩:=z07 h1;exact zfk q5 hw
theorem zg8 {f:Int} (hF:Fau X.D) (hf:f=0) (hr:erO f X e Y):FR X e Y:=by
 obtain ⟨rfl,rfl⟩:=hr;subst hf;exact FR.refl hF
theorem fr_app (hn:mnB nm=true) (h16:nm.size <= 16) (h:LI nm L X g) (hx:Recs [x]) (hF:Fau X.D) (hq:Qt n q A c X) (hn64:n < 64) (hc:((q + (8 + x.length):Nat):Int) <= c) (hnx:nx nm X < mxn) (hr:appR L x X e L' Y):FR X e Y:=by
 have hxl:x.length <= mxr:=(hx x (by simp)).1;rcases hr with ⟨h0,-⟩ | ⟨-,e1,Z,h1,h2⟩
 ·exact absurd (h.may hxl) h0
 have hmm:=h.shape.m1;have hmg:mnB (sgf nm g.m)=true:=z0u hn h16 hmm.2;rw [h.atseg] at h1;have f1:=zc1 hF hmg h.shape.lastAt (by rw [zv,hq.cap];have:=hq.bd.nt;omega) h1;rcases h2 with ⟨h0,rfl,-,rfl⟩ | ⟨rfl,-,rfl,-,rfl⟩ | ⟨rfl,-,h2,-⟩
 ·exact f1
 ·exact f1
 have s1:=(z0n h1).1;have d1:Z.dir (sgf nm g.m)=some g.b:=by rw [s1.dir];exact h.shape.lastAt
 have e1:Lg.seg { L with recs:=L.recs ++ [x],size:=L.size + (8 + x.length) }=sgf nm g.m:=h.atseg;have e2:({ L with recs:=L.recs ++ [x],size:=L.size + (8 + x.length) }:Lg).name=nm:=h.name;rw [e1,e2] at h2;rcases zh h2 with ⟨-,h3⟩ | ⟨Z1,h3,h2⟩
 ·exact f1.trans (z3g f1.fau hmg d1 h3)
 have f2:=f1.trans (z3g f1.fau hmg d1 h3);have s2:=(z0e h3).1;have n1:nx nm Z=nx nm X:=z5l s1;have n2:nx nm Z1=nx nm X:=(z5l s2).trans n1;have hE:nxE nm Z=0:=by unfold nxE;rw [if_neg (by omega)]
 rcases zh h2 with ⟨-,h4⟩ | ⟨Z2,h4,h2'⟩
 ·exact f2.trans (zg8 f2.fau hE h4)
 clear h2;obtain ⟨-,rfl⟩:=h4;have hno:=z4e (nm:=nm) (X:=Z2) (k:=nx nm Z + 1) (by omega) (by omega);have hlen:Z2.D.files.length < 64:=by rw [s2.files,s1.files];have:=hq.bd.nf;omega
 have hmk:mnB (sgf nm (nx nm Z + 1))=true:=z0u hn h16 (by omega);rcases zh h2' with ⟨-,h5⟩ | ⟨Z3,h5,h2⟩
 ·exact f2.trans (z49 f2.fau hmk hno.1 hlen h5)
 have f3:=f2.trans (z49 f2.fau hmk hno.1 hlen h5);exact f3.trans (z6k f3.fau (z07 h2))
theorem fr_syn (hn:mnB nm=true) (h16:nm.size <= 16) (h:LI nm L X g) (hF:Fau X.D) (hr:synR L X e L' Y):FR X e Y:=by
 rcases hr with ⟨h0,-⟩ | ⟨-,h1,-⟩
 ·exact absurd (h.may (Nat.zero_le _)) h0
 ·rw [h.atseg] at h1;exact z3g hF (z0u hn h16 h.shape.m1.2) h.shape.lastAt h1
theorem zf2 (hm:∀ t b,X.dir t=some b -> mnB t=true) (hF:Fau X.D) {l:List ByteArray} (hl:∀ t ∈ l,∃ b,X.dir t=some b) (hnd:l.Nodup) (hr:askO (l.map rmO) X e Y):FR X e Y:=by
 induction l generalizing X with
 | nil=>obtain ⟨rfl,rfl⟩:=hr;exact FR.refl hF
 | cons t l ih =>
  obtain ⟨b,hb⟩:=hl t (by simp);rw [List.nodup_cons] at hnd;rcases zh (o:=rmO t) (l:=l.map rmO) hr with ⟨-,h1⟩ | ⟨Z,h1,h2⟩
  ·exact zc2 hF (hm t b hb) hb h1
  ·
   have f1:=zc2 hF (hm t b hb) hb h1;obtain ⟨-,⟨g,-⟩ | ⟨-,b',-,hd⟩⟩:=z1j h1
   ·exact absurd rfl g
   have dz:Z.dir=Dir.del X.dir t:=by unfold Ds.dir;rw [hd.files,z0q]
   refine f1.trans (ih (fun u c hc=>?_) f1.fau (fun u hu=>?_) hnd.2 h2)
   ·
    rw [dz] at hc;unfold Dir.del at hc;split at hc
    ·cases hc
    ·exact hm u c hc
   ·obtain ⟨c,hc⟩:=hl u (by simp [hu]);exact ⟨c,by rw [dz];exact (if_neg fun e:u=t=>hnd.1 (e ▸ hu)).trans hc⟩
theorem zh1 (hn:mnB nm=true) (h16:nm.size <= 16) (h:LI nm L X g) (hx:Recs [x]) (hF:Fau X.D) (h6:X.D.fe ≠ 6) (hmn:∀ t,A t -> mnB t=true) (hA:TN nm A (nx nm X)) (hq:Qt n q A c X) (hn64:n + 2 < 64) (hc:((q + (8 + x.length) + 24:Nat):Int) <= c) (hnx:nx nm X + 1 < mxn) (hr:turnR L x X e L' Y):FR X e Y:=by
 have hxl:x.length <= mxr:=(hx x (by simp)).1;rcases hr with ⟨h0,-⟩ | ⟨-,h1,-⟩
 ·exact absurd (h.may hxl) h0
 rw [h.atseg] at h1;obtain rfl:nm=L.name:=h.name.symm;have f6:∀ {Z},FR X 0 Z -> Z.D.fe ≠ 6:=fun h=>h.fe.elim (fun e=>e ▸ h6) (fun e=>by rw [e];decide);rcases zh h1 with ⟨-,h2⟩ | ⟨Z1,h2,h1⟩
 ·exact z3g hF (z0u hn h16 h.shape.m1.2) h.shape.lastAt h2
 have f1:=z3g hF (z0u hn h16 h.shape.m1.2) h.shape.lastAt h2;have q1:=z2s hq h2;have n1:nx L.name Z1=nx L.name X:=z5l (z0e h2).1;have hE:turnE L.name X=0:=by unfold turnE;rw [if_neg (by omega)]
 rcases zh h1 with ⟨-,h3⟩ | ⟨Z2,h3,h1'⟩
 ·exact f1.trans (zg8 f1.fau hE h3)
 clear h1;obtain ⟨-,rfl⟩:=h3;have hms:mnB (snf L.name (nx L.name X + 1))=true:=z5k hn h16 (by omega);have hno:=z4e (nm:=L.name) (X:=Z2) (k:=nx L.name X + 1) (by omega) (by omega);rcases zh h1' with ⟨-,h4⟩ | ⟨Z3,h4,h1⟩
 ·exact f1.trans (z6j f1.fau q1 hA.snap hms hno.2 (by omega) (by omega) h4)
 have f3:=f1.trans (z6j f1.fau q1 hA.snap hms hno.2 (by omega) (by omega) h4);have q3:=z55 q1 hA.snap h4;obtain ⟨-,b1,d3,-⟩:=z7s h4;have hno3:Z3.dir (sgf L.name (nx L.name X + 2))=none:=by
  rw [d3];show (if _=_ then _ else Z2.dir _)=_;rw [if_neg (z2x L.name (by omega) (by omega))];exact (z4e (nm:=L.name) (by omega) (by omega)).1
 have hmg:mnB (sgf L.name (nx L.name X + 2))=true:=z0u hn h16 (by omega);have hl3:Z3.D.files.length < 64:=by have:=q3.bd.nf;omega
 rcases zh h1 with ⟨-,h5⟩ | ⟨Z4,h5,h1⟩
 ·exact f3.trans (z49 f3.fau hmg hno3 hl3 h5)
 have f4:=f3.trans (z49 f3.fau hmg hno3 hl3 h5);have q4:=z2r q3 hA.seg h5;rcases zh h1 with ⟨-,h6'⟩ | ⟨Z5,h6',h1⟩
 ·exact f4.trans (z9c f4.fau (f6 f4) q4 hA.new (z5j hn h16) (z2y hn h16) (by omega) (by omega) h6')
 have f5:=f4.trans (z9c f4.fau (f6 f4) q4 hA.new (z5j hn h16) (z2y hn h16) (by omega) (by omega) h6');have q5:=z6x q4 hA.new hA.man h6';obtain ⟨ns,hp,hw⟩:=z07 h1;refine f5.trans (zf2 (fun t b hb=>hmn t (q5.al t b hb)) f5.fau (fun t ht=>?_) ?_ hw)
 ·have h7:=hp.mem_iff.1 (List.mem_filter.1 ht).1;exact z1h h7
 ·exact (hp.nodup_iff.2 q5.bd.key).sublist List.filter_sublist
theorem zau (hn:mnB nm=true) (h16:nm.size <= 16) (hF:Fau X.D) {b en m k:Nat} (hmm:m <= mxn) (hd:X.dir (sgf nm m)=some b) (hl:(X.fc b).b.length=k) (hen:en <= k) (hr:askO [if k=en then nop else cuO (sgf nm m) en,syO (sgf nm m),sdO] X e Y):FR X e Y:=by
 have hmg:mnB (sgf nm m)=true:=z0u hn h16 hmm;have cutF:∀ {e Z},(if k=en then nop else cuO (sgf nm m) en) X e Z -> FR X e Z /\ Sm X Z:=fun {e Z} hc=>by
  by_cases he:k=en
  ·rw [if_pos he] at hc;obtain ⟨rfl,rfl⟩:=hc;exact ⟨FR.refl hF,Sm.refl _⟩
  ·rw [if_neg he] at hc;exact ⟨fr_cu hF hmg hd (by omega) hc,(z2a hc).1⟩
 rcases zh hr with ⟨-,h1⟩ | ⟨Z1,h1,hr⟩
 ·exact (cutF h1).1
 obtain ⟨f1,s1⟩:=cutF h1;have d1:Z1.dir (sgf nm m)=some b:=by rw [s1.dir];exact hd
 rcases zh hr with ⟨-,h2⟩ | ⟨Z2,h2,hr⟩
 ·exact f1.trans (z3g f1.fau hmg d1 h2)
 have f2:=f1.trans (z3g f1.fau hmg d1 h2);exact f2.trans (z6k f2.fau (z07 hr))
theorem zhx {en m k:Nat} (h:Qt n q A c X) (hr:askO [if k=en then nop else cuO (sgf nm m) en,syO (sgf nm m),sdO] X e Y):Qt n q A c Y:=by
 have cutF:∀ {e Z},(if k=en then nop else cuO (sgf nm m) en) X e Z -> Qt n q A c Z:=fun {e Z} hc=>by
  by_cases he:k=en
  ·rw [if_pos he] at hc;obtain ⟨rfl,rfl⟩:=hc;exact h
  ·rw [if_neg he] at hc;exact qt_cu h hc
 rcases zh hr with ⟨-,h1⟩ | ⟨Z1,h1,hr⟩
 ·exact cutF h1
 have q1:=cutF h1;rcases zh hr with ⟨-,h2⟩ | ⟨Z2,h2,hr⟩
 ·exact z2s q1 h2
 exact z6y (z2s q1 h2) (z07 hr)
theorem zca {most:Nat} (hn:mnB nm=true) (h16:nm.size <= 16) (hw:Wf X) (hF:Fau X.D) (hfe:X.D.fe=0) (hq:Qt n q A c X) (hn64:n + 1 < 64) (hc:((q + 24:Nat):Int) <= c) (h0:X.dir (manf nm)=none) (hnx:nx nm X=0) (hA1:A (sgf nm 1)) (hA2:A (newf nm)) (hA3:A (manf nm)) (hr:openR nm most X e L Y) :
  e=0 /\ Fau Y.D /\ Y.D.fe=0 /\ Qt (n + 2) (q + 24) A c Y /\ Y.D.steps=[] /\ Y.D.lasting=Y.D.files /\ L={ lg0 nm most with first:=1,segment:=1,segments:=1 } /\ ∃ g,LI nm L Y g /\ g.sn=none /\ (∀ t,t=manf nm \/ t=sgf nm 1 \/ (t ≠ newf nm /\ ∃ b,X.dir t=some b) ↔ ∃ b,Y.dir t=some b):=by
 rcases hr with ⟨-,hr,hL⟩ | ⟨b,h1,-⟩ | ⟨b,_,_,_,h1,-⟩
 ·
  rw [hnx] at hr hL;have hE:nxE nm X=0:=by unfold nxE;rw [hnx];rfl
  have hmg:mnB (sgf nm 1)=true:=z0u hn h16 (by decide);have hno:=z4e (nm:=nm) (X:=X) (k:=1) (by omega) (by decide);have hl:X.D.files.length < 64:=by have:=hq.bd.nf;omega
  rcases zh hr with ⟨g,h1⟩ | ⟨Z1,h1,hr'⟩
  ·obtain ⟨g1,-⟩:=h1;exact absurd (g1.trans hE) g
  clear hr;obtain ⟨-,rfl⟩:=h1;have mkF:∀ {e Z},mkO (sgf nm 1) Z1 e Z -> FR Z1 e Z:=fun h=>z49 hF hmg hno.1 hl h;rcases zh hr' with ⟨g,h2⟩ | ⟨Z2,h2,hr⟩
  ·exact absurd ((mkF h2).calm hfe).1 g
  have f2:=mkF h2;have q2:=z2r hq hA1 h2;rcases z0g h2 with ⟨h3,-⟩ | ⟨-,-,-,b,hb,hd,hf⟩
  ·exact absurd rfl h3
  have h3:=z07 hr;have f3:=f2.trans (z9c f2.fau (by rw [(f2.calm hfe).2];decide) q2 hA2 (z5j hn h16) (z2y hn h16) (by omega) (by omega) h3);have q3:=z6x q2 hA2 hA3 h3;obtain ⟨rfl,hfe3⟩:=f3.calm hfe;have w2:Wf Z2:=hd.wf hw fun _=>⟨b,rfl⟩
  obtain ⟨w3,b3,hb3,d3,c3,c3',r3,s3,l3⟩:=man_ok w2 h3;have d2:Z2.dir=Dir.put Z1.dir (sgf nm 1) b:=by unfold Ds.dir;rw [hd.files,z0j hno.1]
  have hsm:=z2v nm (n:=1) (by omega) (by decide);have hsn:=z2w nm (n:=1) (by omega) (by decide);have d2s:Z2.dir (sgf nm 1)=some b:=by rw [d2];exact if_pos rfl
  have ebb:b ≠ b3:=hb3 _ _ hsn d2s;have cb:Y.fc b=⟨[],0⟩:=by rw [c3' b ebb,hf];exact if_pos rfl
  have at':∀ t,t ≠ manf nm -> t ≠ newf nm -> Y.dir t=Z2.dir t:=fun t h7 h8=>by rw [d3];unfold manD;rw [if_neg h7,if_neg h8]
  refine ⟨rfl,f3.fau,hfe3,q3.mono (by omega) (Nat.le_refl _) (fun _ e=>e),s3,l3,hL,⟨0,1,none,b3,0,[],1,b,[],0,0⟩,?_,rfl,fun t=>?_⟩
  ·
   have sh:Shape nm Y.dir Y.fc ⟨0,1,none,b3,0,[],1,b,[],0,0⟩:=by
    refine { f1:=Nat.le_refl _,s1:=Nat.zero_le _,man:=by rw [d3];exact if_pos rfl,manc:=c3,snap:=.inl ⟨rfl,rfl⟩,asc:=List.pairwise_singleton _ _,rng:=?_,segs:=?_,clc:=(fun c hc=>by cases hc),lastb:=?_,lastq:=Nat.zero_le _,lastl:=?_,lastd:=Nat.zero_le _,lastr:=(fun x hx=>by cases hx),apart:=⟨ebb,fun h=>by have h:1 <= 0:=h;omega,fun c hc=>by cases hc⟩ }
    ·intro p hp;rw [List.mem_singleton.1 (show p ∈ [(1,b)] from hp)];exact ⟨Nat.le_refl _,show 1 <= mxn by decide⟩
    ·
     intro k k1 k2;have k1':1 <= k:=k1;show Y.dir (sgf nm k)=([(1,b)].find? fun p=>decide (p.1=k)).map Prod.snd;rw [at' _ (z2v nm k1' k2) (z2w nm k1' k2),d2];show (if sgf nm k=sgf nm 1 then some b else Z1.dir (sgf nm k))=_;by_cases ek:k=1
     ·subst ek;rw [if_pos rfl];simp
     ·rw [if_neg (fun e=>ek (z5q nm k1' k2 (by omega) (by decide) e)),(z4e (nm:=nm) (X:=Z1) (k:=k) (by omega) k2).1,z8a];intro p hp;rw [List.mem_singleton.1 hp];exact fun e=>ek e.symm
    ·show (Y.fc b).b=_;rw [cb];rfl
    ·show _ <= (Y.fc b).lasts /\ (Y.fc b).lasts <= _;rw [cb];exact ⟨Nat.le_refl _,Nat.le_refl _⟩
   subst hL;exact { inn:=⟨w3,fun f hf=>⟨_,rfl,by rw [r3 f hf];exact sh⟩⟩,full:=rfl,name:=rfl,nob:=rfl,first:=rfl,seg:=rfl,segs:=rfl,size:=rfl,recs:=rfl,syn:=Nat.le_refl _,snap:=.inl ⟨rfl,rfl,rfl⟩ }
  ·
   rw [d3,d2];unfold manD Dir.put;by_cases e1:t=manf nm
   ·simp [e1]
   ·
    rw [if_neg e1];by_cases e2:t=newf nm
    ·
     rw [if_pos e2];constructor
     ·
      rintro (h | h | h)
      ·exact absurd h e1
      ·exact absurd (h.symm.trans e2) hsn
      ·exact absurd e2 h.1
     ·rintro ⟨_,h⟩;cases h
    ·
     rw [if_neg e2];by_cases e3:t=sgf nm 1
     ·rw [if_pos e3];exact ⟨fun _=>⟨b,rfl⟩,fun _=>.inr (.inl e3)⟩
     ·rw [if_neg e3];exact ⟨fun h=>h.elim (fun h=>absurd h e1) fun h=>h.elim (fun h=>absurd h e3) fun h=>h.2,fun h=>.inr (.inr ⟨e2,h⟩)⟩
 ·rw [show flook X.D.files (manf nm)=none from h0] at h1;cases h1
 ·rw [show flook X.D.files (manf nm)=none from h0] at h1;cases h1
end Go.Log
end
section
namespace Go.Log
open Go.Vfs
variable {nm:ByteArray} {X Y Z:Ds} {e:Int} {s t:ByteArray} {n k m q K:Nat} {x:List Nat} {g:Sh} {L L':Lg} {c:Int} {P:Sh -> Prop}
def AN (nm:ByteArray) (K:Nat) (t:ByteArray):Prop:=mnB t=true /\ sgn nm t <= K /\ snn nm t <= K
theorem AN.mono {K K':Nat} (h:K <= K'):AN nm K t -> AN nm K' t:=fun ⟨a,b,c⟩=>⟨a,by omega,by omega⟩
theorem nxL_le {l:List ByteArray} (h:∀ s ∈ l,sgn nm s <= K /\ snn nm s <= K):nxL nm l <= K:=by
 induction l with
 | nil=>exact Nat.zero_le _
 | cons a l ih =>
  show max (max (sgn nm a) (snn nm a)) (nxL nm l) <= K;have h1:=h a (by simp);have h2:=ih fun s hs=>h s (by simp [hs]);omega
theorem zc8 (h:AllN (AN nm K) X):nx nm X <= K:=nxL_le fun s hs=>by
 obtain ⟨b,hb⟩:=z1h hs;exact ⟨(h s b hb).2.1,(h s b hb).2.2⟩
variable (hn:mnB nm=true) (h16:nm.size <= 16)
include hn h16
theorem z90 {k:Nat} (h1:1 <= k) (h2:k <= mxn) (hK:k <= K):AN nm K (sgf nm k):=⟨z0u hn h16 h2,by rw [z1l nm h1 h2];exact hK,by rw [zif];exact Nat.zero_le _⟩
theorem zgi {k:Nat} (h1:1 <= k) (h2:k <= mxn) (hK:k <= K):AN nm K (snf nm k):=⟨z5k hn h16 h2,by rw [zbk];exact Nat.zero_le _,by rw [z30 nm h1 h2];exact hK⟩
theorem zcu:AN nm K (newf nm):=⟨z5j hn h16,by rw [zbj];exact Nat.zero_le _,by rw [zbm];exact Nat.zero_le _⟩
theorem zct:AN nm K (manf nm):=⟨z2y hn h16,by rw [zbi];exact Nat.zero_le _,by rw [zbl];exact Nat.zero_le _⟩
omit hn h16
structure GS (nm:ByteArray) (L:Lg) (X:Ds) (g:Sh) (n q K:Nat) (c:Int):Prop where
 li:LI nm L X g
 fau:Fau X.D
 fe:X.D.fe ≠ 6
 qt:Qt n q (AN nm K) c X
structure GB (nm:ByteArray) (X:Ds) (P:Sh -> Prop) (n q K:Nat) (c:Int):Prop where
 inn:In nm X P
 fau:Fau X.D
 fe:X.D.fe=0
 qt:Qt n q (AN nm K) c X
theorem FR.fe6 (h:FR X e Y) (h6:X.D.fe ≠ 6):Y.D.fe ≠ 6:=h.fe.elim (fun e=>e ▸ h6) (fun e=>by rw [e];decide)
include hn h16
theorem zdf (h:GS nm L X g n q K c) (hx:Recs [x]) (h64:n < 64) (hc:((q + (8 + x.length):Nat):Int) <= c) (hK:K < mxn) (hr:appR L x X e L' Y) :
  (X.D.fe=0 -> e=0 /\ Y.D.fe=0) /\ ((e=0 /\ L'.bad=false /\ L'.recs=L.recs ++ [x] /\ L.segment <= L'.segment /\ ∃ g',GS nm L' Y g' (n + 1) (q + (8 + x.length)) (K + 1) c /\ g'.sn=g.sn /\ g.closed.length + g.du <= g'.closed.length + g'.du) \/
   (e ≠ 0 /\ L'.bad=true /\ L'.synced=L.synced /\ L'.segment=L.segment /\ GB nm Y (Left g (L.recs ++ [x])) (n + 1) (q + (8 + x.length)) (K + 1) c)):=by
 have hnx:=zc8 h.qt.al;have hL:=h.li.name;have qy:Qt (n + 1) (q + (8 + x.length)) (AN nm (K + 1)) c Y:=qt_app (h.qt.mono (Nat.le_refl _) (Nat.le_refl _) (fun _=>AN.mono (by omega))) (fun _=>by rw [hL];exact z90 hn h16 (by omega) (by omega) (by omega)) hr;have f:=fr_app hn h16 h.li hx h.fau h.qt h64 hc (by omega) hr;refine ⟨f.calm,?_⟩;rcases z7z h.li hx hr with ⟨h1,h2,h3,h4,g',h5,h6,h7⟩ | ⟨h1,h2,h3,h4,h5⟩
 ·exact .inl ⟨h2,h1,h4,h3,g',⟨h5,f.fau,f.fe6 h.fe,qy⟩,h6,h7⟩
 ·exact .inr ⟨h2,h1,h4,h3,⟨h5,f.fau,f.met h2,qy⟩⟩
theorem zdg (h:GS nm L X g n q K c) (hr:synR L X e L' Y) :
  (X.D.fe=0 -> e=0 /\ Y.D.fe=0) /\ ((e=0 /\ L'={ L with synced:=L.recs.length } /\ GS nm L' Y { g with du:=g.rs.length } n q K c) \/ (e ≠ 0 /\ L'={ L with bad:=true } /\ GB nm Y (·=g) n q K c)):=by
 have qy:=qt_syn h.qt hr;have f:=fr_syn hn h16 h.li h.fau hr;refine ⟨f.calm,?_⟩;rcases z7d h.li hr with ⟨h1,h2,h3⟩ | ⟨h1,h2,h3⟩
 ·exact .inl ⟨h1,h2,⟨h3,f.fau,f.fe6 h.fe,qy⟩⟩
 ·exact .inr ⟨h1,h2,⟨h3,f.fau,f.met h1,qy⟩⟩
theorem zh2 (h:GS nm L X g n q K c) (hx:Recs [x]) (h64:n + 2 < 64) (hc:((q + (8 + x.length) + 24:Nat):Int) <= c) (hK:K + 2 <= mxn) (hK2:K + 1 < mxn) (hr:turnR L x X e L' Y) :
  (X.D.fe=0 -> e=0 /\ Y.D.fe=0) /\ ((e=0 /\ ∃ s n' bm bs b,L'={ L with snap:=x,has:=true,recs:=[],synced:=0,first:=n',segment:=n',segments:=1,size:=0 } /\ L.segment <= n' /\ GS nm L' Y (Sh.new s n' x bm bs b) (n + 3) (q + (8 + x.length) + 24) (K + 2) c) \/
   (e ≠ 0 /\ L'={ L with bad:=true } /\ GB nm Y (fun q=>Left g L.recs q \/ q.sn=some x /\ q.closed=[] /\ q.rs=[]) (n + 3) (q + (8 + x.length) + 24) (K + 2) c)):=by
 have hnx:=zc8 h.qt.al;have hL:=h.li.name;have tn:TN nm (AN nm (K + 2)) (nx nm X):=⟨zcu hn h16,zct hn h16,zgi hn h16 (by omega) (by omega) (by omega),z90 hn h16 (by omega) (by omega) (by omega)⟩
 have q2:Qt n q (AN nm (K + 2)) c X:=h.qt.mono (Nat.le_refl _) (Nat.le_refl _) (fun _=>AN.mono (by omega));have qy:=zhy q2 (fun _=>by rw [hL];exact tn) hr;have f:=zh1 hn h16 h.li hx h.fau h.fe (fun t a=>a.1) tn q2 h64 hc (by omega) hr;refine ⟨f.calm,?_⟩;rcases z7g h.li hx hr with ⟨h1,s,n',bm,bs,b,h2,h3,h4⟩ | ⟨h1,h2,h3⟩
 ·exact .inl ⟨h1,s,n',bm,bs,b,h2,h4,⟨h3,f.fau,f.fe6 h.fe,qy⟩⟩
 ·exact .inr ⟨h1,h2,⟨h3,f.fau,f.met h1,qy⟩⟩
theorem zaw {most:Nat} (hi:In nm X P) (hP:Trims P) (hF:Fau X.D) (h6:X.D.fe ≠ 6) (hq:Qt n q (AN nm K) c X) (hr:openR nm most X e L Y) :
  (X.D.fe=0 -> e=0 /\ Y.D.fe=0) /\ ∃ h j,P h /\ Shape nm X.dir X.fc h /\ h.du <= j /\ j <= h.rs.length /\ (h.q=(enc h.rs).length -> j=h.rs.length) /\ (enc (h.rs.take j)).length <= h.q /\ (e=0 -> GS nm L Y { h.trim j with du:=j } n q K c /\ L.synced=L.recs.length /\ L.most=most):=by
 obtain ⟨h,j,h1,h2,h3,h4,h5,h7,⟨en,e1,e2,e3,e4,e5⟩,h8⟩:=z6s hn h16 hq.bd.key hi hP hr;have f:=zau hn h16 hF h2.m1.2 e4 e1 e3 e5;refine ⟨f.calm,h,j,h1,h2,h3,h4,h5,by rw [<- e2];exact e3,fun e0=>?_⟩;obtain ⟨g1,g2,g3⟩:=h8 e0;exact ⟨⟨g1,f.fau,f.fe6 h6,zhx hq e5⟩,g2,g3⟩
theorem z9e {most:Nat} (hw:Wf X) (hF:Fau X.D) (hfe:X.D.fe=0) (hq:Qt n q (AN nm 0) c X) (hn64:n + 1 < 64) (hc:((q + 24:Nat):Int) <= c) (h0:X.dir (manf nm)=none) (hr:openR nm most X e L Y) :
  e=0 /\ L={ lg0 nm most with first:=1,segment:=1,segments:=1 } /\ Y.D.fe=0 /\ Y.D.steps=[] /\ Y.D.lasting=Y.D.files /\ ∃ g,GS nm L Y g (n + 2) (q + 24) 1 c /\ g.sn=none /\ (∀ t,t=manf nm \/ t=sgf nm 1 \/ (t ≠ newf nm /\ ∃ b,X.dir t=some b) ↔ ∃ b,Y.dir t=some b):=by
 have hnx:=zc8 hq.al;obtain ⟨h1,h2,h3,h4,h5,h6,h7,g,h8,h9,h10⟩:=zca hn h16 hw hF hfe (hq.mono (Nat.le_refl _) (Nat.le_refl _) (fun _=>AN.mono (Nat.zero_le 1))) hn64 hc h0 (by omega) (z90 hn h16 (Nat.le_refl _) (by decide) (Nat.le_refl _)) (zcu hn h16) (zct hn h16) hr;exact ⟨h1,h7,h3,h5,h6,g,⟨h8,h2,by rw [h3];decide,h4⟩,h9,h10⟩
end Go.Log
end
section
namespace Go.Log
open Go.Vfs
open Go.Proofs.YtpjomdmjohjheaaGreatDoor (newD)
variable {nm:ByteArray} {X Y Z:Ds} {e:Int} {s t:ByteArray} {n k m q K:Nat} {x:List Nat} {g:Sh} {L L':Lg} {c:Int} {P:Sh -> Prop}
def sa:ByteArray:=⟨#[97]⟩
theorem z1y:mnB sa=true:=by decide
theorem z1x:sa.size <= 16:=by decide
theorem z4t {zs:List Int} {F:List (ByteArray × Nat)} {fc:Nat -> Fl} {j:Nat}:∀ {l:List ByteArray},(∀ s ∈ l,∀ b,flook F s=some b -> (fc b).b.length <= (fc b).lasts) -> l.foldl (tr1 zs F) (fc,j)=(fc,j)
 | [],_=>rfl
 | s :: l,h=>by
  rw [List.foldl_cons];have:tr1 zs F (fc,j) s=(fc,j):=by
   unfold tr1;cases hs:flook F s with
   | none=>rfl
   | some b=>simp only;rw [if_neg (by have:=h s (by simp) b hs;omega)]
  rw [this];exact z4t fun s' h'=>h s' (by simp [h'])
theorem zf0 {zs:List Int} {F:List (ByteArray × Nat)} {fc:Nat -> Fl} {t:ByteArray} {b0:Nat} {l:List ByteArray} (hl:l.Nodup) (ht:t ∈ l) (hb:flook F t=some b0) (hlo:(fc b0).lasts < (fc b0).b.length) (hf:∀ s ∈ l,s ≠ t -> ∀ b,flook F s=some b -> b ≠ b0 /\ (fc b).b.length <= (fc b).lasts) :
  (l.foldl (tr1 zs F) (fc,0)).1 b0=⟨(fc b0).b.take ((fc b0).lasts + pkn zs 0 % ((fc b0).b.length - (fc b0).lasts + 1)),(fc b0).lasts + pkn zs 0 % ((fc b0).b.length - (fc b0).lasts + 1)⟩:=by
 obtain ⟨a,d,rfl⟩:=List.append_of_mem ht;rw [List.nodup_append] at hl;obtain ⟨h1,h2,h3⟩:=hl;rw [List.nodup_cons] at h2;rw [List.foldl_append,z4t fun s hs b hsb=>(hf s (by simp [hs]) (h3 s hs t (by simp)) b hsb).2,List.foldl_cons,z6c hb,if_pos hlo];have key:∀ s ∈ d,∀ b,flook F s=some b -> (setf fc b0 ⟨(fc b0).b.take ((fc b0).lasts + pkn zs 0 % ((fc b0).b.length - (fc b0).lasts + 1)),(fc b0).lasts + pkn zs 0 % ((fc b0).b.length - (fc b0).lasts + 1)⟩ b).b.length <= (setf fc b0 ⟨(fc b0).b.take ((fc b0).lasts + pkn zs 0 % ((fc b0).b.length - (fc b0).lasts + 1)),(fc b0).lasts + pkn zs 0 % ((fc b0).b.length - (fc b0).lasts + 1)⟩ b).lasts:=fun s hs b hsb=>by
  have hne:s ≠ t:=fun e=>h2.1 (e ▸ hs);obtain ⟨h4,h5⟩:=hf s (by simp [hs]) hne b hsb;rw [z0m _ _ h4];exact h5
 rw [z4t key];exact z0l _ _ _
theorem zf7 {D':Dk} {fc':Nat -> Fl} {φ:Nat -> Option Nat} {l2:List (ByteArray × Nat)} {bs:List Bool} (h:In sa X (·=g)) (hst:X.D.steps=[]) (hla:X.D.lasting=X.D.files) (hk:(X.D.files.map Prod.fst).Nodup) (hnm:∀ t b,X.dir t=some b -> t=manf sa \/ t=sgf sa 1)
  (hm:g.m=1) (hr:g.rs=[[120],[121]]) (hq:g.q=18) (hlast:(X.fc g.b).lasts=9) (hc:CrashR [3] X.D X.fc D' fc' φ l2 bs) :
  ∃ v,In sa ⟨D',fc'⟩ (·=Sh.move g v 12):=by
 have hlk:(X.D.lasting.map Prod.fst).Nodup:=by rw [hla];exact hk
 obtain ⟨f,g',v,n,hRf,rfl,hsh,hin,hdir⟩:=z5v h hlk hc;have hfd:f=X.dir:=by
  obtain ⟨bs',rfl⟩:=hRf;rw [hst,z8w,hla];rfl
 subst hfd;obtain ⟨q',rfl,hs'⟩:=hin.live;have h1:=hs'.lastAt;have h2:=hs'.lastb;have hlq:g'.q=(X.fc g'.b).b.length:=by rw [hsh.lastb,List.length_take];have:=hsh.lastq;omega
 have hn18:n <= 18:=by
  have h3:n <= (enc g'.rs).length:=hs'.lastq;have h4:=hsh.lastq;have:(enc [[120],[121]]).length=18:=by simp [enc,zv]
  rw [hr] at h3;omega
 obtain ⟨nms,fc1,hp,hf1,hfc⟩:=hc.tr;rw [hst] at hfc;have hDf:D'.files.map Prod.fst=l2.map Prod.fst:=by
  rw [hc.eq];show ((replay bs X.D.steps l2).map (mv φ)).map Prod.fst=_;rw [hst,show replay bs [] l2=l2 by cases bs <;> rfl,List.map_map];rfl
 have hnd:nms.Nodup:=by
  refine hp.nodup_iff.2 ?_;rw [hDf];exact ((hc.p2.map Prod.fst).nodup_iff).2 hlk
 have hd1:flook D'.files (sgf sa 1)=some (v g'.b):=by rw [<- hm];exact h1
 have hmem:sgf sa 1 ∈ nms:=by
  refine hp.mem_iff.2 (List.mem_map.2 ⟨_,zq hd1,rfl⟩)
 have hv:∀ t b,X.dir t=some b -> fc1 (v b)=X.fc b:=fun t b hb=>by
  have hb2:(t,b) ∈ l2:=hc.p2.mem_iff.2 (by rw [hla];exact zq hb);have hR:Ref X.D b:=.inl ⟨_,zq hb,rfl⟩;obtain ⟨b',hb'⟩:=Option.ne_none_iff_exists'.1 (hc.all b hR);have h5:flook D'.files t=some ((φ b).getD 0):=by
   rw [hc.eq];show flook ((replay bs X.D.steps l2).map (mv φ)) t=_;rw [hst,show replay bs [] l2=l2 by cases bs <;> rfl,z4r,z6i hlk hc.p2,hla,show flook X.D.files t=some b from hb];rfl
  have h6:=hdir t;rw [show (⟨D',fc'⟩:Ds).dir t=flook D'.files t from rfl,h5,hb] at h6;have h7:v b=b':=by
   have:=Option.some.inj h6;rw [hb'] at this;exact this.symm
  rw [h7];exact hf1 b b' hb'
 have hcon:fc1 (v g'.b)=X.fc g'.b:=hv _ _ hsh.lastAt
 have hone:=zf0 (zs:=[3]) (F:=D'.files) (fc:=fc1) (t:=sgf sa 1) (b0:=v g'.b) hnd hmem hd1 (by rw [hcon,hlast,<- hlq,hq];decide) (fun s hs hne b hb=>by
  have h6:=hdir s;rw [show (⟨D',fc'⟩:Ds).dir s=flook D'.files s from rfl,hb] at h6;cases hx:X.dir s with
  | none=>rw [hx] at h6;cases h6
  | some b1 =>
   rw [hx] at h6;have e1:b=v b1:=by simpa using h6
   have e2:s=manf sa:=(hnm s b1 hx).resolve_right hne;have e3:b1=g'.bm:=by rw [e2,hsh.man] at hx;exact (Option.some.inj hx).symm
   have e4:(⟨D',fc'⟩:Ds).dir (manf sa)=some (v g'.bm):=hs'.man;refine ⟨?_,?_⟩
   ·rw [e1,e3];exact (hs'.apart.1).symm
   ·rw [e1,hv s b1 hx,e3,hsh.manc];exact Nat.le_refl _)
 have hz:(List.length ([]:List Stp))=0:=rfl;rw [hz] at hfc;rw [<- hfc,hcon,hlast,<- hlq,hq] at hone;have hfcb:(fc' (v g'.b)).b=(X.fc g'.b).b.take 12:=by rw [hone];rfl
 have hn12:n=12:=by
  have h3:(fc' (v g'.b)).b=(enc g'.rs).take n:=h2;have h4:=congrArg List.length (hfcb.symm.trans h3);rw [List.length_take,List.length_take,<- hlq,hq] at h4;have:(enc [[120],[121]]).length=18:=by simp [enc,zv]
  rw [hr,this] at h4;omega
 exact ⟨v,hn12 ▸ hin⟩
theorem zcw (h:LI nm L X g) (hx:Recs [x]) (hsz:L.size + (8 + x.length) <= L.most) (hr:appR L x X 0 L' Y):L'={ L with recs:=L.recs ++ [x],size:=L.size + (8 + x.length) } /\ Sm X Y /\ LI nm L' Y { g with rs:=g.rs ++ [x],q:=g.q + (8 + x.length) } /\ (Y.fc g.b).lasts=(X.fc g.b).lasts:=by
 have hxl:x.length <= mxr:=(hx x (by simp)).1;rcases hr with ⟨h0,-⟩ | ⟨-,e1,Z,h1,h2⟩
 ·exact absurd (h.may hxl) h0
 rcases h2 with ⟨g1,g2,-⟩ | ⟨rfl,-,-,rfl,rfl⟩ | ⟨-,g1,-⟩
 ·exact absurd g2.symm g1
 ·
  rw [h.atseg] at h1;obtain ⟨s1,⟨h3,-⟩ | ⟨b,k,hb,hk,hk0,hf⟩⟩:=z0n h1
  ·exact absurd rfl h3
  obtain rfl:b=g.b:=Option.some.inj (hb.symm.trans h.shape.lastAt);have hkl:=hk0 rfl;subst hkl;have i1:In nm Y (·={ g with rs:=g.rs ++ [x],q:=g.q + (recd x).length }):=h.inn.write s1 hf fun q f hq hsh=>by
   subst hq;exact ⟨_,rfl,hsh.append h.full hx (Nat.le_refl _)⟩
  rw [zv] at i1;refine ⟨rfl,s1,{ inn:=i1,full:=?_,name:=h.name,nob:=h.nob,first:=h.first,seg:=h.seg,segs:=h.segs,size:=?_,recs:=?_,syn:=h.syn,snap:=h.snap },by rw [hf,z0l]⟩
  ·show g.q + _=_;rw [z0o,z1q,List.length_append,h.full,zv]
  ·show L.size + _=g.q + _;rw [h.size]
  ·show L.recs ++ [x]=g.closed ++ (g.rs ++ [x]);rw [h.recs,List.append_assoc]
 ·omega
theorem zds (nm:ByteArray) (c:Int):Qt 0 0 (AN nm 0) c ⟨newD c,fun _=>⟨[],0⟩⟩:=⟨⟨Nat.le_refl _,Nat.le_refl _,List.nodup_nil,List.nodup_nil⟩,fun t b hb=>absurd (show (none:Option Nat)=some b from hb) nofun,rfl⟩
theorem zdt (c:Int):Wf ⟨newD c,fun _=>⟨[],0⟩⟩:=fun s hs=>by cases hs
theorem zb7 (c:Int):Fau (newD c):=⟨rfl,by show (-1:Int) < 0;decide⟩
def KP (h:Sh):Prop:=h.sn=none /\ h.closed=[] /\ h.m=1 /\ h.du=1 /\ h.rs.take 1=[[120]] /\ h.q <= 12
theorem zf9:Trims KP:=fun h j ⟨h1,h2,h3,h4,h5,h6⟩ hj _ hq=>⟨h1,h2,h3,h4,by show (h.rs.take j).take 1=_;rw [List.take_take,Nat.min_eq_left (by omega)];exact h5,by show (enc (h.rs.take j)).length <= 12;omega⟩
theorem kp_one {h:Sh} {j:Nat} (hp:KP h) (h1:h.du <= j) (h2:j <= h.rs.length) (h3:(enc (h.rs.take j)).length <= h.q):h.rs.take j=[[120]] /\ j=1:=by
 obtain ⟨-,-,-,h4,h5,h6⟩:=hp;have hj:j=1:=by
  rcases Nat.lt_or_ge 1 j with hl | hl
  ·
   have e:=z1g (l:=h.rs) (show 2 <= j from hl);cases hr:h.rs with
   | nil=>rw [hr] at h2;simp at h2;omega
   | cons a r =>
    cases r with
    | nil=>rw [hr] at h2;simp at h2;omega
    | cons b r =>
     have:(enc (h.rs.take 2)).length=8 + a.length + (8 + b.length):=by rw [hr];simp [enc,zv]
     have ha:a.length=1:=by rw [hr] at h5;simp at h5;rw [h5];rfl
     omega
  ·omega
 exact ⟨by rw [hj];exact h5,hj⟩
def KQ (h:Sh):Prop:=h.sn=some [115] /\ h.closed ++ h.rs=[[122]] /\ h.du=h.rs.length
theorem z9g:Trims KQ:=fun h j ⟨h1,h2,h3⟩ hj hl _=>by
 have:h.rs.take j=h.rs:=List.take_of_length_le (by omega);exact ⟨h1,by show h.closed ++ h.rs.take j=_;rw [this];exact h2,by show h.du=(h.rs.take j).length;rw [this];exact h3⟩
end Go.Log
end
section
namespace Go.Log
open Go.Lk Go.RowKit Go.Vfs
variable {w w' w2:World} {l d:Nat} {Fd Rd FL RL S:Nat -> Prop} {L:Lg} {X:Ds}
def lcs (d:Nat) (sv lv:Value) (L:Lg):Array Value :=
 #[.pointer (some ⟨d,0,none⟩),.string L.name,.int .i64 (L.most:Nat),.int .i64 (L.first:Nat),.int .i64 (L.segment:Nat),.int .i64 (L.segments:Nat),.int .i64 (L.size:Nat),sv,.bool L.has,lv,.int .i64 (L.synced:Nat),.bool L.bad]
structure NumL (L:Lg):Prop where
 name:mnB L.name=true
 n16:L.name.size <= 16
 most:L.most <= 1048576
 first:L.first <= 4294967296
 segment:L.segment <= 4294967296
 segments:L.segments <= 1000000
 size:L.size <= 33554432
 recs:Recs L.recs
 nrec:L.recs.length <= 4000000000000
 snap:L.snap.length <= mxr
structure LgAt (w:World) (l d:Nat) (Fd Rd FL RL:Nat -> Prop) (L:Lg) (X:Ds):Prop where
 disk:DiskAt w d Fd Rd X.D X.fc
 ex:∃ sv lv vs,w.heap[l]?=some (.cells (lcs d sv lv L) 78 (0,0)) /\ Bytes w RL sv L.snap /\ RowS w FL (fun _=>False) 22 1 lv L.recs.length vs /\ BytesL w RL vs L.recs
 fl:FL l
 apF:∀ k,FL k -> ¬ Fd k /\ ¬ Rd k
 apR:∀ k,RL k -> ¬ Fd k /\ ¬ FL k
 ltF:∀ k,FL k -> k < w.heap.size
 ltR:∀ k,RL k -> k < w.heap.size
 nums:NumL L
 low:∀ k,Fd k \/ FL k -> 6 <= k
theorem LgAt.keeps (h:LgAt w l d Fd Rd FL RL L X) (hk:Keeps S w w') (h1:∀ k,Fd k -> ¬ S k) (h2:∀ k,Rd k -> ¬ S k) (h3:∀ k,FL k -> ¬ S k) (h4:∀ k,RL k -> ¬ S k):LgAt w' l d Fd Rd FL RL L X:=by
 obtain ⟨g1,⟨sv,lv,vs,e1,e2,e3,e4⟩,g3,g4,g5,g6,g7,g8,g9⟩:=h;exact ⟨g1.keeps hk h1 h2,⟨sv,lv,vs,hk.at e1 (h3 l g3),e2.keeps hk h4,e3.keeps hk (fun k hk _=>hk.elim (h3 k) (fun e=>e.elim)),e4.keeps hk h4⟩,g3,g4,g5,fun k e=>Nat.lt_of_lt_of_le (g6 k e) hk.size,fun k e=>Nat.lt_of_lt_of_le (g7 k e) hk.size,g8,g9⟩
theorem LgAt.nb (h:LgAt w l d Fd Rd FL RL L X) (hk:Keeps Nb w w'):LgAt w' l d Fd Rd FL RL L X:=h.keeps hk (fun _ _ e=>e) (fun _ _ e=>e) (fun _ _ e=>e) (fun _ _ e=>e)
theorem LgAt.cells (h:LgAt w l d Fd Rd FL RL L X):∃ sv lv,(∀ u,Keeps Nb w u -> u.heap[l]?=some (.cells (lcs d sv lv L) 78 (0,0))):=by
 obtain ⟨sv,lv,vs,e1,-⟩:=h.ex;exact ⟨sv,lv,fun u hu=>hu.nb e1⟩
def LNow (w w':World) (l d:Nat) (Fd Rd FL RL:Nat -> Prop) (L:Lg) (X:Ds):Prop :=
 ∃ Fd' Rd' FL' RL',LgAt w' l d Fd' Rd' FL' RL' L X /\ (∀ k,Fd' k -> Fd k \/ w.heap.size <= k) /\ (∀ k,Rd' k -> Rd k \/ w.heap.size <= k) /\ (∀ k,FL' k -> FL k \/ w.heap.size <= k) /\ (∀ k,RL' k -> RL k \/ w.heap.size <= k) /\ Keeps (fun k=>Fd k \/ FL k) w w'
theorem LNow.of (h:LgAt w' l d Fd Rd FL RL L X) (hk:Keeps Nb w w'):LNow w w' l d Fd Rd FL RL L X:=⟨Fd,Rd,FL,RL,h,fun _ e=>.inl e,fun _ e=>.inl e,fun _ e=>.inl e,fun _ e=>.inl e,hk.of_nb⟩
theorem Vars.now (hv:Vars w) (h:LgAt w l d Fd Rd FL RL L X) {L':Lg} {X':Ds} (hn:LNow w w' l d Fd Rd FL RL L' X'):Vars w':=by
 obtain ⟨Fd',Rd',FL',RL',h1,h2,h3,h4,h5,h6⟩:=hn;exact hv.keeps h6 (fun k hk e=>by have:=h.low k e;omega)
theorem LgAt.disk_now (h:LgAt w l d Fd Rd FL RL L X) {Y:Ds} (hn:Now w w' d Fd Rd Y.D Y.fc) (hz:6 <= w.heap.size):LNow w w' l d Fd Rd FL RL L Y:=by
 obtain ⟨g1,⟨sv,lv,vs,e1,e2,e3,e4⟩,g3,g4,g5,g6,g7,g8,g9⟩:=h;obtain ⟨Fd',Rd',h1,h2,h3,h4⟩:=hn;have hz4:=h4.size;refine ⟨Fd',Rd',FL,RL,⟨h1,⟨sv,lv,vs,h4.at e1 (fun e=>(g4 l g3).1 e),e2.keeps h4 (fun k hk e=>(g5 k hk).1 e),e3.keeps h4 (fun k hk _ e=>hk.elim (fun hk=>(g4 k hk).1 e) (fun e=>e.elim)),e4.keeps h4 (fun k hk e=>(g5 k hk).1 e)⟩,g3,?_,?_,fun k e=>Nat.lt_of_lt_of_le (g6 k e) hz4,fun k e=>Nat.lt_of_lt_of_le (g7 k e) hz4,g8,?_⟩,h2,h3,fun _ e=>.inl e,fun _ e=>.inl e,h4.mono (fun _ _ e=>.inl e)⟩
 ·intro k hk;have:=g6 k hk;exact ⟨fun e=>(h2 k e).elim (g4 k hk).1 (fun e=>by omega),fun e=>(h3 k e).elim (g4 k hk).2 (fun e=>by omega)⟩
 ·intro k hk;have:=g7 k hk;exact ⟨fun e=>(h2 k e).elim (g5 k hk).1 (fun e=>by omega),(g5 k hk).2⟩
 ·
  intro k hk;rcases hk with hk | hk
  ·exact (h2 k hk).elim (fun e=>g9 k (.inl e)) (fun e=>by omega)
  ·exact g9 k (.inr hk)
theorem zff (nm:ByteArray) (a:List ByteArray) (s:ByteArray):nxL nm (a ++ [s])=max (nxL nm a) (max (sgn nm s) (snn nm s)):=by
 rw [z9l (List.perm_append_comm (l₁:=a) (l₂:=[s]))];show max (max (sgn nm s) (snn nm s)) (nxL nm a)=_;omega
end Go.Log
end
section
namespace Go.Proofs.YtpjomdmjohjheaaGreatDoor
open Go.RowKit Go.Lk Go.Vfs Go.Log
attribute [local go_sem] Oper.semAt_some
theorem z16 {s:ByteArray} (h:mnB s=true):s.size <= 32:=((zb5 s).1 h).2.2
theorem z7p (l d:Nat) (Fd Rd FL RL:Nat -> Prop) (L:Lg) (X:Ds) (w:World) (h:LgAt w l d Fd Rd FL RL L X) (hv:Vars w) :
  Calls Tryz.prog 52 #[.pointer (some ⟨l,0,none⟩)] w fun e w'=>e=.returned (.tuple #[.int .i64 (nxN L.name X:Nat),.int .i64 (nxE L.name X)]) /\ Keeps Nb w w':=by
 obtain ⟨sv,lv,hcs⟩:=h.cells;have H:=qq h;have HV:=qq hv;have HC:=qq hcs;have HN16:=qq h.nums.n16;clear h hv hcs;refine z1b Tryz.func52 rfl ?_;simp only [Tryz.ntmps52,List.size_toArray,List.length_cons,List.length_nil,Nat.reduceAdd,Nat.reduceSub,Array.replicate_succ,Array.replicate_zero,List.push_toArray,List.append_toArray,List.nil_append,List.cons_append];go_wp2_with (first | go_skip | (with_reducible refine zo (t:=40) ?_))
 refine za (vbox1 (v:=.pointer (some ⟨l,0,none⟩)) (by rfl) rfl ?_);intro b1 w1 n1;simp only [Nat.reduceAdd,qn];go_wp2_with (first | go_skip | (with_reducible refine qv (by decide) ?_))
 refine za (valloc (z:=.int .i64 0) (by kernel_rfl) ?_);intro g4 w2 n2;simp only [Nat.reduceAdd,qn];go_wp2_with (first | go_skip | (with_reducible refine qv (by decide) ?_))
 refine za (zc rfl (zd (v:=.int .i64 0) (n:=1) (by kernel_rfl) (by rfl) (by rfl) n2.blk (by rfl) (by simp [Value.cells]) (by simp [Value.cells,Value.oneCell'])) ?_);intro w3 s3;simp only [Nat.reduceAdd,qn];have hb14:b1 < g4:=by have:=n1.lt;have:=n2.ge;omega
 have K3:Hid (Keeps Nb w w3):=qq ((n1.k.trans_nb n2.k).own (k:=g4) (by have:=n1.k.size;have:=n2.ge;omega) s3.k);have B1:Hid (w3.heap[b1]?=some (.cells #[.pointer (some ⟨l,0,none⟩)] 40 (0,0))):=qq (s3.k.at (n2.k.nb n1.blk) (fun e=>by omega));have B4:Hid (w3.heap[g4]?=some (.cells #[.int .i64 (0:Nat)] 3 (0,0))):=qq s3.blk;have G1:Hid (w.heap.size <= b1):=qq n1.ge;clear n1 n2 s3;have c1:w3.cell? ⟨b1,0,none⟩=some (.pointer (some ⟨l,0,none⟩)):=(cell_of_block B1.out).trans rfl;have c2:w3.cell? ⟨l,0,none⟩=some (.pointer (some ⟨d,0,none⟩)):=(cell_of_block (HC.out w3 K3.out)).trans rfl;have FA:=qq (z48 d X.D Fd Rd X.fc w3 (H.out.disk.nb K3.out));go_wp2_with fail;refine FA.out.mono ?_;rintro _ w6 ⟨ns,hperm,a3,a4,rfl,hfa,k6⟩;obtain ⟨ps,hps⟩:∃ ps,(ns.map fun s=>(s,szOf X.D X.fc s))=ps:=⟨_,rfl⟩
 rw [hps] at hfa;have HPS:=qq hps;have HPM:=qq hperm;have HFA:=qq hfa;have K6:=qq k6;have hnx:nxL L.name ns=nx L.name X:=z9l hperm;have HNX:=qq hnx;have hlen:ps.length=ns.length:=by rw [<- hps,List.length_map]
 have HLEN:=qq hlen;have W6:Hid (w6.heap[g4]?=some (.cells #[.int .i64 (nxL L.name (ns.take 0):Nat)] 3 (0,0))):=qq (k6.nb B4.out);have L4:g4 < w3.heap.size:=lt_of_block B4.out;have z36:=k6.size;clear hps hperm hfa k6 hnx hlen FA c1 c2;go_wp2_with (with_reducible refine z0z ?_)
 refine za ((wpIn_wide (n:=9)).1 ?_)
 refine z1o (gf:=95) (lb:=#[.pointer (some ⟨a3,0,none⟩),.pointer (some ⟨a4,0,none⟩)]) (by rfl) (enters_of Tryz.func95 (by kernel_rfl) rfl)
  (z2q 8 (by omega) w3.heap.size a3 a4 ps (fun b=>w6.heap.size <= b \/ b=g4) w6 HFA.out (fun b h1 h2 e=>by omega))
  (fun b hb=>.inl (by unfold Book at hb;omega)) (fun i args W h=>by obtain ⟨p,-,rfl⟩:=h;rfl)
  (fun i W=>W.heap[g4]?=some (.cells #[.int .i64 (nxL L.name (ns.take i):Nat)] 3 (0,0)) /\ Keeps (fun b=>w6.heap.size <= b \/ b=g4) w6 W) (fun _ _=>False)
  (fun i A B h k=>⟨k.at h.1 (fun e=>by unfold Book at e;omega),h.2.trans k (fun j hj e=>by unfold Book at e;omega)⟩) (fun c A B h=>h.elim) ⟨W6.out,Keeps.refl _ _⟩ ?round ?done (fun _ _ h=>h.elim)
 case round =>
  rintro lm i args W rfl hW2 ⟨hbn,hkW⟩ hi ⟨p,hp,rfl⟩;simp only [List.zip_toArray,List.zip_cons_cons,List.zip_nil_right,List.foldl_toArray,List.foldl_cons,List.foldl_nil,List.setIfInBounds_toArray,List.set_cons_succ,List.set_cons_zero];have hns:ns[i]?=some p.1:=by
   rw [<- HPS.out,List.getElem?_map] at hp;obtain ⟨s,h1,h2⟩:=Option.map_eq_some_iff.1 hp;rw [h1,<- h2]
  have hmn:mnB p.1=true:=by
   have h1:=HPM.out.mem_iff.1 (List.mem_of_getElem? hns);obtain ⟨q,hq,e⟩:=List.mem_map.1 h1;rw [<- e];exact H.out.disk.names.files q hq
  obtain ⟨nm,sz⟩:=p;have HNS:=qq hns;have hsz:=z16 hmn;have HBN:=qq hbn;have HKW:=qq hkW;clear hbn hkW hp hns hmn
  repeat (first | (with_reducible refine zg ?_) | (with_reducible refine stop_range ?_) | gi_step)
  refine za (zi (by kernel_rfl) (by rintro ⟨_,_,h⟩;exact h) ?_);go_wp2;refine ⟨Keeps.refl _ _,fun W3 k3=>?_⟩;have KW3:Hid (Keeps (fun b=>w6.heap.size <= b \/ b=g4) w6 W3):=qq (HKW.out.trans k3 (fun j _ e=>by omega));have BN3:Hid (W3.heap[g4]?=some (.cells #[.int .i64 (nxL L.name (ns.take i):Nat)] 3 (0,0))):=qq (k3.at HBN.out (fun e=>by omega));have KK:Hid (Keeps Nb w W3):=qq ((K3.out.trans_nb K6.out).trans KW3.out (fun j hj e=>by have:=K3.out.size;have:=G1.out;omega));have B13:Hid (W3.heap[b1]?=some (.cells #[.pointer (some ⟨l,0,none⟩)] 40 (0,0))):=qq (KW3.out.at (K6.out.nb B1.out) (fun e=>by omega));have zW3:w6.heap.size + 2 <= W3.heap.size:=by have:=k3.size;omega
  obtain ⟨nxi,hnxi⟩:∃ q,nxL L.name (ns.take i)=q:=⟨_,rfl⟩
  have HNXI:=qq hnxi;rw [hnxi] at BN3;clear k3 HBN HKW hnxi
  have PA:Hid (∀ (u:World) (ah:ByteArray),Keeps Nb W3 u -> ah.size <= 1000 -> Calls Tryz.prog 112 #[.pointer (some ⟨l,0,none⟩),.string nm,.string ah] u fun e w'=>e=.returned (.int .i64 (pn (fl L.name ah) nm:Nat)) /\ Keeps Nb u w') :=
   qq (fun u ah hu ha=>z3l l L.name nm ah u (HV.out.nb (KK.out.trans_nb hu)) ((cell_of_block (HC.out u (KK.out.trans_nb hu))).trans rfl) (by have:=HN16.out;omega) (by omega) ha)
  repeat (first | (with_reducible refine zg ?_) | (with_reducible refine stop_range ?_) | gi_step)
  refine za (WT.regionIn (fun u=>u.cell? ⟨g4,0,none⟩=some (.int .i64 (nxi:Nat)) /\ u.cell? ⟨b1,0,none⟩=some (.pointer (some ⟨l,0,none⟩))) 8 [0,1,2,4,5,3,6,7,8] (by kernel_rfl) (by rintro ⟨_,_,h⟩;exact h) (by kernel_rfl) rfl ?_);have HS:Hid ((fun u:World=>u.cell? ⟨g4,0,none⟩=some (.int .i64 (nxi:Nat)) /\ u.cell? ⟨b1,0,none⟩=some (.pointer (some ⟨l,0,none⟩))) W3.drew):=qq ⟨(cell_of_block BN3.out).trans rfl,(cell_of_block B13.out).trans rfl⟩;refine WT.t 0 (v:=.int .i64 (nxi:Nat)) (y:=by rintro w ⟨C1,C2⟩;exact zb (by kernel_rfl) (by rfl) C1) (s:=HS.out) (h:=?_);refine WT.t 1 (v:=.pointer (some ⟨l,0,none⟩)) (y:=by rintro w ⟨C1,C2⟩;exact zb (by kernel_rfl) (by rfl) C2) (s:=HS.out) (h:=?_);refine WT.t 2 (v:=_) (y:=by rintro w ⟨C1,C2⟩;go_simp;with_reducible rfl) (s:=HS.out) (h:=?_);refine WT.t 4 (v:=.pointer (some ⟨l,0,none⟩)) (y:=by rintro w ⟨C1,C2⟩;exact zb (by kernel_rfl) (by rfl) C2) (s:=HS.out) (h:=?_);refine WT.t 5 (v:=_) (y:=by rintro w ⟨C1,C2⟩;go_simp;with_reducible rfl) (s:=HS.out) (h:=?_);refine WT.call 3 (by simp only [qi];rfl) (by kernel_rfl) (by rfl) (by go_simp;first | done | rfl | exact ⟨⟨rfl,rfl⟩,rfl⟩ | exact ⟨⟨rfl,rfl,rfl⟩,rfl⟩) (PA.out _ ByteArray.empty (Keeps.refl Nb W3).drew (by decide)) ?_;rintro _ W4 ⟨rfl,k4⟩;have K4:Hid (Keeps Nb W3 W4):=qq ((Keeps.refl Nb W3).drew.trans_nb k4);clear k4;replace HS:Hid ((fun u:World=>u.cell? ⟨g4,0,none⟩=some (.int .i64 (nxi:Nat)) /\ u.cell? ⟨b1,0,none⟩=some (.pointer (some ⟨l,0,none⟩))) W4):=qq ⟨(cell_of_block (K4.out.nb BN3.out)).trans rfl,(cell_of_block (K4.out.nb B13.out)).trans rfl⟩;refine ⟨_,rfl,HS.out,?_⟩;simp only [Nat.reduceAdd,qn];refine WT.call 6 (by simp only [qi];rfl) (by kernel_rfl) (by rfl) (by go_simp;first | done | rfl | exact ⟨⟨rfl,rfl⟩,rfl⟩ | exact ⟨⟨rfl,rfl,rfl⟩,rfl⟩) (PA.out _ sS K4.out (by decide)) ?_;rintro _ W5 ⟨rfl,k5⟩;have K5:Hid (Keeps Nb W3 W5):=qq (K4.out.trans_nb k5);clear k5;replace HS:Hid ((fun u:World=>u.cell? ⟨g4,0,none⟩=some (.int .i64 (nxi:Nat)) /\ u.cell? ⟨b1,0,none⟩=some (.pointer (some ⟨l,0,none⟩))) W5):=qq ⟨(cell_of_block (K5.out.nb BN3.out)).trans rfl,(cell_of_block (K5.out.nb B13.out)).trans rfl⟩;refine ⟨_,rfl,HS.out,?_⟩;simp only [Nat.reduceAdd,qn];refine WT.t 7 (v:=.int .i64 (max nxi (max (sgn L.name nm) (snn L.name nm)):Nat)) (y:=by rintro w ⟨C1,C2⟩;go_simp;unfold sgn snn;split <;> split <;> omega) (s:=HS.out) (h:=?_);refine WT.stop (by kernel_rfl) ?_;refine WP.onlySkipE 8 (by simp only [qi];rfl) (by kernel_rfl) (by rfl) (zd (v:=.int .i64 (max nxi (max (sgn L.name nm) (snn L.name nm)):Nat)) (n:=1) (by kernel_rfl) (by rfl) (by rfl) (K5.out.nb BN3.out) (by rfl) (by simp [Value.cells]) (by simp [Value.cells,Value.oneCell'])) ?_;intro W6 s6;simp only [Nat.reduceAdd,qn];refine WP.done (by kernel_rfl) ?_;have kf:Keeps (fun b=>(w6.heap.size <= b \/ b=g4) /\ ¬ Book w6 b) W3 W6:=(K5.out.of_nb).trans s6.k (fun j _ e=>⟨.inr e,by have h1:j=g4:=e;subst h1;unfold Book;omega⟩);have hb6:W6.heap[g4]?=some (.cells #[.int .i64 (nxL L.name (ns.take (i + 1)):Nat)] 3 (0,0)):=by
   have hil:=(List.getElem?_eq_some_iff.1 HNS.out).1;rw [List.take_succ_eq_append_getElem hil,zff,(List.getElem?_eq_some_iff.1 HNS.out).2,HNXI.out];exact s6.blk
  exact ⟨kf,hb6,KW3.out.trans kf (fun j _ e=>e.1)⟩
 case done =>
  rintro W ⟨hbn,hkW⟩ hD;rw [HLEN.out,List.take_length,HNX.out] at hbn;have c4:W.cell? ⟨g4,0,none⟩=some (.int .i64 (nx L.name X:Nat)):=(cell_of_block hbn).trans rfl;have KW:Hid (Keeps Nb w W):=qq ((K3.out.trans_nb K6.out).trans hkW (fun j hj e=>by have:=K3.out.size;have:=G1.out;omega));have HD:=qq hD;have L6:=lt_of_block hD;have z6:w.heap.size <= w6.heap.size:=(K3.out.trans_nb K6.out).size;clear hbn hkW hD;have kp:=zw W w6.heap.size (.deferred none);have KF:Hid (Keeps Nb w (W.putObj w6.heap.size (.deferred none))):=qq (KW.out.trans kp (fun j hj e=>by have:j=w6.heap.size:=e;omega));clear kp;by_cases hm:mxn <= nx L.name X
  ·
   have he:nxE L.name X=5:=by unfold nxE;rw [if_pos hm]
   have HE:=qq he;have HN2:Hid (nxN L.name X=0):=qq (by unfold nxN;rw [if_pos hm]);have i1:(2147483647:Int) <= (nx L.name X:Nat):=by unfold mxn at hm;omega
   clear he hm;go_wp2;refine ⟨by simp,.inl ⟨_,_,rfl,run_takeDeferred HD.out,?_⟩⟩;exact ⟨.tuple #[.int .i64 0,.int .i64 5],by simp [results,Tryz.f52,go_sem],by rw [HE.out,HN2.out];rfl,KF.out⟩
  ·
   have he:nxE L.name X=0:=by unfold nxE;rw [if_neg hm]
   have HE:=qq he;have HN2:Hid (nxN L.name X=nx L.name X + 1):=qq (by unfold nxN;rw [if_neg hm]);have i2:IntKind.i64.wrap (((nx L.name X:Nat):Int) + 1)=((nx L.name X:Nat):Int) + 1:=IntWalk.i64_in _ (by unfold mxn at hm;omega);have i1:decide ((2147483647:Int) <= ((nx L.name X:Nat):Int))=false:=by unfold mxn at hm;simp;omega
   clear he hm;go_wp2;refine ⟨by simp,.inl ⟨_,_,rfl,run_takeDeferred HD.out,?_⟩⟩;exact ⟨.tuple #[.int .i64 ((nx L.name X + 1:Nat):Int),.int .i64 0],by simp [results,Tryz.f52,go_sem],by rw [HE.out,HN2.out],KF.out⟩
end Go.Proofs.YtpjomdmjohjheaaGreatDoor
end
section
namespace Go.Log
open Go.Lk
theorem z7b {cs:Array Value} {off:Nat} {v:Value} (h:off < cs.size):splice cs #[v] off=cs.setIfInBounds off v:=by
 apply Array.ext';unfold splice;simp only [Array.toList_setIfInBounds];rw [List.set_eq_take_append_cons_drop,if_pos (by simpa using h)];simp
end Go.Log
namespace Go.Proofs.YtpjomdmjohjheaaGreatDoor
open Go.RowKit Go.Lk Go.Vfs Go.Log
structure Fv where
 g:Nat
 bnd:Array Value
 caps:Array Value
def Fv.v (f:Fv):Value:=.func (.func f.g) f.bnd f.caps
def AskE (l:Nat) (R:Int -> World -> Prop) (er:Int) (w:World):Prop :=
 ∃ cs,w.heap[l]?=some (.cells cs 78 (0,0)) /\ 11 < cs.size /\ ∀ w',SetAt w w' l (.cells (cs.setIfInBounds 11 (.bool true)) 78 (0,0)) -> R er w'
theorem ask_at (l:Nat) (a:Option Addr) (n c:Nat) (fs:List Fv) (Φ:Nat -> World -> Prop) (R:Int -> World -> Prop) (w:World) (hn:fs.length=n) (hnc:n <= c) (hc:c <= 1000)
  (hg:∀ f ∈ fs,∀ args w,(callFunc f.g args).run Tryz.prog w=.ok (.enter f.g args) w) (hr:∀ i w',i <= n -> Φ i w' -> Has w' a (fs.map Fv.v))
  (h0:Φ 0 w) (hs:∀ i f w',fs[i]?=some f -> Φ i w' -> Calls Tryz.prog f.g (f.bnd ++ f.caps) w' fun e w''=>∃ er:Int,e=.returned (.int .i64 er) /\ ((er=0 /\ Φ (i + 1) w'') \/ (er ≠ 0 /\ AskE l R er w'')))
  (hd:∀ w',Φ n w' -> R 0 w') :
  Calls Tryz.prog 53 #[.pointer (some ⟨l,0,none⟩),.slice a n c] w fun e w'=>∃ er:Int,e=.returned (.int .i64 er) /\ R er w':=by
 have HG:=qq hg;have HR:=qq hr;have H0:=qq h0;have HS:=qq hs;have HD:=qq hd;have HN:=qq hn;clear hg hr h0 hs hd hn;go_enter Tryz.func53,Tryz.ntmps53;go_wp2
 go_loopw [10] (fun i wr=>∃ k:Nat,k <= n /\ i=.int .i64 k /\ Φ k wr) (fun i _=>n - (intOf i).toNat)
 case atStart=>exact ⟨0,Nat.zero_le _,rfl,H0.out⟩
 case round =>
  obtain ⟨k,hk,rfl,hf⟩:=hrel;have HF:=qq hf;clear hf;by_cases hlt:k < n
  ·
   have i1:(k:Int) < (n:Int):=by omega
   obtain ⟨f,hfk⟩:∃ f,fs[k]?=some f:=⟨_,List.getElem?_eq_getElem (by rw [HN.out];exact hlt)⟩
   have HFK:=qq hfk;obtain ⟨b,off,rfl,hck⟩:∃ b off,a=some ⟨b,off,none⟩ /\ wr.cell? ⟨b,off + k,none⟩=some (.func (.func f.g) f.bnd f.caps):=by
    rcases HR.out k wr (by omega) HF.out with h | ⟨b,off,h,hc⟩
    ·have:fs=[]:=List.map_eq_nil_iff.1 h;rw [this] at hfk;cases hfk
    ·exact ⟨b,off,h,hc k _ (by rw [List.getElem?_map,hfk];rfl)⟩
   have ew:=HG.out f (List.mem_of_getElem? hfk);have HST:=qq (HS.out k f wr hfk HF.out);clear hfk;go_wp2_with fail;refine HST.out.mono ?_;rintro _ w1 ⟨er,rfl,⟨rfl,hf1⟩ | ⟨hne,cs,hb,hcs,hR⟩⟩
   ·
    have HF1:=qq hf1;clear hf1 hck ew HST;go_wp2;go_roundw
    case rel=>exact ⟨k + 1,by omega,by go_num,HF1.out⟩
    case measure=>simp [intOf];omega
   ·
    have HRR:=qq hR;have t1:(er != 0)=true:=by simpa using hne
    clear hR hck ew HST hne;go_wp2_with (first | go_skip | (with_reducible refine qv (by decide) ?_))
    refine za (zc rfl (zd (v:=.bool true) (n:=1) (by kernel_rfl) (by rfl) (by rfl) hb (by rfl) (by simp [Value.cells];omega) (by simp [Value.cells,Value.oneCell'])) ?_);intro w2 s2;simp only [Nat.reduceAdd,qn];have hset:=HRR.out w2 (by rw [<- z7b hcs];exact s2);have HF2:=qq hset;clear hset s2 HRR hb;go_wp2;go_ret;exact ⟨er,rfl,HF2.out⟩
  ·
   obtain rfl:k=n:=by omega
   have HR0:=qq (HD.out wr HF.out);go_wp2;go_ret;exact ⟨0,rfl,HR0.out⟩
end Go.Proofs.YtpjomdmjohjheaaGreatDoor
end
section
namespace Go.Log
open Go.Lk Go.RowKit Go.Vfs
variable {w w' w2:World} {l d:Nat} {Fd Rd FL RL S:Nat -> Prop} {L:Lg} {X Y Z:Ds} {e:Int} {s t:ByteArray}
theorem LgAt.setL (h:LgAt w l d Fd Rd FL RL L X) {sv lv:Value} {L':Lg} {cs:Array Value} (hc:w.heap[l]?=some (.cells (lcs d sv lv L) 78 (0,0))) (hs:SetAt w w' l (.cells cs 78 (0,0))) (hcs:cs=lcs d sv lv L') (e1:L'.snap=L.snap) (e2:L'.recs=L.recs) (hn:NumL L') :
  LgAt w' l d Fd Rd FL RL L' X:=by
 subst hcs;obtain ⟨g1,⟨sv',lv',vs,h1,h2,h3,h4⟩,g3,g4,g5,g6,g7,g8,g9⟩:=h;rw [hc] at h1;obtain ⟨rfl,rfl⟩:sv=sv' /\ lv=lv':=by simpa [lcs] using h1
 have k:=hs.k;have hT:∀ k,IsT w 22 k -> ¬ k=l:=fun k ht e=>by subst e;exact (ht.ne ⟨_,_,hc⟩ (by decide)) rfl
 refine ⟨g1.keeps k (fun k hk e=>(g4 l g3).1 (e ▸ hk)) (fun k hk e=>(g4 l g3).2 (e ▸ hk)),⟨sv,lv,vs,hs.blk,?_,?_,?_⟩,g3,g4,g5,fun k e=>Nat.lt_of_lt_of_le (g6 k e) hs.k.size,fun k e=>Nat.lt_of_lt_of_le (g7 k e) hs.k.size,hn,g9⟩
 ·rw [e1];exact h2.keeps k (fun k hk e=>(g5 k hk).2 (e ▸ g3))
 ·rw [e2];exact h3.keeps k (fun k hk ht=>hT k ht)
 ·rw [e2];exact h4.keeps k (fun k hk e=>(g5 k hk).2 (e ▸ g3))
theorem NumL.setBad (h:NumL L) (b:Bool):NumL { L with bad:=b }:=⟨h.name,h.n16,h.most,h.first,h.segment,h.segments,h.size,h.recs,h.nrec,h.snap⟩
def pot (X:Ds):Int:=X.D.changes + 2 * X.D.files.length
theorem z5m (h1:Y.D=(chg X.D).1):pot Y=pot X + 1:=by
 obtain ⟨a,-,-,b,-⟩:=z04 X.D;unfold pot;rw [h1,a,b];omega
theorem z6u (h:mkO s X e Y):pot Y <= pot X + 3:=by
 obtain ⟨n,-,h⟩:=h;obtain ⟨a,-,-,b,-⟩:=z04 X.D;rcases h with ⟨-,-,h,-⟩ | ⟨-,-,-,h,-⟩ | ⟨-,-,-,-,h,-⟩ | ⟨-,-,-,-,-,h,-⟩ | ⟨-,-,-,-,-,⟨-,k,-,h,-⟩ | ⟨-,h,-⟩⟩
 ·unfold pot;rw [h];omega
 ·unfold pot;rw [h];omega
 ·unfold pot;rw [h];omega
 ·unfold pot;rw [h];omega
 ·unfold pot;rw [h];simp only [Dk.make,List.length_append,List.length_cons,List.length_nil];rw [a,b];omega
 ·rw [z5m h];omega
theorem ze3 {bs:List Nat} (h:apO s bs X e Y):pot Y <= pot X + 1:=by
 rcases h with ⟨-,-,h,-⟩ | ⟨-,-,-,h,-⟩ | ⟨b,-,-,⟨-,-,h,-⟩ | ⟨-,-,-,h,-⟩ | ⟨-,-,-,h,-⟩⟩
 ·unfold pot;rw [h];omega
 ·unfold pot;rw [h];omega
 ·unfold pot;rw [h];omega
 ·unfold pot;rw [h];omega
 ·rw [z5m h];omega
theorem z52 (h:syO s X e Y):pot Y <= pot X + 1:=by
 rcases h with ⟨-,-,h,-⟩ | ⟨-,-,-,h,-⟩ | ⟨b,-,-,⟨-,-,h,-⟩ | ⟨-,-,h,-⟩⟩
 ·unfold pot;rw [h];omega
 ·unfold pot;rw [h];omega
 ·unfold pot;rw [h];omega
 ·rw [z5m h];omega
theorem pot_cu {n:Nat} (h:cuO s n X e Y):pot Y <= pot X + 1:=by
 rcases h with ⟨-,-,h,-⟩ | ⟨-,-,-,h,-⟩ | ⟨-,-,-,-,h,-⟩ | ⟨b,-,-,-,⟨-,-,h,-⟩ | ⟨-,-,-,h,-⟩ | ⟨-,-,-,h,-⟩⟩
 ·unfold pot;rw [h];omega
 ·unfold pot;rw [h];omega
 ·unfold pot;rw [h];omega
 ·unfold pot;rw [h];omega
 ·unfold pot;rw [h];omega
 ·rw [z5m h];omega
theorem pot_sd (h:sdO X e Y):pot Y <= pot X + 1:=by
 obtain ⟨⟨-,-,h⟩ | ⟨-,-,h⟩,-⟩:=h
 ·unfold pot;rw [h];omega
 ·
  obtain ⟨a,-,-,b,-⟩:=z04 X.D;unfold pot;rw [h];split
  ·simp only [Dk.sdir];rw [a,b];omega
  ·rw [a,b];omega
theorem pot_rn (h:rnO s t X e Y):pot Y <= pot X + 1:=by
 obtain ⟨⟨-,-,h⟩ | ⟨-,-,-,h⟩ | ⟨-,-,-,-,h⟩ | ⟨b,-,-,hb,⟨-,-,h⟩ | ⟨-,-,h⟩⟩,-⟩:=h
 ·unfold pot;rw [h];omega
 ·unfold pot;rw [h];omega
 ·unfold pot;rw [h];omega
 ·unfold pot;rw [h];omega
 ·
  obtain ⟨a,-,-,c,-⟩:=z04 X.D;unfold pot;rw [h];split
  ·have:=z3y hb t;simp only [Dk.ren,Dk.step];rw [a,c];omega
  ·rw [a,c];omega
theorem z9s (h:rmO s X e Y):pot Y <= pot X + 1 /\ (e=0 -> pot Y <= pot X):=by
 obtain ⟨⟨-,he,h⟩ | ⟨-,-,he,h⟩ | ⟨b,-,hb,⟨-,he,h⟩ | ⟨-,he,h⟩⟩,-⟩:=h
 ·unfold pot;rw [h];omega
 ·unfold pot;rw [h];omega
 ·unfold pot;rw [h];omega
 ·
  obtain ⟨a,-,-,c,-⟩:=z04 X.D;unfold pot;rw [h];split
  ·have:=zat hb;simp only [Dk.rem,Dk.step];rw [a,c];omega
  ·
   rename_i hk;rw [a,c];refine ⟨by omega,fun h0=>absurd ?_ hk⟩;rw [h0] at he;unfold chg at he ⊢;simp only at he ⊢;split at he
   ·rename_i hf;rw [if_pos hf];simp only at he;exact absurd he.symm hf.1
   ·
    rename_i hf;rw [if_neg hf];split at he
    ·cases he
    ·rename_i hg;rw [if_neg hg]
theorem z81 {a:List Op} {o:Op} (h:askO a X 0 Z) (ho:o Z 0 Y):askO (a ++ [o]) X 0 Y:=by
 induction a generalizing X with
 | nil=>obtain ⟨-,rfl⟩:=h;exact ⟨0,Y,ho,.inr ⟨rfl,rfl,rfl⟩⟩
 | cons p a ih =>
  obtain ⟨e1,W,h1,⟨hne,he,-⟩ | ⟨h0,h2⟩⟩:=h
  ·exact absurd he.symm hne
  ·exact ⟨e1,W,h1,.inr ⟨h0,ih h2⟩⟩
theorem z82 {a b:List Op} {o:Op} (h:askO a X 0 Z) (ho:o Z e Y) (hne:e ≠ 0):askO (a ++ o :: b) X e Y:=by
 induction a generalizing X with
 | nil=>obtain ⟨-,rfl⟩:=h;exact ⟨e,Y,ho,.inl ⟨hne,rfl,rfl⟩⟩
 | cons p a ih =>
  obtain ⟨e1,W,h1,⟨hn,he,-⟩ | ⟨h0,h2⟩⟩:=h
  ·exact absurd he.symm hn
  ·exact ⟨e1,W,h1,.inr ⟨h0,ih h2⟩⟩
def Stable (P:World -> (Nat -> Prop) -> (Nat -> Prop) -> Prop):Prop :=
 ∀ (w w':World) (Fd FL Fd' FL':Nat -> Prop),P w Fd FL -> Keeps (fun k=>Fd k \/ FL k) w w' -> (∀ k,k < w.heap.size -> ¬ Fd k -> ¬ Fd' k) -> (∀ k,k < w.heap.size -> ¬ FL k -> ¬ FL' k) -> P w' Fd' FL'
def Out (w:World) (Fd FL:Nat -> Prop) (k:Nat):Prop:=k < w.heap.size /\ ¬ Fd k /\ ¬ FL k
def Box (b:Nat) (o:Obj) (w:World) (Fd FL:Nat -> Prop):Prop:=w.heap[b]?=some o /\ ¬ Fd b /\ ¬ FL b
theorem zu (b:Nat) (o:Obj):Stable (Box b o):=fun w w' Fd FL Fd' FL' ⟨h1,h2,h3⟩ hk g1 g2 =>
 ⟨hk.at h1 (fun e=>e.elim h2 h3),g1 b (lt_of_block h1) h2,g2 b (lt_of_block h1) h3⟩
def BytesO (v:Value) (bs:List Nat) (w:World) (Fd FL:Nat -> Prop):Prop:=Bytes w (Out w Fd FL) v bs
theorem z8t (v:Value) (bs:List Nat):Stable (BytesO v bs):=fun w w' Fd FL Fd' FL' h hk g1 g2 =>
 (h.keeps hk (fun k hk e=>e.elim hk.2.1 hk.2.2)).mono (fun k h=>⟨Nat.lt_of_lt_of_le h.1 hk.size,g1 k h.1 h.2.1,g2 k h.1 h.2.2⟩)
theorem Stable.and {P Q:World -> (Nat -> Prop) -> (Nat -> Prop) -> Prop} (hP:Stable P) (hQ:Stable Q):Stable (fun w a b=>P w a b /\ Q w a b) :=
 fun w w' Fd FL Fd' FL' h hk g1 g2=>⟨hP w w' Fd FL Fd' FL' h.1 hk g1 g2,hQ w w' Fd FL Fd' FL' h.2 hk g1 g2⟩
end Go.Log
end
section
namespace Go.Log
open Go.Vfs
open Go.Proofs.YtpjomdmjohjheaaGreatDoor (newD)
variable {nm:ByteArray} {X Y Z:Ds} {e:Int} {s t:ByteArray} {n k m q K:Nat} {x:List Nat} {g:Sh} {L L':Lg} {c:Int} {P:Sh -> Prop} {A:ByteArray -> Prop}
theorem sum_le {l:List (ByteArray × Nat)} {a b:ByteArray × Nat -> Nat} (h:∀ p ∈ l,a p <= b p):(l.map a).sum <= (l.map b).sum:=by
 induction l with
 | nil=>exact Nat.le_refl _
 | cons p l ih =>
  simp only [List.map_cons,List.sum_cons];have h1:=h p (by simp);have h2:=ih fun p hp=>h p (by simp [hp]);omega
theorem ze4 {zs:List Int} {D':Dk} {fc':Nat -> Fl} {φ:Nat -> Option Nat} {l2:List (ByteArray × Nat)} {bs:List Bool} (h:Qt n q A c X) (hst:X.D.steps=[]) (hla:X.D.lasting=X.D.files) (hc:CrashR zs X.D X.fc D' fc' φ l2 bs) :
  Qt n q A c ⟨D',fc'⟩ /\ Fau D' /\ D'.fe=0 /\ pot ⟨D',fc'⟩ <= 2 * (n:Int):=by
 obtain ⟨p2,-,-,-,inj,all,eq,fcc⟩:=hc;rw [hst,show replay bs [] l2=l2 by cases bs <;> rfl] at eq fcc;rw [hla] at p2;have hf:D'.files=l2.map (mv φ):=by rw [eq];rfl
 have hln:D'.files.length=X.D.files.length:=by rw [hf,List.length_map,p2.length_eq]
 have hrf:∀ p ∈ l2,∃ z,φ p.2=some z:=fun p hp=>Option.ne_none_iff_exists'.1 (all p.2 (.inl ⟨p,p2.mem_iff.1 hp,rfl⟩));have hkey:(D'.files.map Prod.fst).Perm (X.D.files.map Prod.fst):=by
  rw [hf,List.map_map];exact p2.map Prod.fst
 refine ⟨⟨⟨by show D'.files.length <= n;rw [hln];exact h.bd.nf,?_,hkey.nodup_iff.2 h.bd.key,?_⟩,?_,?_⟩,?_,?_,?_⟩
 ·refine Nat.le_trans ?_ h.bd.nt;show tot D'.files fc' <= _;rw [hf,<- za2 p2 X.fc];unfold tot;rw [List.map_map];refine sum_le fun p hp=>?_;obtain ⟨z,h1,h2,h3⟩:=fcc p hp;show (fc' ((φ p.2).getD 0)).b.length <= _;rw [h3,List.length_take];omega
 ·show (D'.files.map Prod.snd).Nodup;have hb:=(p2.map Prod.snd).nodup_iff.2 h.bd.blk;rw [hf,List.map_map];unfold List.Nodup at hb ⊢;rw [List.pairwise_map] at hb ⊢;refine hb.imp_of_mem fun {a b} ha hb' hne e=>hne ?_;obtain ⟨z,hz⟩:=hrf a ha;obtain ⟨z',hz'⟩:=hrf b hb';have e:(φ a.2).getD 0=(φ b.2).getD 0:=e;rw [hz,hz'] at e;have e:z=z':=e;subst e;exact inj _ _ _ hz hz'
 ·intro t b hb;have h1:t ∈ D'.files.map Prod.fst:=List.mem_map.2 ⟨_,zq hb,rfl⟩;obtain ⟨b',hb'⟩:=z1h (hkey.mem_iff.1 h1);exact h.al t b' hb'
 ·rw [<- h.cap];show D'.cap=_;rw [eq];rfl
 ·exact ⟨by rw [eq];rfl,by rw [eq];show (-1:Int) < 0;decide⟩
 ·rw [eq];rfl
 ·unfold pot;show D'.changes + 2 * (D'.files.length:Int) <= _;rw [hln,show D'.changes=0 by rw [eq];rfl];have:=h.bd.nf;omega
structure KA (L:Lg) (X:Ds) (rs:List (List Nat)) (du z n q K:Nat):Prop where
 ex:∃ g,GS sa L X g n q K 9999 /\ (X.fc g.b).lasts=z /\ g.sn=none /\ g.cl=[] /\ g.m=1 /\ g.rs=rs /\ g.du=du
 fe:X.D.fe=0
 st:X.D.steps=[]
 la:X.D.lasting=X.D.files
 nms:∀ t b,X.dir t=some b -> t=manf sa \/ t=sgf sa 1
 seg:L.segment=1
 most:L.most=99
variable {rs:List (List Nat)} {du z:Nat} {L:Lg}
theorem z92 {g:Sh} (h:g.cl=[]):g.closed=[]:=by unfold Sh.closed;rw [h];rfl
theorem ka_new (hr:openR sa 99 ⟨newD 9999,fun _=>⟨[],0⟩⟩ e L Y):e=0 /\ KA L Y [] 0 0 2 24 1:=by
 obtain ⟨h1,h2,h3,h4,h5,g,h6,h7,h8⟩:=z9e z1y z1x (zdt 9999) (zb7 9999) rfl (zds sa 9999) (by decide) (by decide) rfl hr;have e1:=h6.li.segs;have e2:=h6.li.size;have e3:=h6.li.recs;have e4:=h6.li.seg;rw [h2] at e1 e2 e3 e4;have c0:g.cl=[]:=by
  have:(1:Nat)=g.cl.length + 1:=e1;cases hc:g.cl with
  | nil=>rfl
  | cons a l=>rw [hc] at this;simp at this
 have e3:[]=g.closed ++ g.rs:=e3;rw [z92 c0] at e3;have r0:g.rs=[]:=e3.symm;have sh:=h6.li.shape;have d0:=sh.lastd;have l0:=sh.lastl.2;have q0:(0:Nat)=g.q:=e2;rw [r0] at d0;refine ⟨h1,⟨⟨g,h6,by omega,h7,c0,e4.symm,r0,Nat.le_zero.1 d0⟩,h3,h4,h5,fun t b hb=>?_,by rw [h2],by rw [h2];rfl⟩⟩;rcases (h8 t).2 ⟨b,hb⟩ with h | h | ⟨-,b',h⟩
 ·exact .inl h
 ·exact .inr h
 ·exact absurd (show (none:Option Nat)=some b' from h) nofun
theorem KA.lrecs (h:KA L X rs du z n q K):L.recs=rs:=by
 obtain ⟨g,h1,-,-,h4,-,h6,-⟩:=h.ex;rw [h1.li.recs,z92 h4,h6];rfl
theorem KA.lsize (h:KA L X rs du z n q K):L.size=(enc rs).length:=by
 obtain ⟨g,h1,-,-,h4,-,h6,-⟩:=h.ex;rw [h1.li.size,h1.li.full,h6]
theorem KA.lsegs (h:KA L X rs du z n q K):L.segments=1:=by
 obtain ⟨g,h1,-,-,h4,-,h6,-⟩:=h.ex;rw [h1.li.segs,h4];rfl
theorem zdi (h:KA L X rs du z n q K) (hx:Recs [x]) (h64:n < 64) (hc:((q + (8 + x.length):Nat):Int) <= 9999) (hK:K < mxn) (hsz:(enc rs).length + (8 + x.length) <= 99) (hr:appR L x X e L' Y) :
  e=0 /\ KA L' Y (rs ++ [x]) du z (n + 1) (q + (8 + x.length)) (K + 1):=by
 have hls:=h.lsize;obtain ⟨⟨g,h1,h2,h3,h4,h5,h6,h7⟩,fe,st,la,nms,seg,most⟩:=h;obtain ⟨hcalm,hcs⟩:=zdf z1y z1x h1 hx h64 hc hK hr;obtain ⟨e0,fe'⟩:=hcalm fe;subst e0;rcases hcs with ⟨-,-,-,-,g',hg',-⟩ | ⟨h0,-⟩
 ·obtain ⟨rfl,sm,hli,hlast⟩:=zcw h1.li hx (by rw [hls,most];exact hsz) hr;exact ⟨rfl,⟨⟨_,⟨hli,hg'.fau,hg'.fe,hg'.qt⟩,by rw [<- h2];exact hlast,h3,h4,h5,by show g.rs ++ [x]=_;rw [h6],h7⟩,fe',by rw [sm.steps];exact st,by rw [sm.lasting,sm.files];exact la,fun t b hb=>nms t b (by rw [<- sm.dir];exact hb),seg,most⟩⟩
 ·exact absurd rfl h0
theorem ka_syn (h:KA L X rs du z n q K) (hr:synR L X e L' Y):e=0 /\ KA L' Y rs rs.length (enc rs).length n q K:=by
 obtain ⟨⟨g,h1,h2,h3,h4,h5,h6,h7⟩,fe,st,la,nms,seg,most⟩:=h;obtain ⟨hcalm,hcs⟩:=zdg z1y z1x h1 hr;obtain ⟨e0,fe'⟩:=hcalm fe;subst e0;have sm:Sm X Y:=by
  rcases hr with ⟨-,-,-,rfl⟩ | ⟨-,hr,-⟩
  ·exact Sm.refl _
  ·exact (z0e hr).1
 rcases hcs with ⟨-,rfl,hg⟩ | ⟨h0,-⟩
 ·have hl:=hg.li.shape.lastl;have hq:g.q=(enc g.rs).length:=h1.li.full;refine ⟨rfl,⟨⟨_,hg,?_,h3,h4,h5,h6,by show g.rs.length=_;rw [h6]⟩,fe',by rw [sm.steps];exact st,by rw [sm.lasting,sm.files];exact la,fun t b hb=>nms t b (by rw [<- sm.dir];exact hb),seg,most⟩⟩;have l1:(enc (g.rs.take g.rs.length)).length <= (Y.fc g.b).lasts:=hl.1;have l2:(Y.fc g.b).lasts <= g.q:=hl.2;rw [List.take_length] at l1;show (Y.fc g.b).lasts=_;rw [<- h6];omega
 ·exact absurd rfl h0
theorem zf5 {D':Dk} {fc':Nat -> Fl} {φ:Nat -> Option Nat} {l2:List (ByteArray × Nat)} {bs:List Bool} (h:KA L X [[120],[121]] 1 9 n q K) (hc:CrashR [3] X.D X.fc D' fc' φ l2 bs) :
  In sa ⟨D',fc'⟩ KP /\ Qt n q (AN sa K) 9999 ⟨D',fc'⟩ /\ Fau D' /\ D'.fe=0 /\ pot ⟨D',fc'⟩ <= 2 * (n:Int):=by
 obtain ⟨⟨g,h1,h2,h3,h4,h5,h6,h7⟩,fe,st,la,nms,seg,most⟩:=h;obtain ⟨v,hv⟩:=zf7 h1.li.inn st la h1.qt.bd.key nms h5 h6 (by rw [h1.li.full,h6];simp [enc,zv]) h2 hc;refine ⟨hv.mono fun f hf=>?_,ze4 h1.qt st la hc⟩;subst hf;refine ⟨h3,by rw [z3o];exact z92 h4,h5,h7,by show g.rs.take 1=_;rw [h6];rfl,Nat.le_refl _⟩
theorem zh7 (hi:In sa X KP) (hF:Fau X.D) (hfe:X.D.fe=0) (hq:Qt n q (AN sa K) 9999 X) (hr:openR sa 99 X e L Y) :
  e=0 /\ Y.D.fe=0 /\ L.recs=[[120]] /\ L.segment=1 /\ L.most=99 /\ ∃ g,GS sa L Y g n q K 9999:=by
 obtain ⟨hcalm,h,j,h1,h2,h3,h4,h5,h6,h7⟩:=zaw z1y z1x hi zf9 hF (by rw [hfe];decide) hq hr;obtain ⟨e0,fe'⟩:=hcalm hfe;obtain ⟨g1,g2,g3⟩:=h7 e0;obtain ⟨k1,k2⟩:=kp_one h1 h3 h4 h6;refine ⟨e0,fe',?_,?_,g3,_,g1⟩
 ·have:L.recs=h.closed ++ h.rs.take j:=g1.li.recs;rw [this,h1.2.1,k1];rfl
 ·have:L.segment=h.m:=g1.li.seg;rw [this,h1.2.2.1]
theorem zh8 (h:GS sa L X g n q K 9999) (hfe:X.D.fe=0) (hx:Recs [x]) (h64:n + 2 < 64) (hc:((q + (8 + x.length) + 24:Nat):Int) <= 9999) (hK:K + 2 <= mxn) (hK2:K + 1 < mxn) (hr:turnR L x X e L' Y) :
  e=0 /\ Y.D.fe=0 /\ L'.recs=[] /\ L'.size=0 /\ L'.segments=1 /\ ∃ g',GS sa L' Y g' (n + 3) (q + (8 + x.length) + 24) (K + 2) 9999 /\ g'.sn=some x:=by
 obtain ⟨hcalm,hcs⟩:=zh2 z1y z1x h hx h64 hc hK hK2 hr;obtain ⟨e0,fe'⟩:=hcalm hfe;rcases hcs with ⟨-,s,n',bm,bs,b,rfl,-,hg⟩ | ⟨h0,-⟩
 ·exact ⟨e0,fe',rfl,rfl,rfl,_,hg,rfl⟩
 ·exact absurd e0 h0
theorem kb_app (h:GS sa L X g n q K 9999) (hfe:X.D.fe=0) (hx:Recs [x]) (h64:n < 64) (hc:((q + (8 + x.length):Nat):Int) <= 9999) (hK:K < mxn) (hr:appR L x X e L' Y) :
  e=0 /\ Y.D.fe=0 /\ L'.recs=L.recs ++ [x] /\ ∃ g',GS sa L' Y g' (n + 1) (q + (8 + x.length)) (K + 1) 9999 /\ g'.sn=g.sn:=by
 obtain ⟨hcalm,hcs⟩:=zdf z1y z1x h hx h64 hc hK hr;obtain ⟨e0,fe'⟩:=hcalm hfe;rcases hcs with ⟨-,-,h1,-,g',h2,h3,-⟩ | ⟨h0,-⟩
 ·exact ⟨e0,fe',h1,g',h2,h3⟩
 ·exact absurd e0 h0
theorem kb_syn (h:GS sa L X g n q K 9999) (hfe:X.D.fe=0) (hsn:g.sn=some [115]) (hrs:L.recs=[[122]]) (hr:synR L X e L' Y) :
  e=0 /\ In sa Y KQ /\ Fau Y.D /\ Y.D.fe=0 /\ Qt n q (AN sa K) 9999 Y:=by
 obtain ⟨hcalm,hcs⟩:=zdg z1y z1x h hr;obtain ⟨e0,fe'⟩:=hcalm hfe;rcases hcs with ⟨-,rfl,hg⟩ | ⟨h0,-⟩
 ·refine ⟨e0,hg.li.inn.mono fun f hf=>?_,hg.fau,fe',hg.qt⟩;subst hf;exact ⟨hsn,by have:=h.li.recs;rw [hrs] at this;exact this.symm,rfl⟩
 ·exact absurd e0 h0
theorem zh9 (hi:In sa X KQ) (hF:Fau X.D) (hfe:X.D.fe=0) (hq:Qt n q (AN sa K) 9999 X) (hr:openR sa 99 X e L Y) :
  e=0 /\ L.recs=[[122]] /\ L.has=true /\ L.snap=[115]:=by
 obtain ⟨hcalm,h,j,h1,h2,h3,h4,h5,h6,h7⟩:=zaw z1y z1x hi z9g hF (by rw [hfe];decide) hq hr;obtain ⟨e0,fe'⟩:=hcalm hfe;obtain ⟨g1,g2,g3⟩:=h7 e0;obtain ⟨k1,k2,k3⟩:=z9g h j h1 h3 h4 h6;refine ⟨e0,?_,?_⟩
 ·have:L.recs=h.closed ++ h.rs.take j:=g1.li.recs;rw [this];exact k2
 ·
  rcases g1.li.snap with ⟨h8,-⟩ | ⟨x,h8,h9,h10⟩
  ·have h8:h.sn=none:=h8;rw [h1.1] at h8;cases h8
  ·have h8:h.sn=some x:=h8;rw [h1.1] at h8;cases h8;exact ⟨h9,h10⟩
end Go.Log
end
section
namespace Go.Log
open Go.Vfs
variable {nm:ByteArray} {L L':Lg} {X Y Z:Ds} {e:Int} {x:List Nat} {m j k:Nat} {s t:ByteArray}
def nz (l:List Stp):Nat:=(l.filter fun s=>decide (s.act=0)).length
structure Wt (m j:Nat) (X:Ds):Prop where
 f:X.D.files.length <= m
 l:X.D.lasting.length + nz X.D.steps <= m
 s:X.D.steps.length <= j
theorem Wt.mono {m' j':Nat} (h:Wt m j X) (h1:m <= m') (h2:j <= j'):Wt m' j' X:=⟨Nat.le_trans h.f h1,Nat.le_trans h.l h1,Nat.le_trans h.s h2⟩
theorem Wt.sm (h:Wt m j X) (hs:Sm X Y):Wt m j Y:=⟨by rw [hs.files];exact h.f,by rw [hs.lasting,hs.steps];exact h.l,by rw [hs.steps];exact h.s⟩
theorem Wt.dn {l:List (ByteArray × Nat)} {st:Stp} (h:Wt m j X) (hd:Dn X Y l st) (hl:l.length <= m + k) (h0:st.act=0 -> 1 <= k):Wt (m + k) (j + 1) Y:=by
 refine ⟨by rw [hd.files];exact hl,?_,by rw [hd.steps,List.length_append];have:=h.s;simp;omega⟩;rw [hd.lasting,hd.steps];have:=h.l;unfold nz at this ⊢;rw [List.filter_append,List.length_append];by_cases ha:st.act=0
 ·have:=h0 ha;simp [ha];omega
 ·simp [ha];omega
def Inc (o:Op) (k c:Nat):Prop:=∀ {m j:Nat} {X:Ds} {e:Int} {Y:Ds},Wt m j X -> o X e Y -> Wt (m + k) (j + c) Y
theorem z4u (s:ByteArray):Inc (mkO s) 1 1:=fun h hr=>by
 rcases z0g hr with ⟨-,h1,-⟩ | ⟨-,-,-,b,-,hd,-⟩
 ·exact (h.sm h1).mono (by omega) (by omega)
 ·exact h.dn hd (by have:=h.f;simp;omega) (fun _=>Nat.le_refl _)
theorem z6m (s:ByteArray) (b:List Nat):Inc (apO s b) 0 0:=fun h hr=>h.sm (z0n hr).1
theorem z3a (s:ByteArray):Inc (syO s) 0 0:=fun h hr=>h.sm (z0e hr).1
theorem inc_cu (s:ByteArray) (n:Nat):Inc (cuO s n) 0 0:=fun h hr=>h.sm (z2a hr).1
theorem z6n (f:Int):Inc (erO f) 0 0:=fun h hr=>by obtain ⟨-,rfl⟩:=hr;exact h
theorem z9f (s:ByteArray):Inc (rmO s) 0 1:=fun h hr=>by
 obtain ⟨-,⟨-,h1,-⟩ | ⟨-,b,-,hd⟩⟩:=z1j hr
 ·exact (h.sm h1).mono (by omega) (by omega)
 ·exact h.dn hd (Nat.le_trans (by unfold fdel;exact List.length_filter_le _ _) h.f) (fun e=>by cases e)
theorem zh4 (s:ByteArray):Inc (rmnO s) 0 1:=fun h hr=>by obtain ⟨e1,hr,-⟩:=hr;exact z9f s h hr
theorem inc_rn (s t:ByteArray):Inc (rnO s t) 0 1:=fun h hr=>by
 obtain ⟨-,⟨-,h1⟩ | ⟨-,b,hb,hd⟩⟩:=z1n hr
 ·exact (h.sm h1).mono (by omega) (by omega)
 ·exact h.dn hd (Nat.le_trans (z3y hb t) h.f) (fun e=>by cases e)
theorem z4v:Inc sdO 0 0:=fun h hr=>by
 obtain ⟨-,⟨-,h1⟩ | ⟨-,h1,h2,h3,-⟩⟩:=z0h hr
 ·exact h.sm h1
 ·exact ⟨by rw [h1];exact h.f,by rw [h2,h3];exact h.f,by rw [h3];exact Nat.zero_le _⟩
theorem z2c:∀ {l:List (Op × Nat × Nat)},(∀ p ∈ l,Inc p.1 p.2.1 p.2.2) -> Inc (askO (l.map (·.1))) (l.map (·.2.1)).sum (l.map (·.2.2)).sum
 | [],_=>fun h hr=>by obtain ⟨-,rfl⟩:=hr;exact h
 | p :: l,hp=>fun h hr=>by
  simp only [List.map_cons,List.sum_cons];rcases zh (o:=p.1) (l:=l.map fun (q:Op × Nat × Nat)=>q.1) hr with ⟨-,h1⟩ | ⟨Z,h1,h2⟩
  ·exact (hp p (by simp) h h1).mono (by omega) (by omega)
  ·exact (z2c (l:=l) (fun q hq=>hp q (by simp [hq])) (hp p (by simp) h h1) h2).mono (by omega) (by omega)
theorem z7l (s:ByteArray) (b:List Nat):Inc (putO s b) 1 1:=z2c (l:=[(mkO s,1,1),(apO s (recd b),0,0),(syO s,0,0)]) (by
 intro p hp;simp only [List.mem_cons,List.not_mem_nil,or_false] at hp;rcases hp with rfl | rfl | rfl
 ·exact z4u s
 ·exact z6m s _
 ·exact z3a s)
theorem z7k (nm:ByteArray) (a b:Nat):Inc (manO nm a b) 1 3:=z2c (l:=[(rmnO (newf nm),0,1),(putO (newf nm) (mrec a b),1,1),(sdO,0,0),(rnO (newf nm) (manf nm),0,1),(sdO,0,0)]) (by
 intro p hp;simp only [List.mem_cons,List.not_mem_nil,or_false] at hp;rcases hp with rfl | rfl | rfl | rfl | rfl
 ·exact zh4 _
 ·exact z7l _ _
 ·exact z4v
 ·exact inc_rn _ _
 ·exact z4v)
theorem za5:∀ {l:List ByteArray},Inc (askO (l.map rmO)) 0 l.length
 | []=>fun h hr=>by obtain ⟨-,rfl⟩:=hr;exact h
 | t :: l=>fun h hr=>by
  rcases zh (o:=rmO t) (l:=l.map rmO) hr with ⟨-,h1⟩ | ⟨Z,h1,h2⟩
  ·exact (z9f t h h1).mono (by omega) (by simp)
  ·exact (za5 (l:=l) (z9f t h h1) h2).mono (by omega) (by simp;omega)
theorem wt_app (h:Wt m j X) (hr:appR L x X e L' Y):Wt (m + 1) (j + 1) Y:=by
 rcases hr with ⟨-,-,-,rfl⟩ | ⟨-,e1,Z,h1,⟨-,-,-,rfl⟩ | ⟨-,-,-,-,rfl⟩ | ⟨-,-,hr,-⟩⟩
 ·exact h.mono (by omega) (by omega)
 ·exact (z6m _ _ h h1).mono (by omega) (by omega)
 ·exact (z6m _ _ h h1).mono (by omega) (by omega)
 ·
  exact z2c (l:=[(syO _,0,0),(erO _,0,0),(mkO _,1,1),(sdO,0,0)]) (by
   intro p hp;simp only [List.mem_cons,List.not_mem_nil,or_false] at hp;rcases hp with rfl | rfl | rfl | rfl
   ·exact z3a _
   ·exact z6n _
   ·exact z4u _
   ·exact z4v) (z6m _ _ h h1) hr
theorem wt_syn (h:Wt m j X) (hr:synR L X e L' Y):Wt m j Y:=by
 rcases hr with ⟨-,-,-,rfl⟩ | ⟨-,h1,-⟩
 ·exact h
 ·exact z3a _ h h1
theorem zh5 (nm:ByteArray) (a b:Nat) (h:Wt m j X) (hr:sweepO nm a b X e Y):Wt m (j + m) Y:=by
 obtain ⟨ns,hp,hw⟩:=hr;refine (za5 h hw).mono (by omega) ?_;have h1:(ns.filter (swept nm a b)).length <= ns.length:=List.length_filter_le _ _;have h2:=hp.length_eq;rw [List.length_map] at h2;have:=h.f;omega
theorem zio (h:Wt m j X) (hr:turnR L x X e L' Y):Wt (m + 3) (j + 8 + m) Y:=by
 rcases hr with ⟨-,-,-,rfl⟩ | ⟨-,h1,-⟩
 ·exact h.mono (by omega) (by omega)
 ·
  rcases zh h1 with ⟨-,h2⟩ | ⟨Z1,h2,h1⟩
  ·exact (z3a _ h h2).mono (by omega) (by omega)
  have g1:=z3a _ h h2;rcases zh h1 with ⟨-,h3⟩ | ⟨Z2,h3,h1⟩
  ·exact (z6n _ g1 h3).mono (by omega) (by omega)
  have g2:=z6n _ g1 h3;rcases zh h1 with ⟨-,h4⟩ | ⟨Z3,h4,h1⟩
  ·exact (z7l _ _ g2 h4).mono (by omega) (by omega)
  have g3:=z7l _ _ g2 h4;rcases zh h1 with ⟨-,h5⟩ | ⟨Z4,h5,h1⟩
  ·exact (z4u _ g3 h5).mono (by omega) (by omega)
  have g4:=z4u _ g3 h5;rcases zh h1 with ⟨-,h6⟩ | ⟨Z5,h6,h1⟩
  ·exact (z7k _ _ _ g4 h6).mono (by omega) (by omega)
  have g5:=z7k _ _ _ g4 h6;exact (zh5 _ _ _ g5 (z07 h1)).mono (by omega) (by omega)
theorem zbv {most:Nat} (h:Wt m j X) (hr:openR nm most X e L Y):Wt (m + 2) (j + 4) Y:=by
 rcases hr with ⟨-,hr,-⟩ | ⟨b,-,-,-,rfl⟩ | ⟨b,s,n,r,-,-,-,⟨-,-,rfl⟩ | ⟨L1,en,-,hr,-⟩⟩
 ·
  exact z2c (l:=[(erO _,0,0),(mkO _,1,1),(manO _ _ _,1,3)]) (by
   intro p hp;simp only [List.mem_cons,List.not_mem_nil,or_false] at hp;rcases hp with rfl | rfl | rfl
   ·exact z6n _
   ·exact z4u _
   ·exact z7k _ _ _) h hr
 ·exact h.mono (by omega) (by omega)
 ·exact h.mono (by omega) (by omega)
 ·
  refine (?_:Wt m j Y).mono (by omega) (by omega);split at hr
  ·
   exact z2c (l:=[(nop,0,0),(syO _,0,0),(sdO,0,0)]) (by
    intro p hp;simp only [List.mem_cons,List.not_mem_nil,or_false] at hp;rcases hp with rfl | rfl | rfl
    ·exact fun h hr=>by obtain ⟨-,rfl⟩:=hr;exact h
    ·exact z3a _
    ·exact z4v) h hr
  ·
   exact z2c (l:=[(cuO _ _,0,0),(syO _,0,0),(sdO,0,0)]) (by
    intro p hp;simp only [List.mem_cons,List.not_mem_nil,or_false] at hp;rcases hp with rfl | rfl | rfl
    ·exact inc_cu _ _
    ·exact z3a _
    ·exact z4v) h hr
theorem zdc (l:List (ByteArray × Nat)) (s:ByteArray) (b:Nat):(fput l s b).length <= l.length + 1:=by
 unfold fput;split
 ·rw [List.length_map];omega
 ·simp
theorem zcq (l:List (ByteArray × Nat)) (s:Stp):(againL l s).length <= l.length + if s.act=0 then 1 else 0:=by
 unfold againL;split
 ·
  split
  ·omega
  ·exact zdc _ _ _
 ·
  split
  ·
   unfold ren1;split
   ·exact Nat.le_refl _
   ·rename_i b hb;exact z3y hb _
  ·exact (List.filter_sublist (p:=fun p=>decide (p.1 ≠ s.name)) (l:=l)).length_le
theorem z1w:∀ (bs:List Bool) (ss:List Stp) (l:List (ByteArray × Nat)),(replay bs ss l).length <= l.length + nz ss
 | [],ss,l=>by rw [z0p];omega
 | _ :: _,[],l=>Nat.le_add_right _ _
 | b :: bs,s :: ss,l=>by
  show (replay bs ss (if b then againL l s else l)).length <= _;have h1:=z1w bs ss (if b then againL l s else l);have h2:=zcq l s;have h3:nz (s :: ss)=(if s.act=0 then 1 else 0) + nz ss:=by
   unfold nz;by_cases h:s.act=0 <;> simp [h]
   omega
  rw [h3];cases b
  ·simp only [Bool.false_eq_true,if_false] at h1 ⊢;omega
  ·simp only [if_true] at h1 ⊢;omega
theorem zg5 {zs:List Int} {D':Dk} {fc':Nat -> Fl} {φ:Nat -> Option Nat} {l2:List (ByteArray × Nat)} {bs:List Bool} (h:Wt m j X) (hc:CrashR zs X.D X.fc D' fc' φ l2 bs):Wt m 0 ⟨D',fc'⟩ /\ pot ⟨D',fc'⟩ <= 2 * (m:Int) /\ Fau D' /\ D'.fe=0:=by
 have h1:D'.files.length <= m:=by
  rw [hc.eq];show ((replay bs X.D.steps l2).map (mv φ)).length <= m;rw [List.length_map];have:=z1w bs X.D.steps l2;have:=hc.p2.length_eq;have:=h.l;omega
 have h2:D'.lasting=D'.files:=by rw [hc.eq];rfl
 have h3:D'.steps=[]:=by rw [hc.eq];rfl
 have h4:D'.changes=0:=by rw [hc.eq];rfl
 refine ⟨⟨h1,?_,?_⟩,?_,⟨by rw [hc.eq];rfl,by rw [hc.eq];show (-1:Int) < 0;decide⟩,by rw [hc.eq];rfl⟩
 ·show D'.lasting.length + nz D'.steps <= m;rw [h2,h3];exact h1
 ·show D'.steps.length <= 0;rw [h3];exact Nat.le_refl _
 ·unfold pot;show D'.changes + 2 * (D'.files.length:Int) <= _;rw [h4];omega
theorem new_wt (c:Int):Wt 0 0 ⟨Go.Proofs.YtpjomdmjohjheaaGreatDoor.newD c,fun _=>⟨[],0⟩⟩:=⟨Nat.le_refl _,Nat.le_refl _,Nat.le_refl _⟩
end Go.Log
end
section
namespace Go.Proofs.YtpjomdmjohjheaaGreatDoor
open Go.RowKit Go.Lk Go.Vfs Go.Log
def OpE (w:World) (l d:Nat) (Fd Rd FL RL:Nat -> Prop) (L:Lg) (X:Ds) (k:Int) (o:Log.Op) (e:Ending) (w':World):Prop :=
 ∃ er X' L',e=.returned (.int .i64 er) /\ LNow w w' l d Fd Rd FL RL L' X' /\ o X er X' /\ (er=0 -> L'=L) /\ (L'=L \/ L'={ L with bad:=true }) /\ pot X' <= pot X + k
def OpC (l d:Nat) (L:Lg) (k:Int) (f:Fv) (o:Log.Op) (P:World -> (Nat -> Prop) -> (Nat -> Prop) -> Prop):Prop :=
 ∀ w Fd Rd FL RL X,LgAt w l d Fd Rd FL RL L X -> Vars w -> P w Fd FL -> pot X + k <= 999999 -> Calls Tryz.prog f.g (f.bnd ++ f.caps) w (OpE w l d Fd Rd FL RL L X k o)
theorem zch {P:World -> (Nat -> Prop) -> (Nat -> Prop) -> Prop} (hS:Stable P) {w w':World} {Fd FL Fd' FL':Nat -> Prop} (h:P w Fd FL) (hk:Keeps (fun k=>Fd k \/ FL k) w w') (h1:∀ k,Fd' k -> Fd k \/ w.heap.size <= k) (h2:∀ k,FL' k -> FL k \/ w.heap.size <= k):P w' Fd' FL' :=
 hS w w' Fd FL Fd' FL' h hk (fun k hk hn e=>(h1 k e).elim hn (fun e=>by omega)) (fun k hk hn e=>(h2 k e).elim hn (fun e=>by omega))
def AskI (w:World) (l d:Nat) (Fd Rd FL RL:Nat -> Prop) (L:Lg) (X:Ds) (P:World -> (Nat -> Prop) -> (Nat -> Prop) -> Prop) (os:List Log.Op) (ks:List Int) (i:Nat) (w':World):Prop :=
 ∃ X' Fd' Rd' FL' RL',LgAt w' l d Fd' Rd' FL' RL' L X' /\ (∀ k,Fd' k -> Fd k \/ w.heap.size <= k) /\ (∀ k,Rd' k -> Rd k \/ w.heap.size <= k) /\ (∀ k,FL' k -> FL k \/ w.heap.size <= k) /\ (∀ k,RL' k -> RL k \/ w.heap.size <= k) /\ Keeps (fun k=>Fd k \/ FL k) w w' /\
  Vars w' /\ P w' Fd' FL' /\ askO (os.take i) X 0 X' /\ pot X' <= pot X + (ks.take i).sum
theorem z3t:∀ (l:List Int) (i:Nat),(∀ x ∈ l,0 <= x) -> (l.take i).sum <= l.sum
 | [],i,_=>by simp
 | x :: l,0,h=>by
  have h1:=z3t l 0 (fun y hy=>h y (by simp [hy]));have h2:=h x (by simp);simp at h1 ⊢;omega
 | x :: l,i + 1,h=>by
  have h1:=z3t l i (fun y hy=>h y (by simp [hy]));simp only [List.take_succ_cons,List.sum_cons];omega
theorem zgl (l d:Nat) (Fd Rd FL RL:Nat -> Prop) (L:Lg) (X:Ds) (P:World -> (Nat -> Prop) -> (Nat -> Prop) -> Prop) (hS:Stable P) (a:Option Addr) (n c:Nat) (fs:List Fv) (os:List Log.Op) (ks:List Int) (w:World)
  (h:LgAt w l d Fd Rd FL RL L X) (hv:Vars w) (hP:P w Fd FL) (hn:fs.length=n) (ho:os.length=n) (hk:ks.length=n) (hk0:∀ x ∈ ks,0 <= x) (hnc:n <= c) (hc:c <= 1000) (hpot:pot X + ks.sum <= 999999)
  (hrow:Has w a (fs.map Fv.v)) (hro:∀ b off,a=some ⟨b,off,none⟩ -> ¬ Fd b /\ ¬ FL b)
  (hg:∀ f ∈ fs,∀ args w,(callFunc f.g args).run Tryz.prog w=.ok (.enter f.g args) w)
  (hC:∀ (i:Nat) (f:Fv) (o:Log.Op) (k:Int),fs[i]?=some f -> os[i]?=some o -> ks[i]?=some k -> OpC l d L k f o P) :
  Calls Tryz.prog 53 #[.pointer (some ⟨l,0,none⟩),.slice a n c] w fun e w'=>∃ er X' L',e=.returned (.int .i64 er) /\ LNow w w' l d Fd Rd FL RL L' X' /\ askO os X er X' /\ L'=(if er=0 then L else { L with bad:=true }) /\ pot X' <= pot X + ks.sum:=by
 refine (ask_at l a n c fs (AskI w l d Fd Rd FL RL L X P os ks) (fun er w'=>∃ X' L',LNow w w' l d Fd Rd FL RL L' X' /\ askO os X er X' /\ L'=(if er=0 then L else { L with bad:=true }) /\ pot X' <= pot X + ks.sum) w hn hnc hc hg ?_ ?_ ?_ ?_).mono ?_
 ·rintro i w' hi ⟨X',Fd',Rd',FL',RL',h1,h2,h3,h4,h5,h6,-⟩;exact hrow.keeps h6 (fun b off e _ e2=>e2.elim (hro b off e).1 (hro b off e).2)
 ·exact ⟨X,Fd,Rd,FL,RL,h,fun _ e=>.inl e,fun _ e=>.inl e,fun _ e=>.inl e,fun _ e=>.inl e,Keeps.refl _ _,hv,hP,⟨rfl,rfl⟩,by simp⟩
 ·
  rintro i f w' hf ⟨X',Fd',Rd',FL',RL',h1,h2,h3,h4,h5,h6,h7,h8,h9,h10⟩;have hi:i < n:=by rw [<- hn];exact (List.getElem?_eq_some_iff.1 hf).1
  obtain ⟨o,hoi⟩:∃ o,os[i]?=some o:=⟨_,List.getElem?_eq_getElem (by omega)⟩
  obtain ⟨k,hki⟩:∃ k,ks[i]?=some k:=⟨_,List.getElem?_eq_getElem (by omega)⟩
  have hks:(ks.take (i + 1)).sum=(ks.take i).sum + k:=by
   have hlt:=(List.getElem?_eq_some_iff.1 hki).1;rw [List.take_succ_eq_append_getElem hlt,List.sum_append,(List.getElem?_eq_some_iff.1 hki).2];simp
  have hkl:=z3t ks (i + 1) hk0;have hot:os.take (i + 1)=os.take i ++ [o]:=by
   have hlt:=(List.getElem?_eq_some_iff.1 hoi).1;rw [List.take_succ_eq_append_getElem hlt,(List.getElem?_eq_some_iff.1 hoi).2]
  have hos:os=os.take i ++ o :: os.drop (i + 1):=by
   have hlt:=(List.getElem?_eq_some_iff.1 hoi).1;rw [<- (List.getElem?_eq_some_iff.1 hoi).2,<- List.drop_eq_getElem_cons hlt,List.take_append_drop]
  refine (hC i f o k hf hoi hki w' Fd' Rd' FL' RL' X' h1 h7 h8 (by omega)).mono ?_;rintro e w2 ⟨er,X2,L2,rfl,hnow,hop,hL0,hL,hp⟩;refine ⟨er,rfl,?_⟩;have hv2:=h7.now h1 hnow;obtain ⟨Fd2,Rd2,FL2,RL2,k1,k2,k3,k4,k5,k6⟩:=hnow;have hz:=h6.size;have q2:∀ k,Fd2 k -> Fd k \/ w.heap.size <= k:=fun k e=>(k2 k e).elim (h2 k) (fun e=>.inr (by omega));have q3:∀ k,Rd2 k -> Rd k \/ w.heap.size <= k:=fun k e=>(k3 k e).elim (h3 k) (fun e=>.inr (by omega));have q4:∀ k,FL2 k -> FL k \/ w.heap.size <= k:=fun k e=>(k4 k e).elim (h4 k) (fun e=>.inr (by omega));have q5:∀ k,RL2 k -> RL k \/ w.heap.size <= k:=fun k e=>(k5 k e).elim (h5 k) (fun e=>.inr (by omega));have q6:Keeps (fun k=>Fd k \/ FL k) w w2:=h6.trans k6 (fun j hj e=>e.elim (fun e=>(h2 j e).elim .inl (fun e=>by omega)) (fun e=>(h4 j e).elim .inr (fun e=>by omega)));by_cases he:er=0
  ·refine .inl ⟨he,?_⟩;rw [hL0 he] at k1;subst he;exact ⟨X2,Fd2,Rd2,FL2,RL2,k1,q2,q3,q4,q5,q6,hv2,zch hS h8 k6 k2 k4,by rw [hot];exact z81 h9 hop,by omega⟩
  ·
   refine .inr ⟨he,?_⟩;obtain ⟨sv,lv,hc2⟩:=k1.cells;have hb:=hc2 w2 (Keeps.refl _ _);refine ⟨_,hb,by simp [lcs],fun w3 hs=>?_⟩;have hset:(lcs d sv lv L2).setIfInBounds 11 (.bool true)=lcs d sv lv { L with bad:=true }:=by
    rcases hL with rfl | rfl <;> rfl
   have hg3:LgAt w3 l d Fd2 Rd2 FL2 RL2 { L with bad:=true } X2:=by
    refine k1.setL hb hs hset ?_ ?_ ?_
    ·rcases hL with rfl | rfl <;> rfl
    ·rcases hL with rfl | rfl <;> rfl
    ·exact (h.nums).setBad true
   refine ⟨X2,_,⟨Fd2,Rd2,FL2,RL2,hg3,q2,q3,q4,q5,q6.trans hs.k (fun j hj e=>by
    have:FL2 j:=e ▸ k1.fl
    exact (q4 j this).elim .inr (fun e=>by omega))⟩,by rw [hos];exact z82 h9 hop he,by rw [if_neg he],by omega⟩
 ·rintro w' ⟨X',Fd',Rd',FL',RL',h1,h2,h3,h4,h5,h6,h7,h8,h9,h10⟩;rw [List.take_of_length_le (by omega)] at h9 h10;exact ⟨X',L,⟨Fd',Rd',FL',RL',h1,h2,h3,h4,h5,h6⟩,h9,by rw [if_pos rfl],h10⟩
 ·rintro e w' ⟨er,rfl,X',L',h1,h2,h3,h4⟩;exact ⟨er,X',L',rfl,h1,h2,h3,h4⟩
def OpL (l d:Nat) (L:Lg) (P:World -> (Nat -> Prop) -> (Nat -> Prop) -> Prop):List Fv -> List Log.Op -> List Int -> Prop
 | [],[],[]=>True
 | f :: fs,o :: os,k :: ks=>OpC l d L k f o P /\ (∀ args w,(callFunc f.g args).run Tryz.prog w=.ok (.enter f.g args) w) /\ 0 <= k /\ OpL l d L P fs os ks
 | _,_,_=>False
theorem OpL.len {l d:Nat} {L:Lg} {P:World -> (Nat -> Prop) -> (Nat -> Prop) -> Prop}:∀ {fs:List Fv} {os:List Log.Op} {ks:List Int},OpL l d L P fs os ks -> os.length=fs.length /\ ks.length=fs.length
 | [],[],[],_=>⟨rfl,rfl⟩
 | _ :: _,_ :: _,_ :: _,h=>by have:=OpL.len h.2.2.2;simp [this.1,this.2]
 | [],[],_ :: _,h=>h.elim
 | [],_ :: _,_,h=>h.elim
 | _ :: _,[],_,h=>h.elim
 | _ :: _,_ :: _,[],h=>h.elim
theorem OpL.nn {l d:Nat} {L:Lg} {P:World -> (Nat -> Prop) -> (Nat -> Prop) -> Prop}:∀ {fs:List Fv} {os:List Log.Op} {ks:List Int},OpL l d L P fs os ks -> (∀ x ∈ ks,0 <= x) /\ ∀ f ∈ fs,∀ args w,(callFunc f.g args).run Tryz.prog w=.ok (.enter f.g args) w
 | [],[],[],_=>⟨by simp,by simp⟩
 | _ :: _,_ :: _,_ :: _,h=>by
  have:=OpL.nn h.2.2.2;exact ⟨fun x hx=>(List.mem_cons.1 hx).elim (fun e=>e ▸ h.2.2.1) (this.1 x),fun f hf=>(List.mem_cons.1 hf).elim (fun e=>e ▸ h.2.1) (this.2 f)⟩
 | [],[],_ :: _,h=>h.elim
 | [],_ :: _,_,h=>h.elim
 | _ :: _,[],_,h=>h.elim
 | _ :: _,_ :: _,[],h=>h.elim
theorem OpL.at {l d:Nat} {L:Lg} {P:World -> (Nat -> Prop) -> (Nat -> Prop) -> Prop}:∀ {fs:List Fv} {os:List Log.Op} {ks:List Int},OpL l d L P fs os ks -> ∀ (i:Nat) (f:Fv) (o:Log.Op) (k:Int),fs[i]?=some f -> os[i]?=some o -> ks[i]?=some k -> OpC l d L k f o P
 | [],[],[],_,i,f,o,k,hf,_,_=>by simp at hf
 | _ :: _,_ :: _,_ :: _,h,0,f,o,k,hf,ho,hk=>by simp at hf ho hk;subst hf ho hk;exact h.1
 | _ :: _,_ :: _,_ :: _,h,i + 1,f,o,k,hf,ho,hk=>OpL.at h.2.2.2 i f o k (by simpa using hf) (by simpa using ho) (by simpa using hk)
 | [],[],_ :: _,h,_,_,_,_,_,_,_=>h.elim
 | [],_ :: _,_,h,_,_,_,_,_,_,_=>h.elim
 | _ :: _,[],_,h,_,_,_,_,_,_,_=>h.elim
 | _ :: _,_ :: _,[],h,_,_,_,_,_,_,_=>h.elim
theorem OpC.mono {l d:Nat} {L:Lg} {k:Int} {f:Fv} {o:Log.Op} {P Q:World -> (Nat -> Prop) -> (Nat -> Prop) -> Prop} (h:OpC l d L k f o Q) (hPQ:∀ w a b,P w a b -> Q w a b):OpC l d L k f o P :=
 fun w Fd Rd FL RL X h1 h2 h3 h4=>h w Fd Rd FL RL X h1 h2 (hPQ _ _ _ h3) h4
def AskR (w:World) (l d:Nat) (Fd Rd FL RL:Nat -> Prop) (L:Lg) (X:Ds) (os:List Log.Op) (k:Int) (e:Ending) (w':World):Prop :=
 ∃ er X' L',e=.returned (.int .i64 er) /\ LNow w w' l d Fd Rd FL RL L' X' /\ askO os X er X' /\ L'=(if er=0 then L else { L with bad:=true }) /\ pot X' <= pot X + k
theorem z1a {l d:Nat} {Fd Rd FL RL:Nat -> Prop} {L:Lg} {X:Ds} {P:World -> (Nat -> Prop) -> (Nat -> Prop) -> Prop} (hS:Stable P) {fs:List Fv} {os:List Log.Op} {ks:List Int} {g n:Nat} {w:World} (hL:OpL l d L P fs os ks)
  (h:LgAt w l d Fd Rd FL RL L X) (hv:Vars w) (hP:P w Fd FL) (hn:fs.length=n) (hc:n <= 1000) (hpot:pot X + ks.sum <= 999999) (hrow:Has w (some ⟨g,0,none⟩) (fs.map Fv.v)) (hro:¬ Fd g /\ ¬ FL g) :
  Calls Tryz.prog 53 #[.pointer (some ⟨l,0,none⟩),.slice (some ⟨g,0,none⟩) n n] w (AskR w l d Fd Rd FL RL L X os ks.sum):=by
 have h1:=hL.len;have h2:=hL.nn;exact zgl l d Fd Rd FL RL L X P hS _ n n fs os ks w h hv hP hn (h1.1.trans hn) (h1.2.trans hn) h2.1 (Nat.le_refl _) hc hpot hrow (fun b off e=>by cases e;exact hro) h2.2 hL.at
end Go.Proofs.YtpjomdmjohjheaaGreatDoor
end
section
namespace Go.Proofs.YtpjomdmjohjheaaGreatDoor
open Go.RowKit Go.Lk Go.Vfs Go.Log
theorem LgAt.six {w:World} {l d:Nat} {Fd Rd FL RL:Nat -> Prop} {L:Lg} {X:Ds} (h:LgAt w l d Fd Rd FL RL L X):6 <= w.heap.size:=by
 have h1:=h.ltF l h.fl;have h2:=h.low l (.inr h.fl);omega
theorem z2g {w w1:World} {l d:Nat} {Fd Rd FL RL:Nat -> Prop} {L:Lg} {X:Ds} {k er:Int} {o:Log.Op} {D':Dk} {fc':Nat -> Fl} (h:LgAt w l d Fd Rd FL RL L X) (hn:Now w.drew w1 d Fd Rd D' fc') (ho:o X er ⟨D',fc'⟩) (hp:pot ⟨D',fc'⟩ <= pot X + k) :
  OpE w l d Fd Rd FL RL L X k o (.returned (.int .i64 er)) w1:=by
 have hd:LgAt w.drew l d Fd Rd FL RL L X:=h.nb (Keeps.refl Nb w).drew;obtain ⟨Fd',Rd',FL',RL',h1,h2,h3,h4,h5,h6⟩:=hd.disk_now (Y:=⟨D',fc'⟩) hn (by have:=LgAt.six h;exact this);exact ⟨er,_,L,rfl,⟨Fd',Rd',FL',RL',h1,h2,h3,h4,h5,((Keeps.refl _ w).drew).trans h6 (fun _ _ e=>e)⟩,ho,fun _=>rfl,.inl rfl,hp⟩
def LB (b3 l:Nat):World -> (Nat -> Prop) -> (Nat -> Prop) -> Prop:=Box b3 (.cells #[.pointer (some ⟨l,0,none⟩)] 40 (0,0))
def SB (b4:Nat) (s:ByteArray):World -> (Nat -> Prop) -> (Nat -> Prop) -> Prop:=Box b4 (.cells #[.string s] 9 (0,0))
theorem z0f {X:Ds} {k:Int} (h:pot X + k <= 999999) (hk:0 <= k):X.D.changes < 1000000:=by unfold pot at h;omega
theorem put1_c (l d b3 b4:Nat) (L:Lg) (s:ByteArray) (hs:s.size <= maxLen):OpC l d L 3 ⟨126,#[],#[.pointer (some ⟨b3,0,none⟩),.pointer (some ⟨b4,0,none⟩)]⟩ (mkO s) (fun w a b=>LB b3 l w a b /\ SB b4 s w a b):=by
 rintro w Fd Rd FL RL X h hv ⟨⟨hb3,-,-⟩,⟨hb4,-,-⟩⟩ hp;obtain ⟨sv,lv,hcs⟩:=h.cells;have c1:w.cell? ⟨b3,0,none⟩=some (.pointer (some ⟨l,0,none⟩)):=(cell_of_block hb3).trans rfl;have c2:w.cell? ⟨b4,0,none⟩=some (.string s):=(cell_of_block hb4).trans rfl;have c3:w.cell? ⟨l,0,none⟩=some (.pointer (some ⟨d,0,none⟩)):=(cell_of_block (hcs w (Keeps.refl _ _))).trans rfl;have H:=qq h;have MA:=qq (z5h d s X.D Fd Rd X.fc w.drew (h.disk.nb ((Keeps.refl Nb w).drew)) hs (z0f hp (by omega)));clear h hv hb3 hb4 hcs hp;show Calls Tryz.prog 126 #[.pointer (some ⟨b3,0,none⟩),.pointer (some ⟨b4,0,none⟩)] w _;go_enter Tryz.func126,Tryz.ntmps126;go_wp2
 go_still_tail 5,(by kernel_rfl)
 go_wp2_with fail;refine MA.out.mono ?_;rintro _ w1 ⟨er,D',fc',rfl,hn,hr⟩;have ho:mkO s X er ⟨D',fc'⟩:=⟨w.heap.size,fun b hb=>H.out.disk.ltF b (H.out.disk.file b hb).2,hr⟩
 have F:=qq (z2g (k:=3) H.out hn ho (z6u ho));clear hn hr ho MA;go_wp2;go_ret;exact F.out
theorem put3_c (l d b3 b4:Nat) (L:Lg) (s:ByteArray) (hs:s.size <= maxLen):OpC l d L 1 ⟨130,#[],#[.pointer (some ⟨b3,0,none⟩),.pointer (some ⟨b4,0,none⟩)]⟩ (syO s) (fun w a b=>LB b3 l w a b /\ SB b4 s w a b):=by
 rintro w Fd Rd FL RL X h hv ⟨⟨hb3,-,-⟩,⟨hb4,-,-⟩⟩ hp;obtain ⟨sv,lv,hcs⟩:=h.cells;have c1:w.cell? ⟨b3,0,none⟩=some (.pointer (some ⟨l,0,none⟩)):=(cell_of_block hb3).trans rfl;have c2:w.cell? ⟨b4,0,none⟩=some (.string s):=(cell_of_block hb4).trans rfl;have c3:w.cell? ⟨l,0,none⟩=some (.pointer (some ⟨d,0,none⟩)):=(cell_of_block (hcs w (Keeps.refl _ _))).trans rfl;have H:=qq h;have MA:=qq (z42 d s X.D Fd Rd X.fc w.drew (h.disk.nb ((Keeps.refl Nb w).drew)) hs (z0f hp (by omega)));clear h hv hb3 hb4 hcs hp;show Calls Tryz.prog 130 #[.pointer (some ⟨b3,0,none⟩),.pointer (some ⟨b4,0,none⟩)] w _;go_enter Tryz.func130,Tryz.ntmps130;go_wp2
 go_still_tail 5,(by kernel_rfl)
 go_wp2_with fail;refine MA.out.mono ?_;rintro _ w1 ⟨er,D',fc',rfl,hn,hr⟩;have ho:syO s X er ⟨D',fc'⟩:=hr;have F:=qq (z2g (k:=1) H.out hn ho (z52 ho));clear hn hr ho MA;go_wp2;go_ret;exact F.out
def YB (b7:Nat) (v:Value) (bs:List Nat):World -> (Nat -> Prop) -> (Nat -> Prop) -> Prop:=fun w a b=>Box b7 (.cells #[v] 22 (0,0)) w a b /\ BytesO v bs w a b
theorem z2o (b7:Nat) (v:Value) (bs:List Nat):Stable (YB b7 v bs):=(zu _ _).and (z8t _ _)
theorem zhv (l d b3 b4 b7:Nat) (L:Lg) (s:ByteArray) (ad:Option Addr) (n c:Nat) (bs:List Nat) (hs:s.size <= maxLen):OpC l d L 1 ⟨129,#[],#[.pointer (some ⟨b3,0,none⟩),.pointer (some ⟨b4,0,none⟩),.pointer (some ⟨b7,0,none⟩)]⟩ (apO s bs) (fun w a b=>(LB b3 l w a b /\ SB b4 s w a b) /\ YB b7 (.slice ad n c) bs w a b):=by
 rintro w Fd Rd FL RL X h hv ⟨⟨⟨hb3,-,-⟩,⟨hb4,-,-⟩⟩,⟨hb7,-,-⟩,hby⟩ hp;obtain ⟨sv,lv,hcs⟩:=h.cells;have c1:w.cell? ⟨b3,0,none⟩=some (.pointer (some ⟨l,0,none⟩)):=(cell_of_block hb3).trans rfl;have c2:w.cell? ⟨b4,0,none⟩=some (.string s):=(cell_of_block hb4).trans rfl;have c3:w.cell? ⟨l,0,none⟩=some (.pointer (some ⟨d,0,none⟩)):=(cell_of_block (hcs w (Keeps.refl _ _))).trans rfl;have c4:w.cell? ⟨b7,0,none⟩=some (.slice ad n c):=(cell_of_block hb7).trans rfl;have H:=qq h;have MA:=qq (zcv d s (.slice ad n c) bs X.D Fd Rd (Out w Fd FL) X.fc w.drew (h.disk.nb ((Keeps.refl Nb w).drew)) hs (hby.keeps ((Keeps.refl Nb w).drew) (fun _ _ e=>e)) (fun k hk=>hk.2.1) (z0f hp (by omega)));clear h hv hb3 hb4 hcs hp hb7 hby;show Calls Tryz.prog 129 #[.pointer (some ⟨b3,0,none⟩),.pointer (some ⟨b4,0,none⟩),.pointer (some ⟨b7,0,none⟩)] w _;go_enter Tryz.func129,Tryz.ntmps129;go_wp2
 go_still_tail 6,(by kernel_rfl)
 go_wp2_with fail;refine MA.out.mono ?_;rintro _ w1 ⟨er,D',fc',rfl,hn,hr⟩;have ho:apO s bs X er ⟨D',fc'⟩:=hr;have F:=qq (z2g (k:=1) H.out hn ho (ze3 ho));clear hn hr ho MA;go_wp2;go_ret;exact F.out
theorem zgp (f:Fv) (w:World) (R:Ending -> World -> Prop) (hg:∀ args w,(callFunc f.g args).run Tryz.prog w=.ok (.enter f.g args) w) (h:Calls Tryz.prog f.g (f.bnd ++ f.caps) w fun e w'=>∃ er:Int,e=.returned (.int .i64 er) /\ R e w') :
  Calls Tryz.prog 128 #[.int .i64 0,.func (.func f.g) f.bnd f.caps] w R:=by
 have HC:=qq h;clear h;go_enter Tryz.func128,Tryz.ntmps128;go_wp2_with fail;refine HC.out.mono ?_;rintro _ w1 ⟨er,rfl,hr⟩;have HR:=qq hr;clear hr HC hg;go_wp2;exact HR.out
theorem put2_c (l d b8 b3 b4 b7:Nat) (L:Lg) (s:ByteArray) (ad:Option Addr) (n c:Nat) (bs:List Nat) (hs:s.size <= maxLen):OpC l d L 1 ⟨127,#[],#[.pointer (some ⟨b8,0,none⟩),.pointer (some ⟨b3,0,none⟩),.pointer (some ⟨b4,0,none⟩),.pointer (some ⟨b7,0,none⟩)]⟩ (apO s bs)
  (fun w a b=>((LB b3 l w a b /\ SB b4 s w a b) /\ YB b7 (.slice ad n c) bs w a b) /\ Box b8 (.cells #[.int .i64 0] 24 (0,0)) w a b):=by
 rintro w Fd Rd FL RL X h hv ⟨hP,⟨hb8,-,-⟩⟩ hp;have c1:w.cell? ⟨b8,0,none⟩=some (.int .i64 0):=(cell_of_block hb8).trans rfl
 have CC:=qq (zgp ⟨129,#[],#[.pointer (some ⟨b3,0,none⟩),.pointer (some ⟨b4,0,none⟩),.pointer (some ⟨b7,0,none⟩)]⟩ w (OpE w l d Fd Rd FL RL L X 1 (apO s bs)) (enters_of Tryz.func129 (by kernel_rfl) rfl)
  ((zhv l d b3 b4 b7 L s ad n c bs hs w Fd Rd FL RL X h hv hP hp).mono (fun e w' hE=>by obtain ⟨er,X',L',rfl,hr⟩:=id hE;exact ⟨er,rfl,hE⟩)))
 clear h hv hP hp hb8;show Calls Tryz.prog 127 #[.pointer (some ⟨b8,0,none⟩),.pointer (some ⟨b3,0,none⟩),.pointer (some ⟨b4,0,none⟩),.pointer (some ⟨b7,0,none⟩)] w _;go_enter Tryz.func127,Tryz.ntmps127;go_wp2_with fail;refine CC.out.mono ?_;rintro e w1 hE;obtain ⟨er,X',L',rfl,hr⟩:=id hE;have HR:=qq hE;clear hE hr CC;go_wp2;go_ret;exact HR.out
def PutP (l:Nat) (s:ByteArray) (b3 b4 b7 b8:Nat) (v:Value) (bs:List Nat):World -> (Nat -> Prop) -> (Nat -> Prop) -> Prop :=
 fun w a b=>((LB b3 l w a b /\ SB b4 s w a b) /\ YB b7 v bs w a b) /\ Box b8 (.cells #[.int .i64 0] 24 (0,0)) w a b
theorem zae (l:Nat) (s:ByteArray) (b3 b4 b7 b8:Nat) (v:Value) (bs:List Nat):Stable (PutP l s b3 b4 b7 b8 v bs):=(((zu _ _).and (zu _ _)).and (z2o _ _ _)).and (zu _ _)
def putF (b3 b4 b7 b8:Nat):List Fv:=[⟨126,#[],#[.pointer (some ⟨b3,0,none⟩),.pointer (some ⟨b4,0,none⟩)]⟩,⟨127,#[],#[.pointer (some ⟨b8,0,none⟩),.pointer (some ⟨b3,0,none⟩),.pointer (some ⟨b4,0,none⟩),.pointer (some ⟨b7,0,none⟩)]⟩,⟨130,#[],#[.pointer (some ⟨b3,0,none⟩),.pointer (some ⟨b4,0,none⟩)]⟩]
theorem put_l (l d b3 b4 b7 b8:Nat) (L:Lg) (s:ByteArray) (ad:Option Addr) (n c:Nat) (bs:List Nat) (hs:s.size <= maxLen):OpL l d L (PutP l s b3 b4 b7 b8 (.slice ad n c) bs) (putF b3 b4 b7 b8) [mkO s,apO s bs,syO s] [3,1,1] :=
 ⟨(put1_c l d b3 b4 L s hs).mono (fun _ _ _ h=>h.1.1),enters_of Tryz.func126 (by kernel_rfl) rfl,by omega,put2_c l d b8 b3 b4 b7 L s ad n c bs hs,enters_of Tryz.func127 (by kernel_rfl) rfl,by omega,(put3_c l d b3 b4 L s hs).mono (fun _ _ _ h=>h.1.1),enters_of Tryz.func130 (by kernel_rfl) rfl,by omega,trivial⟩
theorem el138:ElemT Tryz.prog 138 47 1 8 .nilFunc:=⟨by kernel_rfl,by kernel_rfl,rfl,by decide⟩
theorem _root_.Go.Log.LNow.from {w w1 w2:World} {l d:Nat} {Fd Rd FL RL:Nat -> Prop} {L:Lg} {X:Ds} (h:LNow w1 w2 l d Fd Rd FL RL L X) (hk:Keeps Nb w w1):LNow w w2 l d Fd Rd FL RL L X:=by
 obtain ⟨Fd',Rd',FL',RL',h1,h2,h3,h4,h5,h6⟩:=h;have hz:=hk.size;exact ⟨Fd',Rd',FL',RL',h1,fun k e=>(h2 k e).imp id (fun e=>by omega),fun k e=>(h3 k e).imp id (fun e=>by omega),fun k e=>(h4 k e).imp id (fun e=>by omega),fun k e=>(h5 k e).imp id (fun e=>by omega),hk.of_nb.trans h6 (fun _ _ e=>e)⟩
theorem zt {w:World} {l d:Nat} {Fd Rd FL RL:Nat -> Prop} {L:Lg} {X:Ds} (h:LgAt w l d Fd Rd FL RL L X) {k:Nat} (hk:w.heap.size <= k):¬ Fd k /\ ¬ FL k :=
 ⟨fun e=>by have:=h.disk.ltF k e;omega,fun e=>by have:=h.ltF k e;omega⟩
theorem AskR.opE {w w1 w2:World} {l d:Nat} {Fd Rd FL RL:Nat -> Prop} {L:Lg} {X:Ds} {os:List Log.Op} {k:Int} {e:Ending} (h:AskR w1 l d Fd Rd FL RL L X os k e w2) (hk:Keeps Nb w w1):OpE w l d Fd Rd FL RL L X k (askO os) e w2:=by
 obtain ⟨er,X',L',rfl,h1,h2,h3,h4⟩:=h;refine ⟨er,X',L',rfl,h1.from hk,h2,fun h0=>by rw [h3,if_pos h0],?_,h4⟩;rw [h3];split
 ·exact .inl rfl
 ·exact .inr rfl
theorem zgd (l d:Nat) (Fd Rd FL RL:Nat -> Prop) (L:Lg) (X:Ds) (s:ByteArray) (v:Value) (bs:List Nat) (w:World) (h:LgAt w l d Fd Rd FL RL L X) (hv:Vars w) (hs:s.size <= maxLen) (hb:BytesO v bs w Fd FL) (hl:bs.length <= mxr) (hp:pot X + 5 <= 999999) :
  Calls Tryz.prog 75 #[.pointer (some ⟨l,0,none⟩),.string s,v] w (OpE w l d Fd Rd FL RL L X 5 (putO s bs)):=by
 obtain ⟨a,c,rfl,hq⟩:=id hb;have H:=qq h;have HV:=qq hv;have HS:=qq hs;have HP:=qq hp;have HB:Hid (Bytes w (Out w Fd FL) (.slice a bs.length c) bs):=qq hb;have HL:=qq hl;obtain ⟨m,hm⟩:∃ m,bs.length=m:=⟨_,rfl⟩
 rw [hm] at HB ⊢;have HM:=qq hm;clear h hv hs hb hp hq hl hm;go_enter Tryz.func75,Tryz.ntmps75;go_wp2_with (first | go_skip | (with_reducible refine zo (t:=40) ?_) | (with_reducible refine zo (t:=9) ?_))
 refine za (vbox1 (v:=.pointer (some ⟨l,0,none⟩)) (by rfl) rfl ?_);intro b3 w1 n1;simp only [Nat.reduceAdd,qn];go_wp2_with (first | go_skip | (with_reducible refine zo (t:=40) ?_) | (with_reducible refine zo (t:=9) ?_))
 refine za (vbox1 (v:=.string s) (by rfl) rfl ?_);intro b4 w2 n2;simp only [Nat.reduceAdd,qn];have K2:Hid (Keeps Nb w w2):=qq (n1.k.trans_nb n2.k);have B3:=qq (n2.k.nb n1.blk);have B4:=qq n2.blk;have G3:Hid (w.heap.size <= b3):=qq n1.ge;have G4:Hid (w.heap.size <= b4):=qq (by have:=n2.ge;have:=n1.k.size;omega);have RA:=qq (z8m (.slice a m c) bs (Out w Fd FL) w2 (HB.out.keeps K2.out (fun _ _ e=>e)) (fun k hk=>Nat.lt_of_lt_of_le hk.1 K2.out.size) HL.out);clear n1 n2;go_wp2_with fail;refine RA.out.mono ?_;rintro _ w3 ⟨v',rfl,hb3,k3⟩;obtain ⟨a7,c7,rfl,-⟩:=id hb3;have K3:=qq (K2.out.trans_nb k3);have HB3:=qq hb3;have K23:=qq k3;obtain ⟨rl,hrl⟩:∃ r,(recd bs).length=r:=⟨_,rfl⟩
 rw [hrl] at HB3 ⊢;clear hb3 k3 RA;go_wp2_with (first | go_skip | (with_reducible refine qv (by decide) ?_))
 refine za (valloc (z:=.slice none 0 0) (by kernel_rfl) ?_);intro b7 w4 n4;simp only [Nat.reduceAdd,qn];go_wp2_with (first | go_skip | (with_reducible refine qv (by decide) ?_))
 refine za (valloc (z:=.int .i64 0) (by kernel_rfl) ?_);intro b8 w5 n5;simp only [Nat.reduceAdd,qn];go_wp2_with (first | go_skip | (with_reducible refine qv (by decide) ?_))
 refine za (zc rfl (zd (v:=.slice a7 rl c7) (n:=1) (by kernel_rfl) (by rfl) (by rfl) (n5.k.nb n4.blk) (by rfl) (by simp [Value.cells]) (by simp [Value.cells,Value.oneCell'])) ?_);intro w6 s6;simp only [Nat.reduceAdd,qn];go_wp2_with (first | go_skip | (with_reducible refine qv (by decide) ?_))
 refine za (zc rfl (zd (v:=.int .i64 0) (n:=1) (by kernel_rfl) (by rfl) (by rfl) (s6.k.at n5.blk (fun e=>by have:=n4.lt;have:=n5.ge;omega)) (by rfl) (by simp [Value.cells]) (by simp [Value.cells,Value.oneCell'])) ?_);intro w7 s7;simp only [Nat.reduceAdd,qn];have h78:b7 < b8:=by have:=n4.lt;have:=n5.ge;omega
 have G7:Hid (w3.heap.size <= b7):=qq n4.ge;have K37:Hid (Keeps Nb w3 w7):=qq (((n4.k.trans_nb n5.k).own (k:=b7) n4.ge s6.k).own (k:=b8) (by have:=n4.ge;omega) s7.k);have B7:Hid (w7.heap[b7]?=some (.cells #[.slice a7 rl c7] 22 (0,0))):=qq (s7.k.at s6.blk (fun e=>by omega));have B8:Hid (w7.heap[b8]?=some (.cells #[.int .i64 0] 24 (0,0))):=qq s7.blk;clear n4 n5 s6 s7;have B37:=qq (K37.out.nb (K23.out.nb B3.out));have B47:=qq (K37.out.nb (K23.out.nb B4.out));have K7:=qq (K3.out.trans_nb K37.out);have c3:w7.cell? ⟨b3,0,none⟩=some (.pointer (some ⟨l,0,none⟩)):=(cell_of_block B37.out).trans rfl;go_wp2_with (first | go_skip | (with_reducible refine qv (by decide) ?_))
 refine za (zj rfl (zl el138 [.func (.func 126) #[] #[.pointer (some ⟨b3,0,none⟩),.pointer (some ⟨b4,0,none⟩)],.func (.func 127) #[] #[.pointer (some ⟨b8,0,none⟩),.pointer (some ⟨b3,0,none⟩),.pointer (some ⟨b4,0,none⟩),.pointer (some ⟨b7,0,none⟩)],.func (.func 130) #[] #[.pointer (some ⟨b3,0,none⟩),.pointer (some ⟨b4,0,none⟩)]] rfl (by simp [List.range'_succ];first | done | rfl | exact ⟨rfl,rfl⟩ | exact ⟨rfl,rfl,rfl⟩ | exact ⟨rfl,rfl,rfl,rfl⟩ | exact ⟨rfl,rfl,rfl,rfl,rfl⟩ | exact ⟨rfl,rfl,rfl,rfl,rfl,rfl⟩) (by simp [Value.cells]) (by simp)) ?_);rintro _ w8 ⟨b9,rfl,n9⟩;simp only [Nat.reduceAdd,qn];have K8:=qq (K7.out.trans_nb n9.k);have hn9:=n9.ge;have H8:=H.out.nb K8.out;have hout:∀ {k:Nat},w.heap.size <= k -> ¬ Fd k /\ ¬ FL k:=fun hk=>zt H.out hk;have hz37:=K3.out.size;have hP8:PutP l s b3 b4 b7 b8 (.slice a7 rl c7) (recd bs) w8 Fd FL:=by
  refine ⟨⟨⟨⟨n9.k.nb B37.out,hout G3.out⟩,⟨n9.k.nb B47.out,hout G4.out⟩⟩,⟨⟨n9.k.nb B7.out,hout (by have:=G7.out;omega)⟩,?_⟩⟩,⟨n9.k.nb B8.out,hout (by have:=G7.out;omega)⟩⟩;have hb:=(HB3.out.keeps (K37.out.trans_nb n9.k) (fun _ _ e=>e))
  refine hb.mono (fun k hk=>?_);have hk2:w.heap.size <= k:=by have:=hk.1;have:=K2.out.size;omega
  exact ⟨by have:=hk.2;have:=K37.out.size;have:=n9.k.size;omega,hout hk2⟩
 have hrow:Has w8 (some ⟨b9,0,none⟩) ((putF b3 b4 b7 b8).map Fv.v):=zm n9.blk;have AR:=qq (z1a (n:=3) (zae l s b3 b4 b7 b8 (.slice a7 rl c7) (recd bs)) (put_l l d b3 b4 b7 b8 L s a7 rl c7 (recd bs) HS.out) H8 (HV.out.nb K8.out) hP8 rfl (by omega) (by have:=HP.out;simpa using this) hrow (hout (by have:=K7.out.size;omega)));clear hP8 hrow H8 hn9 n9 c3;go_wp2_with fail;refine AR.out.mono ?_;rintro e w9 hR;obtain ⟨er,X',L',rfl,hq⟩:=id hR;have F:=qq (hR.opE K8.out);clear hR hq AR;go_wp2;go_ret;exact F.out
end Go.Proofs.YtpjomdmjohjheaaGreatDoor
end
section
namespace Go.Lk
open Go.RowKit
end Go.Lk
namespace Go.Proofs.YtpjomdmjohjheaaGreatDoor
open Go.RowKit Go.Lk Go.Vfs Go.Log
theorem opE_disk' {w w1:World} {l d:Nat} {Fd Rd FL RL:Nat -> Prop} {L:Lg} {X:Ds} {k er:Int} {o:Log.Op} {D':Dk} {fc':Nat -> Fl} (h:LgAt w l d Fd Rd FL RL L X) (hn:Now w w1 d Fd Rd D' fc') (ho:o X er ⟨D',fc'⟩) (hp:pot ⟨D',fc'⟩ <= pot X + k) :
  OpE w l d Fd Rd FL RL L X k o (.returned (.int .i64 er)) w1:=by
 obtain ⟨Fd',Rd',FL',RL',h1,h2,h3,h4,h5,h6⟩:=h.disk_now (Y:=⟨D',fc'⟩) hn (LgAt.six h);exact ⟨er,_,L,rfl,⟨Fd',Rd',FL',RL',h1,h2,h3,h4,h5,h6⟩,ho,fun _=>rfl,.inl rfl,hp⟩
theorem OpE.from {w w1 w2:World} {l d:Nat} {Fd Rd FL RL:Nat -> Prop} {L:Lg} {X:Ds} {k:Int} {o:Log.Op} {e:Ending} (h:OpE w1 l d Fd Rd FL RL L X k o e w2) (hk:Keeps Nb w w1):OpE w l d Fd Rd FL RL L X k o e w2:=by
 obtain ⟨er,X',L',rfl,h1,h2⟩:=h;exact ⟨er,X',L',rfl,h1.from hk,h2⟩
theorem z74 (l d:Nat) (L:Lg) (P:World -> (Nat -> Prop) -> (Nat -> Prop) -> Prop):OpC l d L 1 ⟨64,#[.pointer (some ⟨d,0,none⟩)],#[]⟩ sdO P:=by
 intro w Fd Rd FL RL X h hv hP hp;refine (zib d X.D Fd Rd X.fc w h.disk (z0f hp (by omega))).mono ?_;rintro e w' ⟨er,D',rfl,hn,hr⟩;exact opE_disk' h hn (o:=sdO) ⟨hr,rfl⟩ (pot_sd (Y:=⟨D',X.fc⟩) ⟨hr,rfl⟩)
theorem man1_c (l d b3 b4:Nat) (L:Lg) (s:ByteArray) (hs:s.size <= maxLen):OpC l d L 1 ⟨114,#[],#[.pointer (some ⟨b3,0,none⟩),.pointer (some ⟨b4,0,none⟩)]⟩ (rmnO s) (fun w a b=>LB b3 l w a b /\ SB b4 s w a b):=by
 rintro w Fd Rd FL RL X h hv ⟨⟨hb3,-,-⟩,⟨hb4,-,-⟩⟩ hp;obtain ⟨sv,lv,hcs⟩:=h.cells;have c1:w.cell? ⟨b3,0,none⟩=some (.pointer (some ⟨l,0,none⟩)):=(cell_of_block hb3).trans rfl;have c2:w.cell? ⟨b4,0,none⟩=some (.string s):=(cell_of_block hb4).trans rfl;have c3:w.cell? ⟨l,0,none⟩=some (.pointer (some ⟨d,0,none⟩)):=(cell_of_block (hcs w (Keeps.refl _ _))).trans rfl;have H:=qq h;have MA:=qq (z71 d s X.D Fd Rd X.fc w.drew (h.disk.nb ((Keeps.refl Nb w).drew)) hs (z0f hp (by omega)));clear h hv hb3 hb4 hcs hp;show Calls Tryz.prog 114 #[.pointer (some ⟨b3,0,none⟩),.pointer (some ⟨b4,0,none⟩)] w _;go_enter Tryz.func114,Tryz.ntmps114;go_wp2
 go_still_tail 5,(by kernel_rfl)
 go_wp2_with fail;refine MA.out.mono ?_;rintro _ w1 ⟨er,D',rfl,hn,hr⟩;have hrm:rmO s X er ⟨D',X.fc⟩:=⟨hr,rfl⟩
 by_cases h6:er=6
 ·subst h6;have F:=qq (z2g (k:=1) (er:=0) (o:=rmnO s) H.out hn ⟨6,hrm,rfl⟩ (z9s hrm).1);clear hn hr hrm MA;go_wp2;go_ret;exact F.out
 ·
  have F:=qq (z2g (k:=1) (er:=er) (o:=rmnO s) H.out hn ⟨er,hrm,by rw [if_neg h6]⟩ (z9s hrm).1);have t1:(er != 6)=true:=by simpa using h6
  clear hn hr hrm MA h6;go_wp2;go_ret;exact F.out
theorem man2_c (l d b3 b4 b7 b9:Nat) (L:Lg) (s:ByteArray) (a1 a2:Option Addr) (n1 n2 c1 c2:Nat) (x y:Nat) (hs:s.size <= maxLen):OpC l d L 5 ⟨116,#[],#[.pointer (some ⟨b3,0,none⟩),.pointer (some ⟨b4,0,none⟩),.pointer (some ⟨b7,0,none⟩),.pointer (some ⟨b9,0,none⟩)]⟩ (putO s (mrec x y))
  (fun w a b=>(LB b3 l w a b /\ SB b4 s w a b) /\ YB b7 (.slice a1 n1 c1) (be 8 x) w a b /\ YB b9 (.slice a2 n2 c2) (be 8 y) w a b):=by
 rintro w Fd Rd FL RL X h hv ⟨⟨⟨hb3,o3⟩,⟨hb4,o4⟩⟩,⟨⟨hb7,o7⟩,hy1⟩,⟨hb9,o9⟩,hy2⟩ hp;have OO:=qq (And.intro (And.intro o3 o4) (And.intro o7 o9));clear o3 o4 o7 o9;have e1:w.cell? ⟨b3,0,none⟩=some (.pointer (some ⟨l,0,none⟩)):=(cell_of_block hb3).trans rfl;have e2:w.cell? ⟨b4,0,none⟩=some (.string s):=(cell_of_block hb4).trans rfl;have e3:w.cell? ⟨b7,0,none⟩=some (.slice a1 n1 c1):=(cell_of_block hb7).trans rfl;have e4:w.cell? ⟨b9,0,none⟩=some (.slice a2 n2 c2):=(cell_of_block hb9).trans rfl;have H:=qq h;have HV:=qq hv;have HP:=qq hp;have HY1:=qq hy1;have HY2:=qq hy2;clear h hv hp hb3 hb4 hb7 hb9 hy1 hy2;show Calls Tryz.prog 116 #[.pointer (some ⟨b3,0,none⟩),.pointer (some ⟨b4,0,none⟩),.pointer (some ⟨b7,0,none⟩),.pointer (some ⟨b9,0,none⟩)] w _;go_enter Tryz.func116,Tryz.ntmps116;go_wp2;refine WT.region (fun u=>u.cell? ⟨b3,0,none⟩=some (.pointer (some ⟨l,0,none⟩)) /\ u.cell? ⟨b4,0,none⟩=some (.string s) /\ u.cell? ⟨b7,0,none⟩=some (.slice a1 n1 c1) /\ u.cell? ⟨b9,0,none⟩=some (.slice a2 n2 c2)) 7 8 [0,1,2,3,4,5,6,7] (by kernel_rfl) rfl ?_;have HS:Hid ((fun u:World=>u.cell? ⟨b3,0,none⟩=some (.pointer (some ⟨l,0,none⟩)) /\ u.cell? ⟨b4,0,none⟩=some (.string s) /\ u.cell? ⟨b7,0,none⟩=some (.slice a1 n1 c1) /\ u.cell? ⟨b9,0,none⟩=some (.slice a2 n2 c2)) w.drew):=qq ⟨e1,e2,e3,e4⟩;refine WT.t 0 (v:=.pointer (some ⟨l,0,none⟩)) (y:=by rintro w ⟨C1,C2⟩;exact zb (by kernel_rfl) (by rfl) C1) (s:=HS.out) (h:=?_);refine WT.t 1 (v:=.string s) (y:=by rintro w ⟨C1,C2,C3⟩;exact zb (by kernel_rfl) (by rfl) C2) (s:=HS.out) (h:=?_);refine WT.t 2 (v:=.slice a1 n1 c1) (y:=by rintro w ⟨C1,C2,C3,C4⟩;exact zb (by kernel_rfl) (by rfl) C3) (s:=HS.out) (h:=?_);refine WT.t 3 (v:=.slice a2 n2 c2) (y:=by rintro w ⟨C1,C2,C3,C4⟩;exact zb (by kernel_rfl) (by rfl) C4) (s:=HS.out) (h:=?_);refine WT.o 4 (y:=zl el27 [.slice a1 n1 c1,.slice a2 n2 c2] rfl (by simp [List.range'_succ];first | done | rfl | exact ⟨rfl,rfl⟩ | exact ⟨rfl,rfl,rfl⟩ | exact ⟨rfl,rfl,rfl,rfl⟩ | exact ⟨rfl,rfl,rfl,rfl,rfl⟩ | exact ⟨rfl,rfl,rfl,rfl,rfl,rfl⟩) (by simp [Value.cells]) (by simp)) (h:=?_);rintro _ w2 ⟨b2,rfl,n2'⟩;simp only [Nat.reduceAdd,qn];have hk2:Keeps Nb w w2:=((Keeps.refl Nb w).drew).trans_nb n2'.k;have K2:=qq hk2;have JA:=qq (zaz b2 2 [.slice a1 n1 c1,.slice a2 n2 c2] [be 8 x,be 8 y] (Out w Fd FL) w2 n2'.blk (.cons (HY1.out.keeps hk2 (fun _ _ e=>e)) (.cons (HY2.out.keeps hk2 (fun _ _ e=>e)) (.nil _ _))) rfl (by omega) (by omega) (by simp [z00]))
 have fac:∀ u,Keeps (fun k=>Fd k \/ FL k) w u -> (fun u:World=>u.cell? ⟨b3,0,none⟩=some (.pointer (some ⟨l,0,none⟩)) /\ u.cell? ⟨b4,0,none⟩=some (.string s) /\ u.cell? ⟨b7,0,none⟩=some (.slice a1 n1 c1) /\ u.cell? ⟨b9,0,none⟩=some (.slice a2 n2 c2)) u:=fun u hu =>
  ⟨(hu.cell (lt_of_cell e1) (fun e=>e.elim OO.out.1.1.1 OO.out.1.1.2)).trans e1,(hu.cell (lt_of_cell e2) (fun e=>e.elim OO.out.1.2.1 OO.out.1.2.2)).trans e2,(hu.cell (lt_of_cell e3) (fun e=>e.elim OO.out.2.1.1 OO.out.2.1.2)).trans e3,(hu.cell (lt_of_cell e4) (fun e=>e.elim OO.out.2.2.1 OO.out.2.2.2)).trans e4⟩
 have FAC:=qq fac;clear n2' hk2 fac;refine ⟨FAC.out w2 K2.out.of_nb,?_⟩;refine WT.call 5 (by simp only [qi];rfl) (by kernel_rfl) (by rfl) (by go_simp;first | done | rfl | exact ⟨⟨rfl,rfl⟩,rfl⟩ | exact ⟨⟨rfl,rfl,rfl⟩,rfl⟩) JA.out ?_;rintro _ w3 ⟨v,rfl,hb,k3⟩;have hfl:[be 8 x,be 8 y].flatten=mrec x y:=by simp [mrec]
 rw [hfl] at hb;have K3:=qq (K2.out.trans_nb k3);have hbo:BytesO v (mrec x y) w3 Fd FL:=hb.mono (fun k hk=>⟨hk.2,zt H.out (by have:=hk.1;have:=K2.out.size;omega)⟩);have PW:=qq (zgd l d Fd Rd FL RL L X s v (mrec x y) w3 (H.out.nb K3.out) (HV.out.nb K3.out) hs hbo (by simp [mrec,z00,mxr]) HP.out);clear hb hbo k3 hfl JA;refine ⟨_,rfl,FAC.out w3 K3.out.of_nb,?_⟩;simp only [Nat.reduceAdd,qn];refine WT.call 6 (by simp only [qi];rfl) (by kernel_rfl) (by rfl) (by go_simp;first | done | rfl | exact ⟨⟨rfl,rfl⟩,rfl⟩ | exact ⟨⟨rfl,rfl,rfl⟩,rfl⟩ | exact ⟨⟨rfl,rfl,rfl,rfl⟩,rfl⟩) PW.out ?_;rintro e w4 hE;obtain ⟨er,X',L',rfl,hq⟩:=id hE;have hF:=OpE.from hE K3.out;have hS4:=FAC.out w4 (by obtain ⟨er2,X2,L2,-,hnow,-⟩:=hF;obtain ⟨_,_,_,_,_,_,_,_,_,hk⟩:=hnow;exact hk);have F:=qq hF;clear hE hq PW hF;refine ⟨_,rfl,hS4,?_⟩;simp only [Nat.reduceAdd,qn];refine WT.stop (by kernel_rfl) ?_;refine WP.o 7 (v:=_) (y:=by go_simp;first | with_reducible rfl | exact ⟨rfl,rfl⟩) (h:=?_);refine WP.done (by kernel_rfl) ?_;go_wp2;go_ret;exact F.out
theorem man3_c (l d b3 b4:Nat) (L:Lg) (s:ByteArray) (hs:s.size <= maxLen):OpC l d L 1 ⟨117,#[],#[.pointer (some ⟨b3,0,none⟩),.pointer (some ⟨b4,0,none⟩)]⟩ (rnO s (manf L.name)) (fun w a b=>LB b3 l w a b /\ SB b4 s w a b):=by
 rintro w Fd Rd FL RL X h hv ⟨⟨hb3,o3,-⟩,⟨hb4,o4,-⟩⟩ hp;have OO:=qq (And.intro o3 o4);clear o3 o4;obtain ⟨sv,lv,hcs⟩:=h.cells;have c1:w.cell? ⟨b3,0,none⟩=some (.pointer (some ⟨l,0,none⟩)):=(cell_of_block hb3).trans rfl;have c2:w.cell? ⟨b4,0,none⟩=some (.string s):=(cell_of_block hb4).trans rfl;have c3:w.cell? ⟨l,0,none⟩=some (.pointer (some ⟨d,0,none⟩)):=(cell_of_block (hcs w (Keeps.refl _ _))).trans rfl;have c4:w.drew.cell? ⟨l,1,none⟩=some (.string L.name):=(cell_of_block (hcs w (Keeps.refl _ _))).trans rfl;have H:=qq h;have h16:=h.nums.n16;have FA:=qq (z1c l L.name sMan w.drew c4 (by omega) (by decide));have MA:=qq (ren_at d s (manf L.name) X.D Fd Rd X.fc w.drew (h.disk.nb ((Keeps.refl Nb w).drew)) hs (by rw [show (manf L.name).size=L.name.size + 4 by unfold manf fl;rw [ByteArray.size_append,ByteArray.size_append];rfl];unfold maxLen;omega) (z0f hp (by omega)));clear h hv hb3 hb4 hcs hp c4;show Calls Tryz.prog 117 #[.pointer (some ⟨b3,0,none⟩),.pointer (some ⟨b4,0,none⟩)] w _;go_enter Tryz.func117,Tryz.ntmps117;go_wp2;refine WT.region (fun u=>u.cell? ⟨b3,0,none⟩=some (.pointer (some ⟨l,0,none⟩)) /\ u.cell? ⟨b4,0,none⟩=some (.string s) /\ u.cell? ⟨l,0,none⟩=some (.pointer (some ⟨d,0,none⟩))) 8 9 [0,1,2,3,4,5,6,7,8] (by kernel_rfl) rfl ?_;have HS:Hid ((fun u:World=>u.cell? ⟨b3,0,none⟩=some (.pointer (some ⟨l,0,none⟩)) /\ u.cell? ⟨b4,0,none⟩=some (.string s) /\ u.cell? ⟨l,0,none⟩=some (.pointer (some ⟨d,0,none⟩))) w.drew):=qq ⟨c1,c2,c3⟩;refine WT.t 0 (v:=.pointer (some ⟨l,0,none⟩)) (y:=by rintro w ⟨C1,C2⟩;exact zb (by kernel_rfl) (by rfl) C1) (s:=HS.out) (h:=?_);refine WT.t 1 (v:=_) (y:=by rintro w ⟨C1,C2⟩;go_simp;with_reducible rfl) (s:=HS.out) (h:=?_);refine WT.t 2 (v:=_) (y:=by rintro w ⟨C1,C2⟩;go_simp;with_reducible rfl) (s:=HS.out) (h:=?_);refine WT.t 3 (v:=.pointer (some ⟨d,0,none⟩)) (y:=by rintro w ⟨C1,C2,C3⟩;exact zb (by kernel_rfl) (by rfl) C3) (s:=HS.out) (h:=?_);refine WT.t 4 (v:=.string s) (y:=by rintro w ⟨C1,C2,C3⟩;exact zb (by kernel_rfl) (by rfl) C2) (s:=HS.out) (h:=?_);refine WT.t 5 (v:=.pointer (some ⟨l,0,none⟩)) (y:=by rintro w ⟨C1,C2⟩;exact zb (by kernel_rfl) (by rfl) C1) (s:=HS.out) (h:=?_);refine WT.call 6 (by simp only [qi];rfl) (by kernel_rfl) (by rfl) (by go_simp;first | done | rfl | exact ⟨⟨rfl,rfl⟩,rfl⟩ | exact ⟨⟨rfl,rfl,rfl⟩,rfl⟩) FA.out ?_;rintro _ _ ⟨rfl,rfl⟩;refine ⟨_,rfl,HS.out,?_⟩;simp only [Nat.reduceAdd,qn];refine WT.call 7 (by simp only [qi];rfl) (by kernel_rfl) (by rfl) (by go_simp;first | done | rfl | exact ⟨⟨rfl,rfl⟩,rfl⟩ | exact ⟨⟨rfl,rfl,rfl⟩,rfl⟩ | exact ⟨⟨rfl,rfl,rfl,rfl⟩,rfl⟩) MA.out ?_;rintro _ w1 ⟨er,D',rfl,hn,hr⟩;have ho:rnO s (manf L.name) X er ⟨D',X.fc⟩:=⟨hr,rfl⟩
 have F:=qq (z2g (k:=1) H.out hn ho (pot_rn ho));have hk:Keeps Fd w.drew w1:=by obtain ⟨_,_,_,_,_,hk⟩:=hn;exact hk
 have hS1:=And.intro ((hk.cell (lt_of_cell (w:=w.drew) c1) OO.out.1).trans c1) (And.intro ((hk.cell (lt_of_cell (w:=w.drew) c2) OO.out.2).trans c2) ((hk.cell (lt_of_cell (w:=w.drew) c3) (H.out.apF l H.out.fl).1).trans c3));clear hn hr ho MA FA hk;refine ⟨_,rfl,hS1,?_⟩;simp only [Nat.reduceAdd,qn];refine WT.stop (by kernel_rfl) ?_;refine WP.o 8 (v:=_) (y:=by go_simp;first | with_reducible rfl | exact ⟨rfl,rfl⟩) (h:=?_);refine WP.done (by kernel_rfl) ?_;go_wp2;go_ret;exact F.out
end Go.Proofs.YtpjomdmjohjheaaGreatDoor
end
section
namespace Go.Proofs.YtpjomdmjohjheaaGreatDoor
open Go.RowKit Go.Lk Go.Vfs Go.Log
theorem z5r {nm s:ByteArray} (h:nm.size <= 16) (hs:s.size <= 1000):(fl nm s).size <= maxLen:=by
 unfold fl;rw [ByteArray.size_append,ByteArray.size_append];have:sDot.size=1:=rfl;unfold maxLen;omega
def ManP (l:Nat) (s:ByteArray) (b3 b4 b7 b9:Nat) (v1 v2:Value) (x y:Nat):World -> (Nat -> Prop) -> (Nat -> Prop) -> Prop :=
 fun w a b=>(LB b3 l w a b /\ SB b4 s w a b) /\ YB b7 v1 (be 8 x) w a b /\ YB b9 v2 (be 8 y) w a b
theorem zaa (l:Nat) (s:ByteArray) (b3 b4 b7 b9:Nat) (v1 v2:Value) (x y:Nat):Stable (ManP l s b3 b4 b7 b9 v1 v2 x y):=((zu _ _).and (zu _ _)).and ((z2o _ _ _).and (z2o _ _ _))
def manF (d b3 b4 b7 b9:Nat):List Fv:=[⟨114,#[],#[.pointer (some ⟨b3,0,none⟩),.pointer (some ⟨b4,0,none⟩)]⟩,⟨116,#[],#[.pointer (some ⟨b3,0,none⟩),.pointer (some ⟨b4,0,none⟩),.pointer (some ⟨b7,0,none⟩),.pointer (some ⟨b9,0,none⟩)]⟩,
 ⟨64,#[.pointer (some ⟨d,0,none⟩)],#[]⟩,⟨117,#[],#[.pointer (some ⟨b3,0,none⟩),.pointer (some ⟨b4,0,none⟩)]⟩,⟨64,#[.pointer (some ⟨d,0,none⟩)],#[]⟩]
theorem man_l (l d b3 b4 b7 b9:Nat) (L:Lg) (a1 a2:Option Addr) (n1 n2 c1 c2:Nat) (x y:Nat) (h16:L.name.size <= 16):OpL l d L (ManP l (newf L.name) b3 b4 b7 b9 (.slice a1 n1 c1) (.slice a2 n2 c2) x y) (manF d b3 b4 b7 b9)
  [rmnO (newf L.name),putO (newf L.name) (mrec x y),sdO,rnO (newf L.name) (manf L.name),sdO] [1,5,1,1,1] :=
 have hs:(newf L.name).size <= maxLen:=z5r h16 (by decide)
 ⟨(man1_c l d b3 b4 L _ hs).mono (fun _ _ _ h=>h.1),enters_of Tryz.func114 (by kernel_rfl) rfl,by omega,man2_c l d b3 b4 b7 b9 L _ a1 a2 n1 n2 c1 c2 x y hs,enters_of Tryz.func116 (by kernel_rfl) rfl,by omega,
  z74 l d L _,enters_of Tryz.func64 (by kernel_rfl) rfl,by omega,(man3_c l d b3 b4 L _ hs).mono (fun _ _ _ h=>h.1),enters_of Tryz.func117 (by kernel_rfl) rfl,by omega,z74 l d L _,enters_of Tryz.func64 (by kernel_rfl) rfl,by omega,trivial⟩
theorem zgc (l d:Nat) (Fd Rd FL RL:Nat -> Prop) (L:Lg) (X:Ds) (x y:Nat) (w:World) (h:LgAt w l d Fd Rd FL RL L X) (hv:Vars w) (hx:x <= 4294967296) (hy:y <= 4294967296) (hp:pot X + 9 <= 999999) :
  Calls Tryz.prog 58 #[.pointer (some ⟨l,0,none⟩),.int .i64 x,.int .i64 y] w (OpE w l d Fd Rd FL RL L X 9 (manO L.name x y)):=by
 obtain ⟨sv,lv,hcs⟩:=h.cells;have h16:=h.nums.n16;have H:=qq h;have HV:=qq hv;have HP:=qq hp;have HC:=qq hcs;have P1:=qq (z6v x 8 (.inr rfl) (by omega));have P2:=qq (z6v y 8 (.inr rfl) (by omega));clear h hv hp hcs;go_enter Tryz.func58,Tryz.ntmps58;go_wp2_with (first | go_skip | (with_reducible refine zo (t:=40) ?_))
 refine za (vbox1 (v:=.pointer (some ⟨l,0,none⟩)) (by rfl) rfl ?_);intro b3 w1 n1;simp only [Nat.reduceAdd,qn];have B3:=qq n1.blk;have G3:Hid (w.heap.size <= b3):=qq n1.ge;have K1:=qq n1.k;clear n1;go_wp2_with fail;refine (P1.out w1).mono ?_;rintro _ w2 ⟨v1,rfl,hb1,k2⟩;obtain ⟨a1,c1,rfl,-⟩:=id hb1;have HB1:=qq hb1;have K2:=qq k2;rw [z00] at *;clear hb1 k2;go_wp2_with (first | go_skip | (with_reducible refine qv (by decide) ?_))
 refine za (valloc (z:=.slice none 0 0) (by kernel_rfl) ?_);intro b7 w3 n3;simp only [Nat.reduceAdd,qn];go_wp2_with (first | go_skip | (with_reducible refine qv (by decide) ?_))
 refine za (zc rfl (zd (v:=.slice a1 8 c1) (n:=1) (by kernel_rfl) (by rfl) (by rfl) n3.blk (by rfl) (by simp [Value.cells]) (by simp [Value.cells,Value.oneCell'])) ?_);intro w4 s4;simp only [Nat.reduceAdd,qn];have B7:=qq s4.blk;have K14:Hid (Keeps Nb w1 w4):=qq (K2.out.trans_nb (n3.k.own (k:=b7) n3.ge s4.k));have K24:Hid (Keeps Nb w2 w4):=qq (n3.k.own (k:=b7) n3.ge s4.k);have G7:Hid (w.heap.size <= b7):=qq (by have:=n3.ge;have:=K2.out.size;have:=K1.out.size;omega);clear n3 s4;go_wp2_with fail;refine (P2.out w4).mono ?_;rintro _ w5 ⟨v2,rfl,hb2,k5⟩;obtain ⟨a2,c2,rfl,-⟩:=id hb2;have HB2:=qq hb2;have K5:=qq k5;rw [z00] at *;clear hb2 k5;go_wp2_with (first | go_skip | (with_reducible refine qv (by decide) ?_))
 refine za (valloc (z:=.slice none 0 0) (by kernel_rfl) ?_);intro b9 w6 n6;simp only [Nat.reduceAdd,qn];go_wp2_with (first | go_skip | (with_reducible refine qv (by decide) ?_))
 refine za (zc rfl (zd (v:=.slice a2 8 c2) (n:=1) (by kernel_rfl) (by rfl) (by rfl) n6.blk (by rfl) (by simp [Value.cells]) (by simp [Value.cells,Value.oneCell'])) ?_);intro w7 s7;simp only [Nat.reduceAdd,qn];have B9:=qq s7.blk;have K57:Hid (Keeps Nb w5 w7):=qq (n6.k.own (k:=b9) n6.ge s7.k);have G9:Hid (w.heap.size <= b9):=qq (by have:=n6.ge;have:=K5.out.size;have:=K14.out.size;have:=K1.out.size;omega);clear n6 s7;have K17:Hid (Keeps Nb w1 w7):=qq ((K14.out.trans_nb K5.out).trans_nb K57.out);have K7:Hid (Keeps Nb w w7):=qq (K1.out.trans_nb K17.out);have e3:w7.cell? ⟨b3,0,none⟩=some (.pointer (some ⟨l,0,none⟩)):=(cell_of_block (K17.out.nb B3.out)).trans rfl;have FA:=qq (z1c l L.name sNew w7 ((cell_of_block (HC.out w7 K7.out)).trans rfl) (by omega) (by decide));go_wp2_with fail;refine FA.out.mono ?_;rintro _ _ ⟨rfl,rfl⟩;go_wp2_with (first | go_skip | (with_reducible refine qv (by decide) ?_))
 refine za (valloc (z:=.string ByteArray.empty) (by kernel_rfl) ?_);intro b4 w8 n8;simp only [Nat.reduceAdd,qn];go_wp2_with (first | go_skip | (with_reducible refine qv (by decide) ?_))
 refine za (zc rfl (zd (v:=.string (newf L.name)) (n:=1) (by kernel_rfl) (by rfl) (by rfl) n8.blk (by rfl) (by simp [Value.cells]) (by simp [Value.cells,Value.oneCell'])) ?_);intro w9 s9;simp only [Nat.reduceAdd,qn];have B4:=qq s9.blk;have K79:Hid (Keeps Nb w7 w9):=qq (n8.k.own (k:=b4) n8.ge s9.k);have G4:Hid (w.heap.size <= b4):=qq (by have:=n8.ge;have:=K7.out.size;omega);clear n8 s9 e3 FA;have K9:=qq (K7.out.trans_nb K79.out);go_wp2;have e3:w9.cell? ⟨b3,0,none⟩=some (.pointer (some ⟨l,0,none⟩)):=(cell_of_block ((K17.out.trans_nb K79.out).nb B3.out)).trans rfl;have el:w9.cell? ⟨l,0,none⟩=some (.pointer (some ⟨d,0,none⟩)):=(cell_of_block (HC.out w9 K9.out)).trans rfl;refine WT.region (fun u=>u.cell? ⟨b3,0,none⟩=some (.pointer (some ⟨l,0,none⟩)) /\ u.cell? ⟨l,0,none⟩=some (.pointer (some ⟨d,0,none⟩))) 16 17 [0,1,2,3,4,5,6,7,8,9,10,11,12,13,14,15,16] (by kernel_rfl) rfl ?_;have HS:Hid ((fun u:World=>u.cell? ⟨b3,0,none⟩=some (.pointer (some ⟨l,0,none⟩)) /\ u.cell? ⟨l,0,none⟩=some (.pointer (some ⟨d,0,none⟩))) w9):=qq ⟨e3,el⟩;refine WT.t 0 (v:=.pointer (some ⟨l,0,none⟩)) (y:=by rintro w ⟨C1,C2⟩;exact zb (by kernel_rfl) (by rfl) C1) (s:=HS.out) (h:=?_);refine WT.t 1 (v:=_) (y:=by rintro w ⟨C1,C2⟩;go_simp;with_reducible rfl) (s:=HS.out) (h:=?_);refine WT.t 2 (v:=_) (y:=by rintro w ⟨C1,C2⟩;go_simp;with_reducible rfl) (s:=HS.out) (h:=?_);refine WT.t 3 (v:=.pointer (some ⟨l,0,none⟩)) (y:=by rintro w ⟨C1,C2⟩;exact zb (by kernel_rfl) (by rfl) C1) (s:=HS.out) (h:=?_);refine WT.t 4 (v:=_) (y:=by rintro w ⟨C1,C2⟩;go_simp;with_reducible rfl) (s:=HS.out) (h:=?_);refine WT.t 5 (v:=_) (y:=by rintro w ⟨C1,C2⟩;go_simp;with_reducible rfl) (s:=HS.out) (h:=?_);refine WT.t 6 (v:=.pointer (some ⟨d,0,none⟩)) (y:=by rintro w ⟨C1,C2⟩;exact zb (by kernel_rfl) (by rfl) C2) (s:=HS.out) (h:=?_);refine WT.t 7 (v:=_) (y:=by rintro w ⟨C1,C2⟩;go_simp;with_reducible rfl) (s:=HS.out) (h:=?_);refine WT.t 8 (v:=_) (y:=by rintro w ⟨C1,C2⟩;go_simp;with_reducible rfl) (s:=HS.out) (h:=?_);refine WT.t 9 (v:=.pointer (some ⟨l,0,none⟩)) (y:=by rintro w ⟨C1,C2⟩;exact zb (by kernel_rfl) (by rfl) C1) (s:=HS.out) (h:=?_);refine WT.t 10 (v:=_) (y:=by rintro w ⟨C1,C2⟩;go_simp;with_reducible rfl) (s:=HS.out) (h:=?_);refine WT.t 11 (v:=_) (y:=by rintro w ⟨C1,C2⟩;go_simp;with_reducible rfl) (s:=HS.out) (h:=?_);refine WT.t 12 (v:=.pointer (some ⟨d,0,none⟩)) (y:=by rintro w ⟨C1,C2⟩;exact zb (by kernel_rfl) (by rfl) C2) (s:=HS.out) (h:=?_);refine WT.t 13 (v:=_) (y:=by rintro w ⟨C1,C2⟩;go_simp;with_reducible rfl) (s:=HS.out) (h:=?_);refine WT.o 14 (y:=zl el138 ((manF d b3 b4 b7 b9).map Fv.v) rfl (by simp [List.range'_succ];first | done | rfl | exact ⟨rfl,rfl⟩ | exact ⟨rfl,rfl,rfl⟩ | exact ⟨rfl,rfl,rfl,rfl⟩ | exact ⟨rfl,rfl,rfl,rfl,rfl⟩ | exact ⟨rfl,rfl,rfl,rfl,rfl,rfl⟩) (by simp [Value.cells,manF,Fv.v]) (by simp [manF])) (h:=?_);rintro _ w10 ⟨b10,rfl,n10⟩;simp only [Nat.reduceAdd,qn];have N10:Hid (Keeps Nb w9 w10):=qq (((Keeps.refl Nb w9).drew).trans_nb n10.k);have K10:=qq (K9.out.trans_nb N10.out);have H10:=H.out.nb K10.out;have hout:∀ {k:Nat},w.heap.size <= k -> ¬ Fd k /\ ¬ FL k:=fun hk=>zt H.out hk;have KB:Hid (Keeps Nb w1 w10):=qq ((K17.out.trans_nb K79.out).trans_nb N10.out);have KX:Hid (Keeps Nb w5 w10):=qq ((K57.out.trans_nb K79.out).trans_nb N10.out);have KY:Hid (Keeps Nb w4 w10):=qq (K5.out.trans_nb KX.out);have hP:ManP l (newf L.name) b3 b4 b7 b9 (.slice a1 8 c1) (.slice a2 8 c2) x y w10 Fd FL:=by
  refine ⟨⟨⟨KB.out.nb B3.out,hout G3.out⟩,⟨N10.out.nb B4.out,hout G4.out⟩⟩,⟨⟨KY.out.nb B7.out,hout G7.out⟩,?_⟩,⟨⟨(K79.out.trans_nb N10.out).nb B9.out,hout G9.out⟩,?_⟩⟩
  ·refine (HB1.out.keeps (K24.out.trans_nb KY.out) (fun _ _ e=>e)).mono (fun k hk=>?_);have:=hk.1;have:=hk.2;have:=K1.out.size;have:=K24.out.size;have:=KY.out.size;exact ⟨by omega,hout (by omega)⟩
  ·refine (HB2.out.keeps KX.out (fun _ _ e=>e)).mono (fun k hk=>?_);have:=hk.1;have:=hk.2;have:=K1.out.size;have:=K14.out.size;have:=KX.out.size;exact ⟨by omega,hout (by omega)⟩
 have hrow:Has w10 (some ⟨b10,0,none⟩) ((manF d b3 b4 b7 b9).map Fv.v):=zm n10.blk;have AR:=qq (z1a (n:=5) (zaa l (newf L.name) b3 b4 b7 b9 (.slice a1 8 c1) (.slice a2 8 c2) x y) (man_l l d b3 b4 b7 b9 L a1 a2 8 8 c1 c2 x y h16) H10 (HV.out.nb K10.out) hP rfl (by omega) (by have:=HP.out;simpa using this) hrow (hout (by have:=n10.ge;have:=N10.out.size;have:=K9.out.size;have:w9.drew.heap.size=w9.heap.size:=rfl;omega)));have G3o:=hout G3.out;clear hP hrow H10 n10;refine ⟨⟨(cell_of_block (KB.out.nb B3.out)).trans rfl,(cell_of_block (HC.out w10 K10.out)).trans rfl⟩,?_⟩;refine WT.call 15 (by simp only [qi];rfl) (by kernel_rfl) (by rfl) (by go_simp;first | done | rfl | exact ⟨⟨rfl,rfl⟩,rfl⟩ | exact ⟨⟨rfl,rfl,rfl⟩,rfl⟩ | exact ⟨⟨rfl,rfl,rfl,rfl⟩,rfl⟩) AR.out ?_;rintro e w11 hR;obtain ⟨er,X',L',rfl,hq⟩:=id hR;have F:=qq (hR.opE K10.out);have hS:w11.cell? ⟨b3,0,none⟩=some (.pointer (some ⟨l,0,none⟩)) /\ w11.cell? ⟨l,0,none⟩=some (.pointer (some ⟨d,0,none⟩)):=by
  obtain ⟨⟨Fd',Rd',FL',RL',k1,-,-,-,-,k6⟩,-⟩:=id hq;obtain ⟨sv',lv',hc'⟩:=k1.cells;refine ⟨(cell_of_block (k6.at (KB.out.nb B3.out) (fun e=>e.elim G3o.1 G3o.2))).trans rfl,(cell_of_block (hc' w11 (Keeps.refl _ _))).trans rfl⟩
 clear hR hq AR;refine ⟨_,rfl,hS,?_⟩;simp only [Nat.reduceAdd,qn];refine WT.stop (by kernel_rfl) ?_;refine WP.o 16 (v:=_) (y:=by go_simp;first | with_reducible rfl | exact ⟨rfl,rfl⟩) (h:=?_);refine WP.done (by kernel_rfl) ?_;go_wp2;go_ret;exact F.out
end Go.Proofs.YtpjomdmjohjheaaGreatDoor
end
section
namespace Go.Proofs.YtpjomdmjohjheaaGreatDoor
open Go.RowKit Go.Lk Go.Vfs Go.Log
theorem z1d {d:Nat} {D:Dk} {F R:Nat -> Prop} {fc:Nat -> Fl} {w:World} (h:DiskAt w d F R D fc) (s:ByteArray):(readOf D fc s).1.length <= 16777216 /\ ∀ z ∈ (readOf D fc s).1,z < 256:=by
 rcases z05 D s with ⟨q1,q2⟩ | ⟨q1,q2,q3⟩ | ⟨b,q1,q2,q3⟩
 ·unfold readOf;rw [q2];simp
 ·unfold readOf;rw [q3];simp
 ·unfold readOf;rw [q3];obtain ⟨⟨v,z1,⟨a,c,-,-,-,-,z5,-⟩,z3,z4⟩,-⟩:=h.file b (z1i q2);exact ⟨z4,z5⟩
def OneD (o:Option (List Nat)) (w:World) (e:Ending) (w':World):Prop :=
 (match o with | none=>e=.returned (.tuple #[.slice none 0 0,.bool false]) | some b=>∃ v,e=.returned (.tuple #[v,.bool true]) /\ Bytes w' (SinceB w w') v b) /\ Keeps Nb w w'
theorem zdz (l d:Nat) (s:ByteArray) (X:Ds) (F R:Nat -> Prop) (w:World) (h:DiskAt w d F R X.D X.fc) (hc:w.cell? ⟨l,0,none⟩=some (.pointer (some ⟨d,0,none⟩))) (hs:s.size <= maxLen) :
  Calls Tryz.prog 110 #[.pointer (some ⟨l,0,none⟩),.string s] w (OneD (oneR X s) w):=by
 obtain ⟨hl,hby⟩:=z1d h s;have RA:=qq (z5p d s X.D F R X.fc w h hs)
 have ho:oneR X s=if (readOf X.D X.fc s).2=0 /\ (whole (readOf X.D X.fc s).1).2.2=true /\ (whole (readOf X.D X.fc s).1).1.length=1 /\ (whole (readOf X.D X.fc s).1).2.1=(readOf X.D X.fc s).1.length
  then (whole (readOf X.D X.fc s).1).1.head? else none:=rfl
 generalize hr:readOf X.D X.fc s=rr at hl RA ho hby;obtain ⟨bs,er⟩:=rr;clear hr;simp only at hl ho hby;have HO:=qq ho;have HL:=qq hl;have HY:=qq hby;clear h hs ho hl hby;go_enter Tryz.func110,Tryz.ntmps110;go_wp2_with fail;refine RA.out.mono ?_;rintro _ w1 ⟨v,rfl,hv,k1⟩;simp only at hv ⊢;have HV:Hid (Bytes w1 (SinceB w w1) v bs):=qq (z0k hv HY.out);have K1:=qq k1;have WA:=qq (z6d v bs _ w1 HV.out (fun _ e=>e.1.2) HL.out);clear hv k1 RA hc;obtain ⟨av,cv,rfl,-⟩:=id HV.out;go_wp2_with fail;refine WA.out.mono ?_;rintro _ w2 ⟨lv,vs,rfl,hrow,hbl,k2⟩;generalize hwh:whole bs=ww at hrow hbl HO ⊢;obtain ⟨rs,n,rt⟩:=ww;simp only at hrow hbl HO ⊢;obtain ⟨g1,g2,a,c,rfl,g3,g4,g5,g6,-⟩:=hrow;obtain ⟨m,hm⟩:∃ m,rs.length=m:=⟨_,rfl⟩
 obtain ⟨q,hq⟩:∃ q,bs.length=q:=⟨_,rfl⟩
 have K2:=qq (K1.out.trans_nb k2);rw [hm] at HO g1 g3;rw [hq] at HO;have W0:=qq hwh;have G5:=qq g5;have G1:=qq g1;have HB:=qq hbl;have HM:=qq hm;have K12:=qq k2;clear hwh g5 g1 g6 g2 g3 g4 hbl k2 WA;rw [hm,hq];clear hm hq;rcases Classical.em (er ≠ 0) with h1 | h1
 ·
  have HN:Hid (oneR X s=none):=qq (by rw [HO.out,if_neg (fun e=>h1 e.1)]);have t1:(er != 0)=true:=by simpa using h1
  clear h1;go_wp2;go_ret2;exact ⟨by rw [HN.out];first | done | rfl,K2.out⟩
 have h1:=Classical.not_not.1 h1;subst h1;cases rt
 ·have HN:Hid (oneR X s=none):=qq (by rw [HO.out,if_neg (fun e=>by simp at e)]);go_wp2;go_ret2;exact ⟨by rw [HN.out];first | done | rfl,K2.out⟩
 rcases Classical.em (m ≠ 1) with h3 | h3
 ·
  have HN:Hid (oneR X s=none):=qq (by rw [HO.out,if_neg (fun e=>h3 e.2.2.1)]);have t3:((m:Int) != 1)=true:=by simpa using (by omega:(m:Int) ≠ 1)
  clear h3;go_wp2;go_ret2;exact ⟨by rw [HN.out];first | done | rfl,K2.out⟩
 have h3:=Classical.not_not.1 h3;subst h3;rcases Classical.em (n ≠ q) with h4 | h4
 ·
  have HN:Hid (oneR X s=none):=qq (by rw [HO.out,if_neg (fun e=>h4 e.2.2.2)]);have t4:((n:Int) != (q:Int))=true:=by simpa using (by omega:(n:Int) ≠ q)
  clear h4;go_wp2;go_ret2;exact ⟨by rw [HN.out];first | done | rfl,K2.out⟩
 have h4:=Classical.not_not.1 h4;subst h4;obtain ⟨r0,hr0⟩:∃ r,rs=[r]:=List.length_eq_one_iff.1 HM.out;subst hr0;have HN:Hid (oneR X s=some r0):=qq (by rw [HO.out,if_pos ⟨rfl,rfl,rfl,rfl⟩];rfl);obtain ⟨v0,hv0⟩:∃ v,vs=[v]:=List.length_eq_one_iff.1 (by have:=G1.out;omega);subst hv0;obtain ⟨b0,off,rfl,hcell⟩:∃ b off,a=some ⟨b,off,none⟩ /\ w2.cell? ⟨b,off,none⟩=some v0:=by
  rcases G5.out with h | ⟨b,off,e,h⟩
  ·cases h
  ·exact ⟨b,off,e,h 0 v0 rfl⟩
 have hbb:=HB.out.2 0 v0 r0 rfl rfl;have HBB:Hid (Bytes w2 (SinceB w w2) v0 r0):=qq (hbb.mono (fun k e=>⟨⟨by have:=e.1.1;have:=K1.out.size;omega,e.1.2⟩,e.2⟩));obtain ⟨av0,cv0,rfl,-⟩:=id hbb;clear hbb;go_wp2;go_ret2;exact ⟨by rw [HN.out];exact ⟨_,rfl,HBB.out⟩,K2.out⟩
end Go.Proofs.YtpjomdmjohjheaaGreatDoor
end
