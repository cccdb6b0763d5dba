import Derived.Test.YtpjomdmjohjheaaGreatDoorY1
set_option linter.unusedVariables false
set_option linter.unusedSimpArgs false
set_option maxRecDepth 100000
set_option maxHeartbeats 8000000
section
namespace Go.Vfs
open Go.Lk Go.RowKit
variable {w w':World} {R R' S F F':Nat -> Prop} {d b:Nat} {x:Fl} {D:Dk} {fc:Nat -> Fl}
theorem Bytes.take {a:Option Addr} {n c c':Nat} {l:List Nat} (h:Bytes w R (.slice a n c) l) {k:Nat} (hk:k <= l.length) (h1:k <= c') (h2:c' <= maxLen):Bytes w R (.slice a k c') (l.take k):=by
 obtain ⟨a',c2,e,q1,q2,q3,q4,q5⟩:=h;cases e;have hl:(l.take k).length=k:=by rw [List.length_take];omega
 exact ⟨a,c',by rw [hl],by rw [hl];exact h1,h2,q3.take k,fun z hz=>q4 z (List.mem_of_mem_take hz),fun b off e hne=>q5 b off e (fun e2=>hne (by rw [e2,List.take_nil]))⟩
def CutR (D:Dk) (fc:Nat -> Fl) (s:ByteArray) (n:Int) (e:Int) (D':Dk) (fc':Nat -> Fl):Prop :=
 (n < 0 /\ e=2 /\ D'=D /\ fc'=fc) \/ (0 <= n /\ mnB s=false /\ e=2 /\ D'=D /\ fc'=fc) \/ (0 <= n /\ mnB s=true /\ flook D.files s=none /\ e=6 /\ D'=D /\ fc'=fc) \/
 ∃ b,0 <= n /\ mnB s=true /\ flook D.files s=some b /\ ((((fc b).b.length:Int) < n /\ e=2 /\ D'=D /\ fc'=fc) \/ (n <= ((fc b).b.length:Int) /\ D.dead=true /\ e=8 /\ D'=D /\ fc'=fc) \/
  (n <= ((fc b).b.length:Int) /\ D.dead=false /\ e=(chg D).2.2 /\ D'=(chg D).1 /\ fc'=if (chg D).2.1=1 then setf fc b ⟨(fc b).b.take n.toNat,min n.toNat (fc b).lasts⟩ else fc))
end Go.Vfs
namespace Go.Proofs.YtpjomdmjohjheaaGreatDoor
open Go.RowKit Go.Lk Go.Vfs
theorem zfq (d b a1 a2 n:Nat) (D:Dk) (F R:Nat -> Prop) (fc:Nat -> Fl) (w:World) (h:DiskAt w d F R D fc) (hb:Ref D b) (h1:w.heap[a1]?=some (.cells #[.pointer (some ⟨b,0,none⟩)] 104 (0,0)))
  (h2:w.heap[a2]?=some (.cells #[.int .i64 n] 3 (0,0))) (hx1:¬ F a1) (hx2:¬ F a2) (hn:n <= (fc b).b.length) :
  Calls Tryz.prog 120 #[.pointer (some ⟨a1,0,none⟩),.pointer (some ⟨a2,0,none⟩)] w fun e w'=>(∃ v,e=.returned v) /\ Now w w' d F R D (setf fc b ⟨(fc b).b.take n,min n (fc b).lasts⟩):=by
 have H:=qq h;have HB:=qq hb;obtain ⟨⟨v,q1,q2,q3,q4⟩,q5⟩:=h.file b hb;have Q2:=qq q2;obtain ⟨va,vc,rfl,q6,q7,q8⟩:=q2.rows;have HN:=qq hn;have HQ3:=qq q3;obtain ⟨m,hm⟩:∃ m,m=(fc b).b.length:=⟨_,rfl⟩
 obtain ⟨j,hj⟩:∃ j,j=(fc b).lasts:=⟨_,rfl⟩
 have HM:=qq hm;have HJ:=qq hj;rw [<- hm] at q1 q6 q3 q4 hn;rw [<- hj] at q1 q3;have hab1:¬ a1=b:=fun e=>hx1 (e ▸ q5);have hab2:¬ a2=b:=fun e=>hx2 (e ▸ q5);have H1:=qq h1;have H2:=qq h2;have H4:=qq q1;have hmx:vc <= 9223372036854775807:=by unfold maxLen at q7;exact q7
 have Q7:=qq q7;have c1:w.cell? ⟨a1,0,none⟩=some (.pointer (some ⟨b,0,none⟩)):=cell_of_block h1;have c2:w.cell? ⟨a2,0,none⟩=some (.int .i64 n):=cell_of_block h2;have c3:w.cell? ⟨b,1,none⟩=some (.int .i64 j):=(cell_of_block q1).trans rfl;clear h hb h1 h2 hm hj q1 q2 q5 q8 hx1 hx2;go_enter Tryz.func120,Tryz.ntmps120;have HS:Hid ((fun u:World=>u.cell? ⟨a1,0,none⟩=some (.pointer (some ⟨b,0,none⟩)) /\ u.cell? ⟨a2,0,none⟩=some (.int .i64 n) /\ u.cell? ⟨b,1,none⟩=some (.int .i64 j)) w.drew):=⟨c1,c2,c3⟩
 refine WT.region (fun u:World=>u.cell? ⟨a1,0,none⟩=some (.pointer (some ⟨b,0,none⟩)) /\ u.cell? ⟨a2,0,none⟩=some (.int .i64 n) /\ u.cell? ⟨b,1,none⟩=some (.int .i64 j)) 18 21 [0,1,2,3,4,6,7,9,10,11,12,13,14,5,8,15,16,17,18,19,20] (by kernel_rfl) rfl ?_;refine WT.t 0 (v:=.pointer (some ⟨b,0,none⟩)) (y:=by rintro w ⟨C1,C2⟩;exact zb (by kernel_rfl) (by rfl) C1) (s:=HS.out) (h:=?_);refine WT.t 1 (v:=.pointer (some ⟨b,0,none⟩)) (y:=by rintro w ⟨C1,C2⟩;exact zb (by kernel_rfl) (by rfl) C1) (s:=HS.out) (h:=?_);refine WT.t 2 (v:=.pointer (some ⟨b,0,none⟩)) (y:=by rintro w ⟨C1,C2⟩;exact zb (by kernel_rfl) (by rfl) C1) (s:=HS.out) (h:=?_);refine WT.t 3 (v:=_) (y:=by rintro w ⟨C1,C2⟩;go_simp;with_reducible rfl) (s:=HS.out) (h:=?_);refine WT.t 4 (v:=_) (y:=by rintro w ⟨C1,C2⟩;go_simp;with_reducible rfl) (s:=HS.out) (h:=?_);refine WT.t 6 (v:=.int .i64 n) (y:=by rintro w ⟨C1,C2,C3⟩;exact zb (by kernel_rfl) (by rfl) C2) (s:=HS.out) (h:=?_);refine WT.t 7 (v:=.int .i64 n) (y:=by rintro w ⟨C1,C2,C3⟩;exact zb (by kernel_rfl) (by rfl) C2) (s:=HS.out) (h:=?_);refine WT.t 9 (v:=.int .i64 n) (y:=by rintro w ⟨C1,C2,C3⟩;exact zb (by kernel_rfl) (by rfl) C2) (s:=HS.out) (h:=?_);refine WT.t 10 (v:=.pointer (some ⟨b,0,none⟩)) (y:=by rintro w ⟨C1,C2⟩;exact zb (by kernel_rfl) (by rfl) C1) (s:=HS.out) (h:=?_);refine WT.t 11 (v:=_) (y:=by rintro w ⟨C1,C2⟩;go_simp;with_reducible rfl) (s:=HS.out) (h:=?_);refine WT.t 12 (v:=_) (y:=by rintro w ⟨C1,C2⟩;go_simp;with_reducible rfl) (s:=HS.out) (h:=?_);refine WT.t 13 (v:=.int .i64 j) (y:=by rintro w ⟨C1,C2,C3⟩;exact zb (by kernel_rfl) (by rfl) C3) (s:=HS.out) (h:=?_);refine WT.t 14 (v:=.int .i64 (min n j:Nat)) (y:=by rintro w ⟨C1,C2,C3⟩;exact by go_simp;first | (split <;> omega) | omega) (s:=HS.out) (h:=?_);refine WT.only 5 (v:=.slice va m vc) (by simp only [qi];rfl) (by kernel_rfl) (by rfl) (zb (w:=w.drew) (by kernel_rfl) (by rfl) ((cell_of_block (w:=w.drew) H4.out).trans rfl)) HS.out ?_;simp only [Nat.reduceAdd,qn];refine WT.only 8 (v:=.slice va n n) (by simp only [qi];rfl) (by kernel_rfl) (by rfl) (by go_simp;(try constructor) <;> intros <;> omega) HS.out ?_;simp only [Nat.reduceAdd,qn];refine WT.only 15 (v:=_) (by simp only [qi];rfl) (by kernel_rfl) (by rfl) (by go_simp;first | with_reducible rfl | exact ⟨rfl,rfl⟩) HS.out ?_;simp only [Nat.reduceAdd,qn];refine WT.only 16 (v:=_) (by simp only [qi];rfl) (by kernel_rfl) (by rfl) (by go_simp;first | with_reducible rfl | exact ⟨rfl,rfl⟩) HS.out ?_;simp only [Nat.reduceAdd,qn];refine WT.onlySkipE 17 (by simp only [qi];rfl) (by kernel_rfl) (by rfl) (zd (w:=w.drew) (v:=.slice va n n) (n:=1) (by kernel_rfl) (by rfl) (by rfl) H4.out (by rfl) (by simp) (by simp [Value.cells,Value.oneCell'])) ?_;intro w2 s2;have k2:Keeps (·=b) w w2:=(Keeps.refl (·=b) w).drew.trans s2.k (fun _ _ e=>e);have B2:w2.heap[b]?=some (.cells #[.slice va n n,.int .i64 j] 115 (0,0)):=s2.blk;have HS2:Hid ((fun u:World=>u.cell? ⟨a1,0,none⟩=some (.pointer (some ⟨b,0,none⟩)) /\ u.cell? ⟨a2,0,none⟩=some (.int .i64 n) /\ u.cell? ⟨b,1,none⟩=some (.int .i64 j)) w2):=⟨cell_of_block (k2.at H1.out hab1),cell_of_block (k2.at H2.out hab2),(cell_of_block B2).trans rfl⟩
 refine ⟨HS2.out,?_⟩;simp only [Nat.reduceAdd,qn];refine WT.stop (by kernel_rfl) ?_;refine WP.o 18 (v:=_) (y:=by go_simp;first | with_reducible rfl | exact ⟨rfl,rfl⟩) (h:=?_);refine WP.o 19 (v:=_) (y:=by go_simp;first | with_reducible rfl | exact ⟨rfl,rfl⟩) (h:=?_);refine WP.onlySkipE 20 (by simp only [qi];rfl) (by kernel_rfl) (by rfl) (zd (v:=.int .i64 (min n j:Nat)) (n:=1) (by kernel_rfl) (by rfl) (by rfl) B2 (by rfl) (by simp) (by simp [Value.cells,Value.oneCell'])) ?_;intro w5 s5;simp only [Nat.reduceAdd,qn];refine WP.done (by kernel_rfl) ?_;go_wp2;go_end0;have kb:Keeps (·=b) w w5:=k2.trans s5.k (fun _ _ e=>e);have k5:Keeps F w w5:=kb.mono (fun i _ e=>e ▸ (H.out.file b HB.out).2);have B5:w5.heap[b]?=some (.cells #[.slice va n n,.int .i64 (min n (fc b).lasts:Nat)] 115 (0,0)):=by rw [<- HJ.out];exact s5.blk
 have hl:((fc b).b.take n).length=n:=by rw [List.length_take];have:=HN.out;omega
 refine ⟨⟨_,rfl⟩,Now.of (F:=F) (R:=R) ?_ k5⟩;refine H.out.set HB.out kb ⟨_,B5,?_,?_,?_⟩ (fun _ h=>h) (fun _ h=>.inl h)
 ·exact (Q2.out.keeps kb (fun k hr e=>H.out.apart k (e ▸ (H.out.file b HB.out).2) hr)).take HN.out (Nat.le_refl _) (Nat.le_trans hn (Nat.le_trans q6 Q7.out))
 ·simp only;rw [hl];omega
 ·simp only;rw [hl];omega
theorem z8l (d:Nat) (s:ByteArray) (n:Int) (D:Dk) (F R:Nat -> Prop) (fc:Nat -> Fl) (w:World) (h:DiskAt w d F R D fc) (hs:s.size <= maxLen) (hc:D.changes < 1000000) (hn:-9223372036854775808 <= n /\ n <= 9223372036854775807) :
  Calls Tryz.prog 61 #[.pointer (some ⟨d,0,none⟩),.string s,.int .i64 n] w fun e w'=>∃ (er:Int) (D':Dk) (fc':Nat -> Fl),e=.returned (.int .i64 er) /\ Now w w' d F R D' fc' /\ CutR D fc s n er D' fc':=by
 have H:=qq h;have HS:=qq hs;have HC:=qq hc;have HN:=qq hn;obtain ⟨⟨m1,m2,sv,h3,h4,h5,h6,h7,h8,h9⟩,g1,g2,g3,g3b,g4,g5,g6⟩:=h;have H3:=qq h3;have H4:=qq h4;have G5:=qq g5;clear hs hc g2 g3 g3b g4 h4 h5 h6 h7 h3 h8 h9 g1 g6 g5 hn;go_enter Tryz.func61,Tryz.ntmps61;go_wp2_with (first | go_skip | (with_reducible refine zn (t:=3) ?_))
 refine za (vbox1 (v:=.int .i64 n) (by rfl) (by rfl) ?_);intro a2 w1 n1;simp only [Nat.reduceAdd,qn];have B2:=qq n1.blk;have K1:=qq n1.k;have XF2:Hid (¬ F a2):=fun e=>by have:=G5.out _ e;have:=n1.ge;omega
 have FA:=qq (z1m d m1 m2 sv D w1 (n1.k.nb H3.out) (H4.out.nb n1.k) s HS.out);clear n1;go_wp2_with fail;refine FA.out.mono ?_;rintro _ w2 ⟨rfl,k2⟩;obtain ⟨r,er,hr⟩:∃ r er,found D s=(r,er):=⟨_,_,rfl⟩
 have HR:=qq hr;rw [hr];clear hr FA;simp only;go_wp2_with (first | go_skip | (with_reducible refine z2x (t:=104) ?_))
 refine za (valloc (z:=.pointer none) zero63i ?_);intro a1 w3 n3;simp only [Nat.reduceAdd,qn];have c3:=n3.blk;go_wp2_with (first | go_skip | (with_reducible refine zf (t:=104) ?_))
 refine za (zc rfl (zd (v:=ptr r) (n:=1) (by kernel_rfl) (by rfl) (by rfl) c3 (by cases r <;> rfl) (by simp [Value.cells]) (by cases r <;> simp [ptr,Value.cells,Value.oneCell'])) ?_);intro w4 s4;simp only [Nat.reduceAdd,qn];have k14:Keeps Nb w1 w4:=(k2.trans_nb n3.k).own (Nat.le_trans k2.size n3.ge) s4.k;have K4:=qq (K1.out.trans_nb k14);have XF1:Hid (¬ F a1):=fun e=>by have:=G5.out _ e;have:=n3.ge;have:=k2.size;have:=K1.out.size;omega
 have B1:Hid (w4.heap[a1]?=some (.cells #[ptr r] 104 (0,0))):=by
  have:=s4.blk;cases r <;> exact this
 have B24:=qq (k14.nb B2.out);have c24:w4.cell? ⟨a2,0,none⟩=some (.int .i64 n):=cell_of_block B24.out;clear n3 c3 s4 k14 k2 B2;have her:er=2 \/ er=6 \/ er=0:=by
  rcases z03 D s with ⟨q1,q2⟩ | ⟨q1,q2,q3⟩ | ⟨b,q1,q2,q3⟩
  ·have:=q2.symm.trans HR.out;simp at this;omega
  ·have:=q3.symm.trans HR.out;simp at this;omega
  ·have:=q3.symm.trans HR.out;simp at this;omega
 have her1:¬ er=1:=by omega
 by_cases hneg:n < 0
 ·go_wp2;go_ret;exact ⟨_,_,_,rfl,Now.same H.out K4.out,.inl ⟨hneg,rfl,rfl,rfl⟩⟩
 have h0:0 <= n:=by omega
 have H0:=qq h0;clear her;rcases z03 D s with ⟨q1,q2⟩ | ⟨q1,q2,q3⟩ | ⟨b,q1,q2,q3⟩
 ·
  obtain ⟨rfl,rfl⟩:none=r /\ (2:Int)=er:=by have:=q2.symm.trans HR.out;simpa using this
  clear q2;go_wp2;go_ret;exact ⟨_,rfl,_,_,Now.same H.out K4.out,.inr (.inl ⟨H0.out,q1,rfl,rfl,rfl⟩)⟩
 ·
  obtain ⟨rfl,rfl⟩:none=r /\ (6:Int)=er:=by have:=q3.symm.trans HR.out;simpa using this
  clear q3;go_wp2;go_ret;exact ⟨_,rfl,_,_,Now.same H.out K4.out,.inr (.inr (.inl ⟨H0.out,q1,q2,rfl,rfl,rfl⟩))⟩
 ·
  obtain ⟨rfl,rfl⟩:some b=r /\ (0:Int)=er:=by have:=q3.symm.trans HR.out;simpa using this
  have Q1:=qq q1;have Q2:=qq q2;clear q1 q2 q3 her1;obtain ⟨⟨v,z1,z2,z3,z4⟩,z5⟩:=H.out.file b (z1d Q2.out);obtain ⟨va,vc,rfl,-⟩:=z2;obtain ⟨m,hm⟩:∃ m,m=(fc b).b.length:=⟨_,rfl⟩
  have HM:=qq hm;rw [<- hm] at z1 z4;have C1:∀ u:Sub w4,u.wd.cell? ⟨a1,0,none⟩=some (.pointer (some ⟨b,0,none⟩)):=fun u=>cell_of_block (u.k.nb B1.out);have C2:∀ u:Sub w4,u.wd.cell? ⟨a2,0,none⟩=some (.int .i64 n):=fun u=>cell_of_block (u.k.nb B24.out);have C3:∀ u:Sub w4,u.wd.cell? ⟨b,0,none⟩=some (.slice va m vc):=fun u=>(cell_of_block (u.k.nb (K4.out.nb z1))).trans rfl;have Z5:=qq z5;clear z1 z3 hm z5;go_wp2;refine z2q (by kernel_rfl) (by kernel_rfl) ?_
  repeat (go_big_quiet_step (fail))
  refine wpQuiet_nil ?_;rintro w5 ⟨u5,hu5⟩;have K45:Hid (Keeps Nb w4 w5):=hu5 ▸ u5.k;clear hu5 C1 C2 C3 c24;by_cases hle:(m:Int) < n
  ·go_wp2;go_ret;exact ⟨_,_,_,rfl,Now.same H.out (K4.out.trans_nb K45.out),.inr (.inr (.inr ⟨b,H0.out,Q1.out,Q2.out,.inl ⟨by rw [<- HM.out];exact hle,rfl,rfl,rfl⟩⟩))⟩
  ·
   have HLE:Hid (n <= ((fc b).b.length:Int)):=by rw [<- HM.out];show n <= (m:Int);omega
   have K5:=qq (K4.out.trans_nb K45.out);have B25:=qq (K45.out.nb B24.out);have B15:=qq (K45.out.nb B1.out);have H5:=qq (H.out.nb K5.out);have H35:=qq (K5.out.nb H3.out);cases hdd:D.dead
   ·
    have HW:Hid (Ways w5 d m1 m2 sv (chg D).1 (chg D).2.1 120 89 89 #[.pointer (some ⟨a1,0,none⟩),.pointer (some ⟨a2,0,none⟩)] #[] #[] fun w'=>Now w5 w' d F R (chg D).1 (if (chg D).2.1=1 then setf fc b ⟨(fc b).b.take n.toNat,min n.toNat (fc b).lasts⟩ else fc)):=by
     intro w9 hb9 hk9;have D9:=H5.out.chg H35.out hb9 hk9 HC.out;have kw9:Keeps F w5 w9:=hk9.mono (fun i _ e=>e ▸ H.out.fd);have hd:∀ x,¬ F x -> ¬ x=d:=fun x hx e=>hx (e ▸ H.out.fd);have hn:=z01 D;have hrf:Ref (chg D).1 b:=z1d (by rw [hn.1];exact Q2.out);have hno:(chg D).2.1 ≠ 1 -> Now w5 w9 d F R (chg D).1 (if (chg D).2.1=1 then setf fc b ⟨(fc b).b.take n.toNat,min n.toNat (fc b).lasts⟩ else fc):=fun e=>by rw [if_neg e];exact Now.of D9 kw9
     refine ⟨fun e=>hno (by omega),fun e=>?_,fun e=>z06 (hno (by omega)),fun e=>z06 (hno (by omega))⟩;rw [if_pos e];have hN2:=HLE.out;have hB:w9.heap[a2]?=some (.cells #[.int .i64 (n.toNat:Nat)] 3 (0,0)):=by rw [Int.toNat_of_nonneg H0.out];exact hk9.at B25.out (hd _ XF2.out)
     exact (zfq d b a1 a2 n.toNat (chg D).1 F R fc w9 D9 hrf (hk9.at B15.out (hd _ XF1.out)) hB XF1.out XF2.out (by omega)).mono (fun e w' h=>⟨h.1,h.2.from kw9⟩)
    have hnu:=H.out.nums;have CA:=qq (z19 d m1 m2 sv D w5 H35.out hdd ⟨hnu.ch.1,hnu.ch.2⟩ hnu.fu hnu.fn hnu.fe 120 89 89 _ _ _ (fun _ _=>rfl) (fun _ _=>rfl) (fun _ _=>rfl) _ HW.out);have HD:=qq hdd;clear HW hdd hnu;go_wp2_with fail;refine CA.out.mono ?_;rintro _ w9 ⟨rfl,hN⟩;go_wp2;go_ret;exact ⟨_,_,_,rfl,hN.from ((Keeps.refl F w).trans_nb K5.out),.inr (.inr (.inr ⟨b,H0.out,Q1.out,Q2.out,.inr (.inr ⟨HLE.out,HD.out,rfl,rfl,rfl⟩)⟩))⟩
   ·have CA:=qq (z0q d m1 m2 sv D w5 H35.out hdd (.func (.func 120) #[] #[.pointer (some ⟨a1,0,none⟩),.pointer (some ⟨a2,0,none⟩)]) (.func (.func 89) #[] #[]) (.func (.func 89) #[] #[]));have HD:=qq hdd;clear hdd;go_wp2_with fail;refine CA.out.mono ?_;rintro _ w9 ⟨rfl,rfl⟩;go_wp2;go_ret;exact ⟨_,_,_,rfl,Now.same H.out K5.out,.inr (.inr (.inr ⟨b,H0.out,Q1.out,Q2.out,.inr (.inl ⟨HLE.out,HD.out,rfl,rfl,rfl⟩)⟩))⟩
end Go.Proofs.YtpjomdmjohjheaaGreatDoor
end
section
namespace Go.Vfs
open Go.Lk Go.RowKit
def Dk.sdir (D:Dk):Dk:={ D with lasting:=D.files,steps:=[] }
def SdirR (D:Dk) (e:Int) (D':Dk):Prop:=(D.dead=true /\ e=8 /\ D'=D) \/ (D.dead=false /\ e=(chg D).2.2 /\ D'=if (chg D).2.1=1 then (chg D).1.sdir else (chg D).1)
end Go.Vfs
namespace Go.Proofs.YtpjomdmjohjheaaGreatDoor
open Go.RowKit Go.Lk Go.Vfs
theorem zdd {P:Program} {w:World} {r:Nat} {es:Array MapEntry} {clock:Nat} (t:TypeId) (hb:w.heap[r]?=some (.map es clock)) :
  (Extern.MapsClone.clone #[.iface t (.map (some r))]).run P w=.ok (.iface t (.map (some w.heap.size))) (w.alloc (.map es clock)):=by
 have e:Extern.MapsClone.clone #[.iface t (.map (some r))]=(getObj r >>= fun o=>match o with
   | .map entries clock=>(newObj (.map entries clock) >>= fun n=>pure (.iface t (.map (some n))))
   | _=>stuck "maps.clone: a map expected"):=rfl
 rw [e];simp [MapKept.run_getObj_map hb,Result.andThen,go_sem]
theorem z8f {P:Program} {w:World} (t xT k e:TypeId) (v:Value) (h:P.underlying t=some (.map k e)):(Instr.typeAssert (.iface t v) xT t false).run P w=.ok v w:=by
 simp [Instr.typeAssert,run_underlying h,go_sem,Result.andThen]
def Cloned2 (l:List (ByteArray × Value)) (w:World) (e:Ending) (w':World):Prop:=∃ g,e=.returned (.map (some g)) /\ w.heap.size <= g /\ SMap w' g l /\ Keeps Nb w w'
theorem z7q (b:Nat) (l:List (ByteArray × Value)) (w:World) (h:SMap w b l):Calls Tryz.prog 83 #[.map (some b)] w (Cloned2 l w):=by
 obtain ⟨es,clock,hb,h2⟩:=h;have H2:=qq h2;clear h2;have q:∀ (w:World) (r:Option Nat),(binOp .eql 71 (.map r) (.map none)).run Tryz.prog w=.ok (.bool r.isNone) w:=fun w r=>run_eql_map_nil w _ _ _ r Tryz.underlying71;go_enter Tryz.func83,Tryz.ntmps83;go_wp2;rw [run_callFunc_extern Tryz.func133 (by kernel_rfl) (by kernel_rfl) (by kernel_rfl) (e:=Extern.MapsClone.clone) (by kernel_rfl),zdd 71 hb];simp only [Result.andThen];rw [Oper.upon_value];go_wp2;rw [z8f 71 _ _ _ _ Tryz.underlying71];simp only [Result.andThen];rw [Oper.upon_value];go_wp2;go_ret;exact ⟨_,rfl,Nat.le_refl _,⟨es,clock,(newAt _ _).blk,H2.out⟩,(newAt _ _).k⟩
theorem zey (d a1:Nat) (D:Dk) (F R:Nat -> Prop) (fc:Nat -> Fl) (w:World) (h:DiskAt w d F R D fc) (h1:w.heap[a1]?=some (.cells #[.pointer (some ⟨d,0,none⟩)] 37 (0,0))) (hx1:¬ F a1) :
  Calls Tryz.prog 122 #[.pointer (some ⟨a1,0,none⟩)] w fun e w'=>(∃ v,e=.returned v) /\ Now w w' d F R D.sdir fc:=by
 have H:=qq h;obtain ⟨⟨m1,m2,sv,h3,h4,h5,h6,h7,h8,h9⟩,g1,g2,g3,g3b,g4,g5,g6⟩:=h;have H1:=qq h1;have H3:=qq h3;have H4:=qq h4;have H8:=qq h8;have hdm1:¬ d=m1:=by rintro rfl;obtain ⟨es,cl,q,-⟩:=h4;rw [h3] at q;cases q
 have had:¬ a1=d:=fun e=>hx1 (e ▸ g1);have c1:w.cell? ⟨a1,0,none⟩=some (.pointer (some ⟨d,0,none⟩)):=cell_of_block h1;have c2:w.cell? ⟨d,0,none⟩=some (.map (some m1)):=(cell_of_block h3).trans rfl;clear h1 h3 h4 h5 h6 h7 h8 h9 g1 g2 g3 g3b g4 g5 g6 hx1;go_enter Tryz.func122,Tryz.ntmps122;have HS:Hid ((fun u:World=>u.cell? ⟨a1,0,none⟩=some (.pointer (some ⟨d,0,none⟩)) /\ u.cell? ⟨d,0,none⟩=some (.map (some m1))) w.drew):=⟨c1,c2⟩
 refine WT.region (fun u:World=>u.cell? ⟨a1,0,none⟩=some (.pointer (some ⟨d,0,none⟩)) /\ u.cell? ⟨d,0,none⟩=some (.map (some m1))) 10 13 [0,1,2,3,4,5,6,7,8,9,10,11,12] (by kernel_rfl) rfl ?_;refine WT.t 0 (v:=.pointer (some ⟨d,0,none⟩)) (y:=by rintro w ⟨C1,C2⟩;exact zb (by kernel_rfl) (by rfl) C1) (s:=HS.out) (h:=?_);refine WT.t 1 (v:=.pointer (some ⟨d,0,none⟩)) (y:=by rintro w ⟨C1,C2⟩;exact zb (by kernel_rfl) (by rfl) C1) (s:=HS.out) (h:=?_);refine WT.t 2 (v:=.pointer (some ⟨d,0,none⟩)) (y:=by rintro w ⟨C1,C2⟩;exact zb (by kernel_rfl) (by rfl) C1) (s:=HS.out) (h:=?_);refine WT.t 3 (v:=_) (y:=by rintro w ⟨C1,C2⟩;go_simp;with_reducible rfl) (s:=HS.out) (h:=?_);refine WT.t 4 (v:=_) (y:=by rintro w ⟨C1,C2⟩;go_simp;with_reducible rfl) (s:=HS.out) (h:=?_);refine WT.t 5 (v:=.map (some m1)) (y:=by rintro w ⟨C1,C2⟩;exact zb (by kernel_rfl) (by rfl) C2) (s:=HS.out) (h:=?_);refine WT.call 6 (by simp only [qi];rfl) (by kernel_rfl) (by rfl) (by go_simp;first | done | rfl | exact ⟨⟨rfl,rfl⟩,rfl⟩) (z7q m1 (vals D.files) w.drew (H4.out.nb (Keeps.refl Nb w).drew)) ?_;rintro _ w2 ⟨g,rfl,hg,hm,k2⟩;have k02:Keeps Nb w w2:=(Keeps.refl Nb w).drew.trans_nb k2;have HS2:Hid ((fun u:World=>u.cell? ⟨a1,0,none⟩=some (.pointer (some ⟨d,0,none⟩)) /\ u.cell? ⟨d,0,none⟩=some (.map (some m1))) w2):=⟨cell_of_block (k02.nb H1.out),(cell_of_block (k02.nb H3.out)).trans rfl⟩
 refine ⟨_,rfl,HS2.out,?_⟩;simp only [Nat.reduceAdd,qn];refine WT.only 7 (v:=_) (by simp only [qi];rfl) (by kernel_rfl) (by rfl) (by go_simp;first | with_reducible rfl | exact ⟨rfl,rfl⟩) HS2.out ?_;simp only [Nat.reduceAdd,qn];refine WT.only 8 (v:=_) (by simp only [qi];rfl) (by kernel_rfl) (by rfl) (by go_simp;first | with_reducible rfl | exact ⟨rfl,rfl⟩) HS2.out ?_;simp only [Nat.reduceAdd,qn];refine WT.onlySkipE 9 (by simp only [qi];rfl) (by kernel_rfl) (by rfl) (zd (v:=.map (some g)) (n:=1) (by kernel_rfl) (by rfl) (by rfl) (k02.nb H3.out) (by rfl) (by simp [dcs]) (by simp [Value.cells,Value.oneCell'])) ?_;intro w3 s3;have B3:w3.heap[d]?=some (.cells (dcs m1 g sv D) 76 (0,0)):=s3.blk;have HS3:Hid ((fun u:World=>u.cell? ⟨a1,0,none⟩=some (.pointer (some ⟨d,0,none⟩)) /\ u.cell? ⟨d,0,none⟩=some (.map (some m1))) w3):=⟨cell_of_block (s3.k.at (k02.nb H1.out) had),(cell_of_block B3).trans rfl⟩
 refine ⟨HS3.out,?_⟩;simp only [Nat.reduceAdd,qn];refine WT.stop (by kernel_rfl) ?_;refine WP.o 10 (v:=_) (y:=by go_simp;first | with_reducible rfl | exact ⟨rfl,rfl⟩) (h:=?_);refine WP.o 11 (v:=_) (y:=by go_simp;first | with_reducible rfl | exact ⟨rfl,rfl⟩) (h:=?_);refine WP.onlySkipE 12 (by simp only [qi];rfl) (by kernel_rfl) (by rfl) (zd (v:=.slice none 0 0) (n:=1) (by kernel_rfl) (by rfl) (by rfl) B3 (by rfl) (by simp [dcs]) (by simp [Value.cells,Value.oneCell'])) ?_;intro w5 s5;simp only [Nat.reduceAdd,qn];refine WP.done (by kernel_rfl) ?_;go_wp2;go_end0;have B5:w5.heap[d]?=some (.cells (dcs m1 g (.slice none 0 0) D.sdir) 76 (0,0)):=s5.blk;have kd:Keeps (·=d) w w5:=((Keeps.of_nb k02).trans s3.k (fun _ _ e=>e)).trans s5.k (fun _ _ e=>e);have k5:Keeps F w w5:=kd.mono (fun i _ e=>e ▸ H.out.fd);have hg':w.heap.size <= g:=hg;have hgd:¬ g=d:=by have:=H.out.ltF d H.out.fd;omega
 have z2:=hm.lt;have z3:=s3.k.size;have z5:=s5.k.size;have hRd:∀ k,R k -> ¬ k=d:=fun k hr e=>by subst e;exact H.out.apart _ H.out.fd hr
 obtain ⟨nz1,nz2,nz3,nz4,nz5,nz6,nz7,nz8⟩:=H.out.nums;refine ⟨⟨_,rfl⟩,Up F w w5,R,⟨⟨m1,g,_,B5,H4.out.keeps kd (fun e=>hdm1 e.symm),(hm.keeps s3.k hgd).keeps s5.k hgd,?_,RowS.nil _ _ _ _ _,.inl H8.out,.inr ⟨hg',by omega⟩⟩,.inl H.out.fd,?_,?_,?_,?_,fun k hk=>Up.lt H.out.ltF k5.size hk,fun k hk=>Nat.lt_of_lt_of_le (H.out.ltR k hk) k5.size⟩,fun k hk=>hk.imp id fun x=>x.1,fun k hk=>.inl hk,k5⟩
 ·have:=H4.out.lt;omega
 ·
  intro b hb;have hb':Ref D b:=by
   rcases hb with h | h | ⟨s,hs,-⟩
   ·exact .inl h
   ·exact .inl h
   ·cases hs
  exact ⟨(H.out.file b hb').1.keeps kd (H.out.ne_file hb') hRd,.inl (H.out.file b hb').2⟩
 ·exact ⟨nz1,nz2,nz3,nz4,nz5,nz6,nz6,by simp [Dk.sdir];omega⟩
 ·exact ⟨H.out.names.files,H.out.names.files,fun s hs=>by cases hs⟩
 ·
  rintro k (hk | hk) hr
  ·exact H.out.apart k hk hr
  ·have:=H.out.ltR k hr;omega
theorem zh1 (d:Nat) (D:Dk) (F R:Nat -> Prop) (fc:Nat -> Fl) (w:World) (h:DiskAt w d F R D fc) (hc:D.changes < 1000000) :
  Calls Tryz.prog 64 #[.pointer (some ⟨d,0,none⟩)] w fun e w'=>∃ (er:Int) (D':Dk),e=.returned (.int .i64 er) /\ Now w w' d F R D' fc /\ SdirR D er D':=by
 have H:=qq h;have HC:=qq hc;obtain ⟨⟨m1,m2,sv,h3,h4,h5,h6,h7,h8,h9⟩,g1,g2,g3,g3b,g4,g5,g6⟩:=h;have H3:=qq h3;have G5:=qq g5;clear hc g2 g3 g3b g4 h4 h5 h6 h7 h3 h8 h9 g1 g6 g5;go_enter Tryz.func64,Tryz.ntmps64;go_wp2_with (first | go_skip | (with_reducible refine zn (t:=37) ?_))
 refine za (vbox1 (v:=.pointer (some ⟨d,0,none⟩)) (by rfl) (by rfl) ?_);intro a1 w1 n1;simp only [Nat.reduceAdd,qn];have B1:=qq n1.blk;have K1:=qq n1.k;have XF1:Hid (¬ F a1):=fun e=>by have:=G5.out _ e;have:=n1.ge;omega
 have c1:w1.cell? ⟨a1,0,none⟩=some (.pointer (some ⟨d,0,none⟩)):=cell_of_block n1.blk;have TH:=qq (z3h d m1 (.map none) (.map none) [] w1 ((cell_of_block (n1.k.nb H3.out)).trans rfl));clear n1;go_wp2_with fail;refine TH.out.mono ?_;rintro e w' ⟨rfl,rfl⟩;have H31:=qq (K1.out.nb H3.out);have H1:=qq (H.out.nb K1.out);cases hdd:D.dead
 ·
  have HW:Hid (Ways w1 d m1 m2 sv (chg D).1 (chg D).2.1 122 89 89 #[.pointer (some ⟨a1,0,none⟩)] #[] #[] fun w'=>Now w1 w' d F R (if (chg D).2.1=1 then (chg D).1.sdir else (chg D).1) fc):=by
   intro w9 hb9 hk9;have D9:=H1.out.chg H31.out hb9 hk9 HC.out;have kw9:Keeps F w1 w9:=hk9.mono (fun i _ e=>e ▸ H.out.fd);have hno:(chg D).2.1 ≠ 1 -> Now w1 w9 d F R (if (chg D).2.1=1 then (chg D).1.sdir else (chg D).1) fc:=fun e=>by rw [if_neg e];exact Now.of D9 kw9
   refine ⟨fun e=>hno (by omega),fun e=>?_,fun e=>z06 (hno (by omega)),fun e=>z06 (hno (by omega))⟩;rw [if_pos e];exact (zey d a1 (chg D).1 F R fc w9 D9 (hk9.at B1.out (fun e=>XF1.out (e ▸ H.out.fd))) XF1.out).mono (fun e w' h=>⟨h.1,h.2.from kw9⟩)
  have hnu:=H.out.nums;have CA:=qq (z19 d m1 m2 sv D w1 H31.out hdd ⟨hnu.ch.1,hnu.ch.2⟩ hnu.fu hnu.fn hnu.fe 122 89 89 _ _ _ (fun _ _=>rfl) (fun _ _=>rfl) (fun _ _=>rfl) _ HW.out);have HD:=qq hdd;clear HW hdd hnu;go_wp2_with fail;refine CA.out.mono ?_;rintro _ w9 ⟨rfl,hN⟩;go_wp2;go_ret;exact ⟨_,_,rfl,hN.from ((Keeps.refl F w).trans_nb K1.out),.inr ⟨HD.out,rfl,rfl⟩⟩
 ·have CA:=qq (z0q d m1 m2 sv D w1 H31.out hdd (.func (.func 122) #[] #[.pointer (some ⟨a1,0,none⟩)]) (.func (.func 89) #[] #[]) (.func (.func 89) #[] #[]));have HD:=qq hdd;clear hdd;go_wp2_with fail;refine CA.out.mono ?_;rintro _ w9 ⟨rfl,rfl⟩;go_wp2;go_ret;exact ⟨_,_,rfl,Now.same H.out K1.out,.inl ⟨HD.out,rfl,rfl⟩⟩
end Go.Proofs.YtpjomdmjohjheaaGreatDoor
end
section
namespace Go.Lk
open Go.RowKit Go.MapKept Go.ChangeMaps
variable {P:Program} {t k e te:TypeId} {S:Nat -> Prop} {w w':World} {m:Nat} {f:Option Nat -> Option Value} {a b:Option Nat}
def pk:Option Nat -> Value
 | none=>.pointer none
 | some b=>.pointer (some ⟨b,0,none⟩)
theorem z92 (h:pk a=pk b):a=b:=by
 cases a <;> cases b <;> simp [pk] at h ⊢
 exact h
structure PmT (P:Program) (t k e te:TypeId):Prop where
 ht:P.underlying t=some (.map k e)
 hk:P.underlying k=some (.pointer te)
 hte:∃ j,P.info? te=some j /\ j.size ≠ 0
def IsObj (w:World) (a:Option Nat):Prop:=∀ b,a=some b -> ∃ c t,w.heap[b]?=some (.cells c t (0,0))
theorem IsObj.keeps (h:IsObj w a) (hk:Keeps S w w') (hn:∀ b,a=some b -> ¬ S b):IsObj w' a:=fun b hb=>by
 obtain ⟨c,t,h1⟩:=h b hb;exact ⟨c,t,hk.at h1 (hn b hb)⟩
theorem PmT.eqIn (T:PmT P t k e te) (d:Nat) (ha:IsObj w a) (hb:IsObj w b):(Op.equalIn (d + 1) k (pk a) (pk b)).run P w=.ok (decide (a=b)) w:=by
 obtain ⟨j,hj,hsz⟩:=T.hte;cases a with
 | none=>cases b <;> simp [pk,Op.equalIn,run_underlying T.hk]
 | some a =>
  cases b with
  | none=>simp [pk,Op.equalIn,run_underlying T.hk]
  | some b =>
   obtain ⟨ca,ta,h1⟩:=ha a rfl;obtain ⟨cb,tb,h2⟩:=hb b rfl;by_cases hab:a=b
   ·subst hab;simp [pk,Op.equalIn,run_underlying T.hk,sizeOf,typeInfo,hj,run_sameAddr_same]
   ·have hne:(⟨a,0,none⟩:Addr) ≠ ⟨b,0,none⟩:=fun e=>hab (by cases e;rfl);simp [pk,Op.equalIn,run_underlying T.hk,sizeOf,typeInfo,hj,hsz,run_sameAddr_other w hne h1 h2,hab]
theorem PmT.eq (T:PmT P t k e te) (ha:IsObj w a) (hb:IsObj w b):(Op.equal k (pk a) (pk b)).run P w=.ok (decide (a=b)) w:=T.eqIn 9999 ha hb
theorem PmT.asking (T:PmT P t k e te) (ha:IsObj w a):∀ (es:List MapEntry) (i:Nat),(∀ x ∈ es,∃ b,IsObj w b /\ x.key=pk b) ->
  ((Instr.findAsking k (pk a) es i).run P w=.ok none w /\ ∀ x ∈ es,x.key ≠ pk a) \/ ∃ j x,(Instr.findAsking k (pk a) es i).run P w=.ok (some (i + j,x.val)) w /\ es[j]?=some x /\ x.key=pk a
 | [],i,_=>.inl ⟨by simp [Instr.findAsking],by simp⟩
 | x :: es,i,h=>by
  obtain ⟨b,hb,hx⟩:=h x (by simp);by_cases hab:a=b
  ·subst hab;refine .inr ⟨0,x,?_,rfl,hx⟩;unfold Instr.findAsking;simp [hx,T.eq ha hb,Result.andThen]
  ·
   have hne:x.key ≠ pk a:=fun e=>hab (z92 (hx.symm.trans e)).symm;have step:(Instr.findAsking k (pk a) (x :: es) i).run P w=(Instr.findAsking k (pk a) es (i + 1)).run P w:=by
    rw [Instr.findAsking];simp [hx,T.eq ha hb,Result.andThen,hab]
   rw [step];rcases T.asking ha es (i + 1) (fun y hy=>h y (by simp [hy])) with ⟨h1,h2⟩ | ⟨j,y,h1,h2,h3⟩
   ·
    refine .inl ⟨h1,fun y hy=>?_⟩;rcases List.mem_cons.1 hy with rfl | hy
    ·exact hne
    ·exact h2 y hy
   ·exact .inr ⟨j + 1,y,by rw [h1,show i + 1 + j=i + (j + 1) by omega],h2,h3⟩
theorem PmT.find (T:PmT P t k e te) (ha:IsObj w a) (es:List MapEntry) (h:∀ x ∈ es,∃ b,IsObj w b /\ x.key=pk b) :
  ((Instr.findKey k (pk a) es).run P w=.ok none w /\ ∀ x ∈ es,x.key ≠ pk a) \/ ∃ j x,(Instr.findKey k (pk a) es).run P w=.ok (some (j,x.val)) w /\ es[j]?=some x /\ x.key=pk a:=by
 cases es with
 | nil=>exact .inl ⟨by simp [Instr.findKey,run_underlying T.hk,Instr.findNow,Result.andThen],by simp⟩
 | cons x es =>
  have:(Instr.findKey k (pk a) (x :: es)).run P w=(Instr.findAsking k (pk a) (x :: es)).run P w:=by
   have hn:Instr.findNow (.pointer te) (pk a) (x :: es) 0=none:=by
    simp [Instr.findNow,Instr.sameNow]
   simp [Instr.findKey,run_underlying T.hk,hn,Result.andThen]
  rw [this];simpa using T.asking ha (x :: es) 0 h
theorem PmT.check (T:PmT P t k e te) (em:Bool) (w:World):(Instr.checkKey em 10000 k (pk a)).run P w=.ok () w:=by
 have h:∀ d:Nat,(Instr.checkKey em (d + 1) k (pk a)).run P w=.ok () w:=fun d=>by cases a <;> simp [pk,Instr.checkKey,run_underlying T.hk,Result.andThen]
 exact h 9999
def PMap (w:World) (m:Nat) (f:Option Nat -> Option Value):Prop :=
 ∃ es clock,w.heap[m]?=some (.map es clock) /\ Stamped es clock /\ (∀ x ∈ es.toList,∃ a,IsObj w a /\ x.key=pk a /\ f a=some x.val) /\ ∀ a v,f a=some v -> ∃ x ∈ es.toList,x.key=pk a /\ x.val=v
theorem PMap.lt (h:PMap w m f):m < w.heap.size:=by obtain ⟨_,_,h1,-⟩:=h;exact lt_of_block h1
theorem PMap.keeps (h:PMap w m f) (hk:Keeps S w w') (hn:¬ S m) (hS:∀ b,f (some b) ≠ none -> ¬ S b):PMap w' m f:=by
 obtain ⟨es,clock,h1,h2,h3,h4⟩:=h;refine ⟨es,clock,hk.at h1 hn,h2,fun x hx=>?_,h4⟩;obtain ⟨a,g1,g2,g3⟩:=h3 x hx;exact ⟨a,g1.keeps hk (fun b hb=>hS b (by rw [<- hb,g3];simp)),g2,g3⟩
theorem zel (h:w.heap[m]?=some (.map #[] 0)):PMap w m (fun _=>none):=⟨#[],0,h,stamped_empty 0,by simp,by simp⟩
theorem PMap.look (h:PMap w m f) (T:PmT P t k e te) {z:Value} (hz:(zeroValue e).run P w=.ok z w) (ha:IsObj w a) (c:Bool) :
  (Instr.lookup t (.map (some m)) (pk a) c).run P w=.ok (if c then .tuple #[(f a).getD z,.bool (f a).isSome] else (f a).getD z) w:=by
 obtain ⟨es,clock,hb,hst,h3,h4⟩:=h;rcases T.find ha es.toList (fun x hx=>by obtain ⟨b,g1,g2,-⟩:=h3 x hx;exact ⟨b,g1,g2⟩) with ⟨h5,h6⟩ | ⟨j,x,h5,h6,h7⟩
 ·
  have hf:f a=none:=by
   cases hfl:f a with
   | none=>rfl
   | some v=>obtain ⟨x,hx,hk,-⟩:=h4 a v hfl;exact absurd hk (h6 x hx)
  simp [Instr.lookup,run_underlying T.ht,MapKept.run_getObj_map hb,T.check,h5,hz,Result.andThen,hf]
 ·obtain ⟨b,-,g2,g3⟩:=h3 x (List.mem_of_getElem? h6);have hba:b=a:=z92 (g2.symm.trans h7);subst hba;simp [Instr.lookup,run_underlying T.ht,MapKept.run_getObj_map hb,T.check,h5,Result.andThen,g3]
def pput (f:Option Nat -> Option Value) (a:Option Nat) (v:Value):Option Nat -> Option Value:=fun x=>if x=a then some v else f x
theorem zh0 (a:Option Nat) (w:World):(Instr.keyThatStays (pk a) (pk a)).run P w=.ok (pk a) w:=by
 cases a <;> simp [Instr.keyThatStays,pk,Instr.sameBits]
theorem PMap.put (h:PMap w m f) (T:PmT P t k e te) (ha:IsObj w a) (v:Value) :
  ∃ w',(Instr.mapUpdate t (.map (some m)) (pk a) v).run P w=.ok () w' /\ PMap w' m (pput f a v) /\ Keeps (·=m) w w':=by
 obtain ⟨es,clock,hb,hst,h3,h4⟩:=h
 have hrow:∀ {b:Option Nat} {o:Obj},IsObj w b -> IsObj (setBlock w m o) b:=fun {b o} h=>h.keeps (z09 hb o) (fun c hc e=>by
  obtain ⟨cc,tt,h1⟩:=h c hc;subst e
  rw [hb] at h1;cases h1)
 rcases T.find ha es.toList (fun x hx=>by obtain ⟨b,g1,g2,-⟩:=h3 x hx;exact ⟨b,g1,g2⟩) with ⟨h5,h6⟩ | ⟨j,x,h5,h6,h7⟩
 ·
  refine ⟨setBlock w m (.map (es.push ⟨pk a,v,clock⟩) (clock + 1)),?_,⟨_,_,heap_setBlock_same hb _,stamped_push hst h6,?_,?_⟩,z09 hb _⟩
  ·simp [Instr.mapUpdate,run_underlying T.ht,MapKept.run_getObj_map hb,T.check,h5,Result.andThen,MapKept.run_setObj_map _ hb,setBlock]
  ·
   intro y hy;rw [Array.toList_push,List.mem_append,List.mem_singleton] at hy;rcases hy with hy | rfl
   ·obtain ⟨b,g1,g2,g3⟩:=h3 y hy;refine ⟨b,hrow g1,g2,?_⟩;unfold pput;rw [if_neg (fun hba=>h6 y hy (by rw [g2,hba]))];exact g3
   ·exact ⟨a,hrow ha,rfl,by simp [pput]⟩
  ·
   intro b v' hv;unfold pput at hv;rw [Array.toList_push];split at hv
   ·rename_i e;subst e;cases hv;exact ⟨_,List.mem_append.2 (.inr (List.mem_singleton.2 rfl)),rfl,rfl⟩
   ·obtain ⟨y,hy,g⟩:=h4 b v' hv;exact ⟨y,List.mem_append.2 (.inl hy),g⟩
 ·
  have hj:es[j]?=some x:=by simpa using h6
  refine ⟨setBlock w m (.map (es.modify j fun e=>{ e with key:=pk a,val:=v }) clock),?_,⟨_,_,heap_setBlock_same hb _,?_,?_,?_⟩,z09 hb _⟩
  ·simp [Instr.mapUpdate,run_underlying T.ht,MapKept.run_getObj_map hb,T.check,h5,Result.andThen,hj,h7,zh0,MapKept.run_setObj_map _ hb,setBlock]
  ·refine stamped_modify hst _ _ (fun _ _=>rfl) (fun y hy hyj=>?_);rw [hj] at hyj;cases hyj;exact h7.symm
  ·
   have hs2:(es.modify j fun e=>{ e with key:=pk a,val:=v }).toList=es.toList.set j { x with key:=pk a,val:=v }:=by rw [Array.toList_modify,modify_eq_set _ _ _ _ h6]
   rw [hs2];intro y hy;obtain ⟨i,hi⟩:=List.mem_iff_getElem?.1 hy;rw [List.getElem?_set] at hi;split at hi
   ·
    split at hi
    ·cases hi;exact ⟨a,hrow ha,rfl,by simp [pput]⟩
    ·cases hi
   ·rename_i hji;have hyin:=List.mem_of_getElem? hi;obtain ⟨b,g1,g2,g3⟩:=h3 y hyin;refine ⟨b,hrow g1,g2,?_⟩;unfold pput;rw [if_neg (fun hba=>hji (z1w hst.2.2 (i:=j) (j:=i) (x:=x.key) (by rw [List.getElem?_map,h6];rfl) (by rw [List.getElem?_map,hi];simp [g2,hba,h7])))];exact g3
  ·
   have hs2:(es.modify j fun e=>{ e with key:=pk a,val:=v }).toList=es.toList.set j { x with key:=pk a,val:=v }:=by rw [Array.toList_modify,modify_eq_set _ _ _ _ h6]
   rw [hs2];intro b v' hv;have hjl:=(List.getElem?_eq_some_iff.1 h6).1;unfold pput at hv;split at hv
   ·rename_i e;subst e;cases hv;exact ⟨_,List.mem_of_getElem? (i:=j) (by rw [List.getElem?_set_self hjl]),rfl,rfl⟩
   ·
    rename_i hne;obtain ⟨y,hy,g1,g2⟩:=h4 b v' hv;obtain ⟨i,hi⟩:=List.mem_iff_getElem?.1 hy;have hij:j ≠ i:=by rintro rfl;rw [h6] at hi;cases hi;exact hne (z92 (g1.symm.trans h7))
    exact ⟨y,List.mem_of_getElem? (i:=i) (by rw [List.getElem?_set_ne hij];exact hi),g1,g2⟩
section
variable {dst:Option Tmp} {s x y:Operand} {ty:TypeId} {pos:String} {aft:Array Edge} {gd:Option (Nat × Bool)} {ac:Act}
theorem zgo {v:Value} (h:PMap w m f) (T:PmT P t k e te) (hs:ac.eval s=.map (some m)) (hx:ac.eval x=pk a) (hy:ac.eval y=v) (ha:IsObj w a) :
  ∃ w',(execOp ac.eval ⟨dst,.mapUpdate t s x y,ty,pos,aft,gd⟩).run P w=.ok .skip w' /\ PMap w' m (pput f a v) /\ Keeps (·=m) w w':=by
 obtain ⟨w',h1,h2⟩:=h.put T ha v;refine ⟨w',?_,h2⟩;unfold execOp;simp only [hs,hx,hy,Sem.run_bind,h1,Result.andThen_ok,Sem.run_pure]
end
end Go.Lk
end
section
namespace Go.Vfs
open Go.Lk Go.RowKit
variable {w w':World} {R R' S F F':Nat -> Prop} {d b:Nat} {x:Fl} {D:Dk} {fc:Nat -> Fl}
theorem z50 (x:Option Nat):ptr x=pk x:=by cases x <;> rfl
def pf (φ:Nat -> Option Nat):Option Nat -> Option Value
 | none=>none
 | some b=>(φ b).map fun c=>pk (some c)
def Rn (w:World) (base:Nat):Nat -> Prop:=fun k=>base <= k /\ k < w.heap.size /\ IsT w 5 k
theorem Rn.keeps {base k:Nat} (h:Rn w base k) (hk:Keeps S w w') (hn:¬ S k):Rn w' base k:=⟨h.1,Nat.lt_of_lt_of_le h.2.1 hk.size,h.2.2.keeps hk hn⟩
structure Copies (base:Nat) (w:World) (mo:Nat) (D:Dk) (fc:Nat -> Fl) (φ:Nat -> Option Nat):Prop where
 map:PMap w mo (pf φ)
 new:∀ b c,φ b=some c -> base <= c /\ FileAt w (Rn w base) c (fc b) /\ Ref D b
 inj:∀ b b' c,φ b=some c -> φ b'=some c -> b=b'
theorem Copies.keeps {base mo:Nat} {φ:Nat -> Option Nat} (h:Copies base w mo D fc φ) (hk:Keeps S w w') (hm:¬ S mo) (hf:∀ k,IsT w 115 k -> ¬ S k) (hr:∀ k,Rn w base k -> ¬ S k) (ho:∀ b,Ref D b -> ¬ S b):Copies base w' mo D fc φ:=by
 refine ⟨h.map.keeps hk hm (fun b hb=>?_),fun b c e=>?_,h.inj⟩
 ·
  cases e:φ b with
  | none=>exact absurd (by simp [pf,e]) hb
  | some c=>exact ho b (h.new b c e).2.2
 ·obtain ⟨h1,h2,h3⟩:=h.new b c e;exact ⟨h1,(h2.keeps hk (hf c h2.isT) hr).mono (fun k hk2=>hk2.keeps hk (hr k hk2)),h3⟩
theorem Copies.nb {base mo:Nat} {φ:Nat -> Option Nat} (h:Copies base w mo D fc φ) (hk:Keeps Nb w w'):Copies base w' mo D fc φ:=h.keeps hk (fun e=>e) (fun _ _ e=>e) (fun _ _ e=>e) (fun _ _ e=>e)
theorem zb7 {base mo:Nat} (h:PMap w mo (fun _=>none)):Copies base w mo D fc (fun _=>none):=by
 refine ⟨?_,fun b c e=>(by cases e),fun b b' c e=>(by cases e)⟩;have:pf (fun _=>none)=fun _=>none:=by funext x;cases x <;> rfl
 rw [this];exact h
def pset (φ:Nat -> Option Nat) (b c:Nat):Nat -> Option Nat:=fun k=>if k=b then some c else φ k
theorem pf_set (φ:Nat -> Option Nat) (b c:Nat):pput (pf φ) (some b) (pk (some c))=pf (pset φ b c):=by
 funext x;cases x with
 | none=>simp [pput,pf]
 | some k =>
  unfold pput pf pset;by_cases h:k=b
  ·simp [h]
  ·simp [h]
theorem pf_get (φ:Nat -> Option Nat) (x:Option Nat):(pf φ x).getD (.pointer none)=pk (x.bind φ):=by
 cases x with
 | none=>rfl
 | some b=>cases h:φ b <;> simp [pf,pk,h]
end Go.Vfs
namespace Go.Proofs.YtpjomdmjohjheaaGreatDoor
open Go.RowKit Go.Lk Go.Vfs
theorem pmT:PmT Tryz.prog 143 104 104 115:=⟨Tryz.underlying143,Tryz.underlying104,by
 obtain ⟨j,h1,h2⟩:=Option.map_eq_some_iff.1 (show (Tryz.prog.info? 115).map (·.size)=some 2 by kernel_rfl)
 exact ⟨j,h1,by omega⟩⟩
def CopyOne (base:Nat) (w:World) (mo:Nat) (D:Dk) (fc:Nat -> Fl) (φ:Nat -> Option Nat) (x:Option Nat) (e:Ending) (w':World):Prop :=
 ∃ φ',e=.returned (pk (x.bind φ')) /\ Copies base w' mo D fc φ' /\ (∀ b c,φ b=some c -> φ' b=some c) /\ (∀ b,x=some b -> φ' b ≠ none) /\ Keeps (·=mo) w w'
theorem z4m (base a3 mo:Nat) (φ:Nat -> Option Nat) (x:Option Nat) (D:Dk) (fc:Nat -> Fl) (R:Nat -> Prop) (w:World) (h:Copies base w mo D fc φ) (h1:w.heap[a3]?=some (.cells #[.map (some mo)] 143 (0,0))) (hb:base <= w.heap.size)
  (hx:∀ b,x=some b -> FileAt w R b (fc b) /\ Ref D b) (hR:∀ k,R k -> k ≠ mo):Calls Tryz.prog 132 #[pk x,.pointer (some ⟨a3,0,none⟩)] w (CopyOne base w mo D fc φ x):=by
 have H:=qq h;have c1:∀ u:Sub w,u.wd.cell? ⟨a3,0,none⟩=some (.map (some mo)):=fun u=>cell_of_block (u.k.nb h1);have C0:=c1 ⟨w,Keeps.refl _ _⟩;have C0':w.cell? ⟨a3,0,none⟩=some (.map (some mo)):=C0;have HO:IsObj w x:=fun b e=>by obtain ⟨⟨v,z1,-⟩,-⟩:=hx b e;exact ⟨_,_,z1⟩
 have PG:=qq (pf_get φ);cases x with
 | none =>
  have LK:(Instr.lookup 143 (.map (some mo)) (.pointer none) false).run Tryz.prog w=.ok (.pointer none) w:=by
   have:=h.map.look pmT (zero63 w) HO false;simpa [pk,pf] using this
  clear h h1 hx C0;show Calls Tryz.prog 132 #[.pointer none,.pointer (some ⟨a3,0,none⟩)] w _;go_enter Tryz.func132,Tryz.ntmps132;go_wp2;go_ret;exact ⟨φ,rfl,H.out,fun _ _ e=>e,fun b e=>(by cases e),Keeps.refl _ _⟩
 | some b =>
  have LK:=qq (h.map.look pmT (zero63 w) HO false);simp only [Bool.false_eq_true,if_false,PG.out] at LK;cases hφ:φ b with
  | some c =>
   have LK2:(Instr.lookup 143 (.map (some mo)) (.pointer (some ⟨b,0,none⟩)) false).run Tryz.prog w=.ok (.pointer (some ⟨c,0,none⟩)) w:=by
    have:=LK.out;simpa [hφ,pk] using this
   have HP:=qq hφ;clear h h1 hx C0 hφ LK;show Calls Tryz.prog 132 #[.pointer (some ⟨b,0,none⟩),.pointer (some ⟨a3,0,none⟩)] w _;go_enter Tryz.func132,Tryz.ntmps132;go_wp2;go_ret;exact ⟨φ,by rw [show (some b).bind φ=some c from HP.out];rfl,H.out,fun _ _ e=>e,fun b' e=>(by cases e;rw [HP.out];simp),Keeps.refl _ _⟩
  | none =>
   have LK2:(Instr.lookup 143 (.map (some mo)) (.pointer (some ⟨b,0,none⟩)) false).run Tryz.prog w=.ok (.pointer none) w:=by
    have:=LK.out;simpa [hφ,pk] using this
   have HP:=qq hφ;obtain ⟨hf,hrf⟩:=hx b rfl;have HF:=qq hf;have HRF:=qq hrf;have H1:=qq h1;have HB:=qq hb;have HOB:=qq HO;clear h h1 hx C0 hφ LK hrf HO hb;show Calls Tryz.prog 132 #[.pointer (some ⟨b,0,none⟩),.pointer (some ⟨a3,0,none⟩)] w _;go_enter Tryz.func132,Tryz.ntmps132;go_wp2;obtain ⟨v,z1,z2,z3,z4⟩:=HF.out;have Z2:=qq z2;obtain ⟨va,vc,rfl,q6,q7,q8⟩:=z2.rows;have hz:∀ z ∈ (fc b).b,z < 256:=by obtain ⟨_,_,_,_,_,_,h,_⟩:=z2;exact h
   have QA:=qq q8;have Z1:=qq z1;have Z3:=qq z3;have HZ:=qq hz;obtain ⟨m,hm⟩:∃ m,m=(fc b).b.length:=⟨_,rfl⟩
   obtain ⟨j,hj⟩:∃ j,j=(fc b).lasts:=⟨_,rfl⟩
   have HM:=qq hm;have HJ:=qq hj;rw [<- hm] at z1 q6 z3 z4;rw [<- hj] at z1 z3;have Z1':=qq z1;have c2:w.cell? ⟨b,0,none⟩=some (.slice va m vc):=(cell_of_block z1).trans rfl;have c3:w.cell? ⟨b,1,none⟩=some (.int .i64 j):=(cell_of_block z1).trans rfl;have hb65:∀ (W:World) (a:Option Addr) (n c k:Nat),(Instr.build 115 #[(0,.slice a n c),(1,.int .i64 (k:Nat))]).run Tryz.prog W=.ok (.agg #[.slice a n c,.int .i64 (k:Nat)]) W:=fun _ _ _ _ _=>by kernel_rfl
   clear hm hj z1 z2 q8 hz LK2 c1;have HS:Hid ((fun u:World=>u.cell? ⟨a3,0,none⟩=some (.map (some mo)) /\ u.cell? ⟨b,0,none⟩=some (.slice va m vc) /\ u.cell? ⟨b,1,none⟩=some (.int .i64 j)) w.drew):=⟨C0',c2,c3⟩
   refine WT.region (fun u:World=>u.cell? ⟨a3,0,none⟩=some (.map (some mo)) /\ u.cell? ⟨b,0,none⟩=some (.slice va m vc) /\ u.cell? ⟨b,1,none⟩=some (.int .i64 j)) 13 14 [0,1,2,3,4,5,7,8,9,10,6,11,12,13] (by kernel_rfl) rfl ?_;refine WT.t 0 (v:=.map (some mo)) (y:=by rintro w ⟨C1,C2⟩;exact zb (by kernel_rfl) (by rfl) C1) (s:=HS.out) (h:=?_);refine WT.t 1 (v:=_) (y:=by rintro w ⟨C1,C2⟩;go_simp;with_reducible rfl) (s:=HS.out) (h:=?_);refine WT.t 2 (v:=_) (y:=by rintro w ⟨C1,C2⟩;go_simp;with_reducible rfl) (s:=HS.out) (h:=?_);refine WT.t 3 (v:=_) (y:=by rintro w ⟨C1,C2⟩;go_simp;with_reducible rfl) (s:=HS.out) (h:=?_);refine WT.t 4 (v:=_) (y:=by rintro w ⟨C1,C2⟩;go_simp;with_reducible rfl) (s:=HS.out) (h:=?_);refine WT.t 5 (v:=.slice va m vc) (y:=by rintro w ⟨C1,C2,C3⟩;exact zb (by kernel_rfl) (by rfl) C2) (s:=HS.out) (h:=?_);refine WT.t 7 (v:=_) (y:=by rintro w ⟨C1,C2⟩;go_simp;with_reducible rfl) (s:=HS.out) (h:=?_);refine WT.t 8 (v:=_) (y:=by rintro w ⟨C1,C2⟩;go_simp;with_reducible rfl) (s:=HS.out) (h:=?_);refine WT.t 9 (v:=_) (y:=by rintro w ⟨C1,C2⟩;go_simp;with_reducible rfl) (s:=HS.out) (h:=?_);refine WT.t 10 (v:=.int .i64 j) (y:=by rintro w ⟨C1,C2,C3⟩;exact zb (by kernel_rfl) (by rfl) C3) (s:=HS.out) (h:=?_);refine WT.call 6 (by simp only [qi];rfl) (by kernel_rfl) (by rfl) (by go_simp;first | done | rfl | exact ⟨⟨rfl,rfl⟩,rfl⟩) (z4l va m vc ((fc b).b.map fun x=>Value.int .u8 (x:Nat)) w.drew ⟨QA.out,by rw [List.length_map,<- HM.out];omega,z1y⟩ ⟨q6,q7⟩ (by omega)) ?_;rintro _ w2 ⟨v',rfl,ho,k2⟩;have k02:Keeps Nb w w2:=(Keeps.refl Nb w).drew.trans_nb k2;have HS2:Hid ((fun u:World=>u.cell? ⟨a3,0,none⟩=some (.map (some mo)) /\ u.cell? ⟨b,0,none⟩=some (.slice va m vc) /\ u.cell? ⟨b,1,none⟩=some (.int .i64 j)) w2):=⟨cell_of_block (k02.nb H1.out),(cell_of_block (k02.nb Z1'.out)).trans rfl,(cell_of_block (k02.nb Z1'.out)).trans rfl⟩
   refine ⟨_,rfl,HS2.out,?_⟩;simp only [Nat.reduceAdd,qn];have hop:=ho;obtain ⟨ua,uc,rfl,u1,u2,u3,u4⟩:=z05 hop;refine WT.only 11 (v:=.agg #[.slice ua m uc,.int .i64 j]) (by simp only [qi];rfl) (by kernel_rfl) (by rfl) (zdc (by rfl) (by rfl) (hb65 _ _ _ _ _)) HS2.out ?_;simp only [Nat.reduceAdd,qn];refine WT.o 12 (y:=re_box (by rfl)) (h:=?_);rintro _ w3 ⟨c,rfl,nc⟩;have k03:Keeps Nb w w3:=k02.trans_nb nc.k;have HS3:Hid ((fun u:World=>u.cell? ⟨a3,0,none⟩=some (.map (some mo)) /\ u.cell? ⟨b,0,none⟩=some (.slice va m vc) /\ u.cell? ⟨b,1,none⟩=some (.int .i64 j)) w3):=⟨cell_of_block (k03.nb H1.out),(cell_of_block (k03.nb Z1'.out)).trans rfl,(cell_of_block (k03.nb Z1'.out)).trans rfl⟩
   refine ⟨HS3.out,?_⟩;simp only [Nat.reduceAdd,qn];refine WT.stop (by kernel_rfl) ?_;have C3:=H.out.nb k03;have HO3:IsObj w3 (some b):=HOB.out.keeps k03 (fun _ _ e=>e);refine WP.onlySkipE 13 (by simp only [qi];rfl) (by kernel_rfl) (by rfl) (zgo (a:=some b) (v:=pk (some c)) C3.map pmT (by rfl) (by rfl) (by rfl) HO3) ?_;rintro w5 ⟨M5,k35⟩;rw [pf_set] at M5;simp only [Nat.reduceAdd,qn];refine WP.done (by kernel_rfl) ?_;have hcg:w2.heap.size <= c:=nc.ge;have hk02:=k02.size;have hk23:=nc.k.size;have hmo:=H.out.map.lt;have hmow:¬ mo=c:=by omega
   have B5:w5.heap[c]?=some (.cells #[.slice ua m uc,.int .i64 j] 115 (0,0)):=k35.at nc.blk (fun e=>hmow e.symm);have hmapT:∀ (e:TypeId) (k:Nat),IsT w3 e k -> ¬ k=mo:=fun e k hk e2=>by obtain ⟨es,cl,q,-⟩:=C3.map;exact hk.map q e2
   have ho5:w5.ownsRow w.heap.size 5 1 (.slice ua m uc) (fc b).b.length ((fc b).b.map fun x=>Value.int .u8 (x:Nat)):=by
    rw [<- HM.out];exact z07 (z07 ho nc.k (fun _ _ e=>e)) k35 (fun k hk e=>by have:w.heap.size <= k:=hk;omega)
   have hT5:∀ k off,ua=some ⟨k,off,none⟩ -> IsT w5 5 k /\ w.heap.size <= k /\ k < w5.heap.size:=fun k off e=>by
    have h:=u4 k off e;have h5:w.heap.size <= k:=h.2.2.1;exact ⟨(h.2.2.2.keeps nc.k (fun e=>e)).keeps k35 (fun e=>by omega),h5,by have:=k35.size;omega⟩
   have hBy:Bytes w5 (Rn w5 base) (.slice ua m uc) (fc b).b:=by
    have hb5:=z1p ho5 HZ.out;obtain ⟨a',c',e1,e2,e3,e4,e5,e6⟩:=hb5;rw [HM.out] at e1 ⊢;cases e1;exact ⟨_,_,rfl,e2,e3,e4,e5,fun k off e hne=>by have h5:=hT5 k off e;have:=HB.out;exact ⟨by omega,h5.2.2,h5.1⟩⟩
   have HC5:Copies base w5 mo D fc (pset φ b c):=by
    refine ⟨M5,fun b' c' e=>?_,fun b1 b2 c' e1 e2=>?_⟩
    ·
     unfold pset at e;split at e
     ·rename_i hbb;subst hbb;cases e;refine ⟨by have:=HB.out;omega,⟨_,by rw [<- HJ.out];exact B5,hBy,Z3.out,by rw [<- HM.out];exact z4⟩,HRF.out⟩
     ·obtain ⟨h1,h2,h3⟩:=C3.new b' c' e;exact ⟨h1,(h2.keeps k35 (hmapT _ _ h2.isT) (fun k hk=>hmapT _ _ hk.2.2)).mono (fun k hk=>hk.keeps k35 (hmapT _ _ hk.2.2)),h3⟩
    ·
     have hlt:∀ b' c',φ b'=some c' -> c' < w.heap.size:=fun b' c' e=>(H.out.new b' c' e).2.1.lt;unfold pset at e1 e2;split at e1 <;> split at e2
     ·omega
     ·cases e1;have:=hlt _ _ e2;omega
     ·cases e2;have:=hlt _ _ e1;omega
     ·exact H.out.inj b1 b2 c' e1 e2
   have K5:Keeps (·=mo) w w5:=(Keeps.of_nb k03).trans k35 (fun _ _ e=>e);have ha3:¬ a3=mo:=fun e=>by obtain ⟨es,cl,q,-⟩:=H.out.map;rw [<- e,H1.out] at q;cases q
   have C0:w5.cell? ⟨a3,0,none⟩=some (.map (some mo)):=cell_of_block (K5.at H1.out ha3);have HO5:IsObj w5 (some b):=HO3.keeps k35 (fun b' hb'=>by cases hb';exact hmapT 115 _ (IsT.keeps ⟨_,_,Z1'.out⟩ k03 (fun e=>e)));have LK3:(Instr.lookup 143 (.map (some mo)) (.pointer (some ⟨b,0,none⟩)) false).run Tryz.prog w5=.ok (.pointer (some ⟨c,0,none⟩)) w5:=by
    have:=HC5.map.look pmT (zero63 w5) HO5 false;simpa [pf,pset,pk] using this
   have HC:=qq HC5;have KK:=qq K5
   have HPS:Hid ((∀ b' c',φ b'=some c' -> pset φ b c b'=some c') /\ pset φ b c b=some c):=⟨fun b' c' e=>by
    unfold pset;by_cases hbb:b'=b
    ·subst hbb;rw [HP.out] at e;cases e
    ·rw [if_neg hbb];exact e,by simp [pset]⟩
   clear HC5 K5 hBy ho5 ho hop M5 C3 HS HS2 HS3 B5 hT5 k35 nc u3 u4 hmapT HO3 HO5;go_wp2;go_ret;exact ⟨pset φ b c,by rw [show (some b).bind (pset φ b c)=some c from HPS.out.2];rfl,HC.out,HPS.out.1,fun b' e=>(by cases e;rw [HPS.out.2];simp),KK.out⟩
end Go.Proofs.YtpjomdmjohjheaaGreatDoor
end
section
namespace Go.Lk
open Go.RowKit
section
variable {P:Program} {ops:Array Oper} {rest:List Oper} {dst:Option Tmp} {t ty:TypeId} {pos:String} {aft:Array Edge} {gd:Option (Nat × Bool)} {a:Act} {w w':World} {Q:Exit -> Act -> World -> Prop}
theorem stop_makeMap (h:At (wpList P ops Q (⟨dst,.makeMap t none,ty,pos,aft,gd⟩ :: rest) a w)):wpList P ops Q (⟨dst,.makeMap t none,ty,pos,aft,gd⟩ :: rest) a w:=h
def IsMapNew (w:World) (v:Value) (w':World):Prop:=∃ g,v=.map (some g) /\ NewAt w w' g (.map #[] 0)
theorem z1q:∃ v w',(execOp a.eval ⟨dst,.makeMap t none,ty,pos,aft,gd⟩).run P w=.ok (.value v) w' /\ IsMapNew w v w' :=
 ⟨_,w.alloc (.map #[] 0),by unfold execOp;simp [Instr.makeMap,newObj,Sem.run_bind,Sem.run_pure,Result.andThen_ok,Sem.run],_,rfl,newAt _ _⟩
end
theorem RowS.tight {F R F':Nat -> Prop} {w:World} {e:TypeId} {size n:Nat} {v:Value} {xs:List Value} (h:RowS w F R e size v n xs) (hF:∀ k,F k -> IsT w e k -> F' k):RowS w F' R e size v n xs:=by
 obtain ⟨h1,h2,a,c,h3,h4,h5,h6,h7,h8⟩:=h;refine ⟨h1,h2,a,c,h3,h4,h5,h6,fun b off e hz=>⟨(h7 b off e hz).1.imp (fun x=>hF b x (h7 b off e hz).2) id,(h7 b off e hz).2⟩,h8.imp id fun ⟨x,y⟩=>⟨x,fun g hg=>hF g (y g hg) ?_⟩⟩;obtain ⟨-,⟨rfl,-⟩ | ⟨g',cap,cur,rfl,-,hh,-⟩⟩:=x
 ·cases hg
 ·cases hg;exact ⟨_,_,hh⟩
theorem zaa {α:Type} {w:World} {f:α -> List Value} {m:Nat} (hf:∀ x,(f x).length=m) {b off:Nat}:∀ {L:List α} {k:Nat} {x:α},Has w (some ⟨b,off,none⟩) (L.flatMap f) -> L[k]?=some x -> Has w (some ⟨b,off + k * m,none⟩) (f x):=by
 intro L
 induction L generalizing off with
 | nil=>intro k x _ h;cases h
 | cons y L ih =>
  intro k x hh hk;rw [List.flatMap_cons] at hh;cases k with
  | zero =>
   cases hk;simpa using hh.left
  | succ k =>
   have:=ih (hh.right (hf y)) (by simpa using hk);rw [show off + (k + 1) * m=off + m + k * m by rw [Nat.add_mul];omega];exact this
end Go.Lk
namespace Go.Vfs
open Go.Lk Go.RowKit
variable {w w' wr:World} {R R' S F F':Nat -> Prop} {d b:Nat} {x:Fl} {D:Dk} {fc:Nat -> Fl}
theorem z4y (x:Option Nat):(pk x).cells=#[pk x] /\ (pk x).oneCell'=true:=by cases x <;> exact ⟨rfl,rfl⟩
def mv (φ:Nat -> Option Nat) (p:ByteArray × Nat):ByteArray × Nat:=(p.1,(φ p.2).getD 0)
def ms (φ:Nat -> Option Nat) (s:Stp):Stp:={ s with f:=s.f.bind φ }
structure CpSt (w wr:World) (d' a3 mo mf ml:Nat) (sv:Value) (D:Dk) (fc:Nat -> Fl) (φ:Nat -> Option Nat) (l1 l2:List (ByteArray × Nat)) (k:Nat):Prop where
 dk:wr.heap[d']?=some (.cells (dcs mf ml sv D) 76 (0,0))
 bx:wr.heap[a3]?=some (.cells #[.map (some mo)] 143 (0,0))
 cp:Copies w.heap.size wr mo D fc φ
 m1:SMap wr mf (vals (l1.map (mv φ)))
 m2:SMap wr ml (vals (l2.map (mv φ)))
 in1:∀ p ∈ l1,φ p.2 ≠ none
 in2:∀ p ∈ l2,φ p.2 ≠ none
 row:RowS wr (fun j=>w.heap.size <= j) Nb 106 4 sv k (((D.steps.take k).map (ms φ)).flatMap stp)
 in3:∀ s ∈ D.steps.take k,∀ b,s.f=some b -> φ b ≠ none
 k:Keeps Nb w wr
 gd:w.heap.size <= d'
 gf:w.heap.size <= mf
 gl:w.heap.size <= ml
 go:w.heap.size <= mo
 n1:mf ≠ ml
 n2:mf ≠ mo
 n3:ml ≠ mo
variable {d' a3 mo mf ml k:Nat} {sv:Value} {φ φ':Nat -> Option Nat} {l1 l2:List (ByteArray × Nat)}
theorem CpSt.copied (h:CpSt w wr d' a3 mo mf ml sv D fc φ l1 l2 k) (hc:Copies w.heap.size w' mo D fc φ') (hle:∀ b c,φ b=some c -> φ' b=some c) (hk:Keeps (·=mo) wr w'):CpSt w w' d' a3 mo mf ml sv D fc φ' l1 l2 k:=by
 have hmo:∀ (T:TypeId) (j:Nat),IsT wr T j -> ¬ j=mo:=fun T j hj e=>by obtain ⟨es,cl,q,-⟩:=h.cp.map;exact hj.map q e
 have emv:∀ l:List (ByteArray × Nat),(∀ p ∈ l,φ p.2 ≠ none) -> l.map (mv φ')=l.map (mv φ):=fun l hl=>List.map_congr_left fun p hp=>by
  cases e:φ p.2 with
  | none=>exact absurd e (hl p hp)
  | some c=>simp [mv,e,hle _ _ e]
 have hne:∀ b,φ b ≠ none -> φ' b ≠ none:=fun b hb=>by
  cases e:φ b with
  | none=>exact absurd e hb
  | some c=>rw [hle _ _ e];simp
 have ems:(D.steps.take k).map (ms φ')=(D.steps.take k).map (ms φ):=List.map_congr_left fun s hs=>by
  unfold ms;cases e:s.f with
  | none=>rfl
  | some b =>
   cases e2:φ b with
   | none=>exact absurd e2 (h.in3 s hs b e)
   | some c=>simp [e2,hle _ _ e2]
 refine ⟨hk.at h.dk (hmo _ _ ⟨_,_,h.dk⟩),hk.at h.bx (hmo _ _ ⟨_,_,h.bx⟩),hc,?_,?_,fun p hp=>hne _ (h.in1 p hp),fun p hp=>hne _ (h.in2 p hp),?_,fun s hs b e=>hne _ (h.in3 s hs b e),h.k.own h.go hk,h.gd,h.gf,h.gl,h.go,h.n1,h.n2,h.n3⟩
 ·rw [emv l1 h.in1];exact h.m1.keeps hk h.n2
 ·rw [emv l2 h.in2];exact h.m2.keeps hk h.n3
 ·rw [ems];exact h.row.keeps hk (fun j _ ht=>hmo _ _ ht)
theorem CpSt.nb (h:CpSt w wr d' a3 mo mf ml sv D fc φ l1 l2 k) (hk:Keeps Nb wr w'):CpSt w w' d' a3 mo mf ml sv D fc φ l1 l2 k :=
 ⟨hk.nb h.dk,hk.nb h.bx,h.cp.nb hk,h.m1.nb hk,h.m2.nb hk,h.in1,h.in2,h.row.keeps hk (fun _ _ _ e=>e),h.in3,h.k.trans_nb hk,h.gd,h.gf,h.gl,h.go,h.n1,h.n2,h.n3⟩
theorem CpSt.put1 (h:CpSt w wr d' a3 mo mf ml sv D fc φ l1 l2 k) {q:ByteArray × Nat} (hq:φ q.2 ≠ none) (hm:SMap w' mf (vals ((l1 ++ [q]).map (mv φ)))) (hk:Keeps (·=mf) wr w') (ho:∀ b,Ref D b -> b < w.heap.size):CpSt w w' d' a3 mo mf ml sv D fc φ (l1 ++ [q]) l2 k:=by
 have hmf:∀ (T:TypeId) (j:Nat),IsT wr T j -> ¬ j=mf:=fun T j hj e=>by obtain ⟨es,cl,q,-⟩:=h.m1;exact hj.map q e
 refine ⟨hk.at h.dk (hmf _ _ ⟨_,_,h.dk⟩),hk.at h.bx (hmf _ _ ⟨_,_,h.bx⟩),h.cp.keeps hk (fun e=>h.n2 e.symm) (fun j hj=>hmf _ _ hj) (fun j hj=>hmf _ _ hj.2.2) (fun b hb e=>by have:=ho b hb;have:=h.gf;omega),hm,h.m2.keeps hk (fun e=>h.n1 e.symm),fun p hp=>?_,h.in2,h.row.keeps hk (fun j _ ht=>hmf _ _ ht),h.in3,h.k.own h.gf hk,h.gd,h.gf,h.gl,h.go,h.n1,h.n2,h.n3⟩;rcases List.mem_append.1 hp with hp | hp
 ·exact h.in1 p hp
 ·rw [List.mem_singleton.1 hp];exact hq
theorem CpSt.put2 (h:CpSt w wr d' a3 mo mf ml sv D fc φ l1 l2 k) {q:ByteArray × Nat} (hq:φ q.2 ≠ none) (hm:SMap w' ml (vals ((l2 ++ [q]).map (mv φ)))) (hk:Keeps (·=ml) wr w') (ho:∀ b,Ref D b -> b < w.heap.size):CpSt w w' d' a3 mo mf ml sv D fc φ l1 (l2 ++ [q]) k:=by
 have hml:∀ (T:TypeId) (j:Nat),IsT wr T j -> ¬ j=ml:=fun T j hj e=>by obtain ⟨es,cl,q,-⟩:=h.m2;exact hj.map q e
 refine ⟨hk.at h.dk (hml _ _ ⟨_,_,h.dk⟩),hk.at h.bx (hml _ _ ⟨_,_,h.bx⟩),h.cp.keeps hk (fun e=>h.n3 e.symm) (fun j hj=>hml _ _ hj) (fun j hj=>hml _ _ hj.2.2) (fun b hb e=>by have:=ho b hb;have:=h.gl;omega),h.m1.keeps hk h.n1,hm,h.in1,fun p hp=>?_,h.row.keeps hk (fun j _ ht=>hml _ _ ht),h.in3,h.k.own h.gl hk,h.gd,h.gf,h.gl,h.go,h.n1,h.n2,h.n3⟩;rcases List.mem_append.1 hp with hp | hp
 ·exact h.in2 p hp
 ·rw [List.mem_singleton.1 hp];exact hq
theorem _root_.Go.Lk.SRng.notT {m r:Nat} {l vs:List (ByteArray × Value)} (h:SRng wr m r l vs) {T:TypeId} {j:Nat} (hj:IsT wr T j):¬ j=r:=by
 obtain ⟨es,clock,since,seen,c0,-,-,-,-,hr,-⟩:=h;obtain ⟨cur,fr,hh⟩:=hj;intro e;subst e;rw [hr] at hh;cases hh
theorem _root_.Go.Lk.SRng.notM {m r m':Nat} {l vs l':List (ByteArray × Value)} (h:SRng wr m r l vs) (hm:SMap wr m' l'):¬ m'=r:=by
 obtain ⟨es,clock,since,seen,c0,-,-,-,-,hr,-⟩:=h;obtain ⟨es',cl',hh,-⟩:=hm;intro e;subst e;rw [hr] at hh;cases hh
theorem _root_.Go.Lk.SRng.notPM {m r m':Nat} {l vs:List (ByteArray × Value)} {f:Option Nat -> Option Value} (h:SRng wr m r l vs) (hm:PMap wr m' f):¬ m'=r:=by
 obtain ⟨es,clock,since,seen,c0,-,-,-,-,hr,-⟩:=h;obtain ⟨es',cl',hh,-⟩:=hm;intro e;subst e;rw [hr] at hh;cases hh
theorem z8o {us:List (ByteArray × Nat)} {s:ByteArray} (h:flook us s=none) (φ:Nat -> Option Nat):flook (us.map (mv φ)) s=none:=by
 unfold flook at h ⊢;rw [Option.map_eq_none_iff,List.find?_eq_none] at h ⊢;intro p hp;obtain ⟨q,hq,rfl⟩:=List.mem_map.1 hp;exact h q hq
theorem CpSt.rng (h:CpSt w wr d' a3 mo mf ml sv D fc φ l1 l2 k) {m r:Nat} {l vs:List (ByteArray × Value)} (hg:w.heap.size <= r) (hr:SRng wr m r l vs) (hk:Keeps (·=r) wr w') (ho:∀ b,Ref D b -> b < w.heap.size):CpSt w w' d' a3 mo mf ml sv D fc φ l1 l2 k:=by
 have hT:∀ (T:TypeId) (j:Nat),IsT wr T j -> ¬ j=r:=fun T j hj=>hr.notT hj;have hmo:¬ mo=r:=fun e=>by
  obtain ⟨es,clock,since,seen,c0,-,-,-,-,hh,-⟩:=hr;obtain ⟨es',cl',hh',-⟩:=h.cp.map;rw [e,hh] at hh';cases hh'
 exact ⟨hk.at h.dk (hT _ _ ⟨_,_,h.dk⟩),hk.at h.bx (hT _ _ ⟨_,_,h.bx⟩),h.cp.keeps hk hmo (fun j hj=>hT _ _ hj) (fun j hj=>hT _ _ hj.2.2) (fun b hb e=>by have:=ho b hb;omega),h.m1.keeps hk (hr.notM h.m1),h.m2.keeps hk (hr.notM h.m2),h.in1,h.in2,h.row.keeps hk (fun j _ ht=>hT _ _ ht),h.in3,h.k.own hg hk,h.gd,h.gf,h.gl,h.go,h.n1,h.n2,h.n3⟩
theorem z6e {m r:Nat} {l us:List (ByteArray × Nat)} (hd:((vals l).map Prod.fst).Nodup) (h:SRng wr m r (vals l) (vals us)) {q:ByteArray × Nat} (hq:q ∈ l) (hn:(q.1,Value.pointer (some ⟨q.2,0,none⟩)) ∉ vals us):flook us q.1=none:=by
 obtain ⟨es,clock,since,seen,c0,-,-,-,-,-,-,-,-,hnd,hsub,-⟩:=h;unfold flook;rw [Option.map_eq_none_iff,List.find?_eq_none];intro p hp e;have e':p.1=q.1:=by simpa using e
 have h1:=hsub _ (List.mem_map.2 ⟨p,hp,rfl⟩);have h2:(q.1,Value.pointer (some ⟨q.2,0,none⟩)) ∈ vals l:=List.mem_map.2 ⟨q,hq,rfl⟩;obtain ⟨i,hi⟩:=List.mem_iff_getElem?.1 h1;obtain ⟨j,hj⟩:=List.mem_iff_getElem?.1 h2;have hij:=z1w hd (i:=i) (j:=j) (x:=q.1) (by rw [List.getElem?_map,hi];simp [e']) (by rw [List.getElem?_map,hj];rfl);subst hij;rw [hi] at hj;have hv:(p.1,Value.pointer (some ⟨p.2,0,none⟩))=(q.1,Value.pointer (some ⟨q.2,0,none⟩)):=by simpa using hj
 exact hn (hv ▸ List.mem_map.2 ⟨p,hp,rfl⟩)
theorem z0z {α:Type} {l:List α} {k:Nat} {x:α} (h:l[k]?=some x):l.take (k + 1)=l.take k ++ [x]:=by
 obtain ⟨h1,h2⟩:=List.getElem?_eq_some_iff.1 h;rw [List.take_succ_eq_append_getElem h1,h2]
theorem CpSt.push {sv':Value} {s:Stp} {w2 w3:World} {S4:Nat -> Prop} (h:CpSt w wr d' a3 mo mf ml sv D fc φ l1 l2 k) (hs:D.steps[k]?=some s) (hin:∀ b,s.f=some b -> φ b ≠ none) (k12:Keeps S4 wr w2) (hS:∀ j,S4 j -> w.heap.size <= j /\ IsT wr 106 j)
  (hr:RowS w2 (Up (fun j=>w.heap.size <= j) wr w2) Nb 106 4 sv' (k + 1) (((D.steps.take k).map (ms φ)).flatMap stp ++ stp (ms φ s))) (k23:Keeps (·=d') w2 w3) (hb:w3.heap[d']?=some (.cells (dcs mf ml sv' D) 76 (0,0))) (ho:∀ b,Ref D b -> b < w.heap.size) :
  CpSt w w3 d' a3 mo mf ml sv' D fc φ l1 l2 (k + 1):=by
 have hkw:=h.k.size;have t1:∀ (T:TypeId) (j:Nat),IsT wr T j -> T ≠ 106 -> ¬ S4 j:=fun T j hj hT hs=>(hS j hs).2.ne hj (fun e=>hT e.symm) rfl
 have t2:∀ (T:TypeId) (j:Nat),IsT w2 T j -> T ≠ 76 -> ¬ j=d':=fun T j hj hT e=>(hj.keeps k23 (fun e2=>by
  subst e2
  exact (hj.ne ((show IsT wr 76 j from ⟨_,_,h.dk⟩).keeps k12 (t1 76 j ⟨_,_,h.dk⟩ (by decide))) hT rfl))).ne (show IsT w3 76 j from ⟨_,_,e ▸ hb⟩) hT rfl
 have mp:∀ {m:Nat} {l:List (ByteArray × Value)},SMap wr m l -> SMap w3 m l:=fun {m l} hm=>by
  have e1:¬ S4 m:=fun e=>by obtain ⟨es,cl,q,-⟩:=hm;exact (hS m e).2.map q rfl
  refine (hm.keeps k12 e1).keeps k23 (fun e=>?_);obtain ⟨es,cl,q,-⟩:=hm;subst e;rw [h.dk] at q;cases q
 have hd2:=k12.at h.dk (t1 76 d' ⟨_,_,h.dk⟩ (by decide));have ebx:w2.heap[a3]?=some (.cells #[.map (some mo)] 143 (0,0)):=k12.at h.bx (t1 143 a3 ⟨_,_,h.bx⟩ (by decide));have emo:¬ S4 mo:=fun e=>by obtain ⟨es,cl,q,-⟩:=h.cp.map;exact (hS mo e).2.map q rfl
 have c2:Copies w.heap.size w2 mo D fc φ:=h.cp.keeps k12 emo (fun j hj=>t1 115 j hj (by decide)) (fun j hj=>t1 5 j hj.2.2 (by decide)) (fun b hb e=>by have:=ho b hb;have:=(hS b e).1;omega);refine ⟨hb,k23.at ebx (t2 143 a3 ⟨_,_,ebx⟩ (by decide)),c2.keeps k23 (fun e=>by obtain ⟨es,cl,q,-⟩:=c2.map;rw [e,hd2] at q;cases q) (fun j hj=>t2 115 j hj (by decide)) (fun j hj=>t2 5 j hj.2.2 (by decide)) (fun b hb e=>by have:=ho b hb;have:=h.gd;omega),mp h.m1,mp h.m2,h.in1,h.in2,?_,?_,(h.k.trans k12 (fun i hi e=>by have:=(hS i e).1;omega)).own h.gd k23,h.gd,h.gf,h.gl,h.go,h.n1,h.n2,h.n3⟩
 ·rw [z0z hs,List.map_append,List.flatMap_append,List.map_singleton,List.flatMap_singleton];refine (hr.keeps k23 (fun j _ ht=>t2 106 j ht (by decide))).mono (fun j hj=>hj.elim id fun ⟨x,y⟩=>by omega) (fun _ h=>h)
 ·
  intro s' hs' b e;rw [z0z hs] at hs';rcases List.mem_append.1 hs' with hs' | hs'
  ·exact h.in3 s' hs' b e
  ·rw [List.mem_singleton.1 hs'] at e;exact hin b e
theorem ms_eq {L:List Stp} (h:∀ s ∈ L,∀ b,s.f=some b -> φ b ≠ none) (hle:∀ b c,φ b=some c -> φ' b=some c):L.map (ms φ')=L.map (ms φ):=List.map_congr_left fun s hs=>by
 unfold ms;cases e:s.f with
 | none=>rfl
 | some b =>
  cases e2:φ b with
  | none=>exact absurd e2 (h s hs b e)
  | some c=>simp [e2,hle _ _ e2]
theorem CpSt.cell (h:CpSt w wr d' a3 mo mf ml sv D fc φ l1 l2 k) {g:Nat} (hg:IsT wr 106 g) (hge:w.heap.size <= g) (hk:Keeps (·=g) wr w') (hr:RowS w' (fun j=>w.heap.size <= j) Nb 106 4 sv k (((D.steps.take k).map (ms φ)).flatMap stp)) (ho:∀ b,Ref D b -> b < w.heap.size) :
  CpSt w w' d' a3 mo mf ml sv D fc φ l1 l2 k:=by
 have hT:∀ (T:TypeId) (j:Nat),IsT wr T j -> T ≠ 106 -> ¬ j=g:=fun T j hj hne e=>(e ▸ hj).ne hg hne rfl;have hM:∀ {m:Nat} {l:List (ByteArray × Value)},SMap wr m l -> ¬ m=g:=fun {m l} hm e=>by obtain ⟨es,cl,q,-⟩:=hm;exact hg.map q e.symm
 exact ⟨hk.at h.dk (hT 76 _ ⟨_,_,h.dk⟩ (by decide)),hk.at h.bx (hT 143 _ ⟨_,_,h.bx⟩ (by decide)),h.cp.keeps hk (fun e=>by obtain ⟨es,cl,q,-⟩:=h.cp.map;exact hg.map q e.symm) (fun j hj=>hT 115 j hj (by decide)) (fun j hj=>hT 5 j hj.2.2 (by decide)) (fun b hb e=>by have:=ho b hb;omega),h.m1.keeps hk (hM h.m1),h.m2.keeps hk (hM h.m2),h.in1,h.in2,hr,h.in3,h.k.own hge hk,h.gd,h.gf,h.gl,h.go,h.n1,h.n2,h.n3⟩
structure CopyR (D:Dk) (fc:Nat -> Fl) (D':Dk) (fc':Nat -> Fl) (φ:Nat -> Option Nat) (l1 l2:List (ByteArray × Nat)):Prop where
 p1:l1.Perm D.files
 p2:l2.Perm D.lasting
 eq:D'={ D with files:=l1.map (mv φ),lasting:=l2.map (mv φ),steps:=D.steps.map (ms φ) }
 fc:∀ b c,φ b=some c -> fc' c=fc b
 inj:∀ b b' c,φ b=some c -> φ b'=some c -> b=b'
 all:∀ b,Ref D b -> φ b ≠ none
noncomputable def fcOf (φ:Nat -> Option Nat) (fc:Nat -> Fl) (c:Nat):Fl:=open Classical in if h:∃ b,φ b=some c then fc h.choose else ⟨[],0⟩
theorem za7 (hi:∀ b b' c,φ b=some c -> φ b'=some c -> b=b') {b c:Nat} (h:φ b=some c):fcOf φ fc c=fc b:=by
 unfold fcOf;rw [dif_pos ⟨b,h⟩];exact congrArg fc (hi _ _ c (Exists.choose_spec (⟨b,h⟩:∃ b,φ b=some c)) h)
theorem CpSt.done (h:CpSt w wr d' a3 mo mf ml sv D fc φ l1 l2 D.steps.length) (hD:DiskAt w d F R D fc) (p1:l1.Perm D.files) (p2:l2.Perm D.lasting) :
  ∃ D' fc' F' R',DiskAt wr d' F' R' D' fc' /\ (∀ k,F' k -> w.heap.size <= k) /\ (∀ k,R' k -> w.heap.size <= k) /\ CopyR D fc D' fc' φ l1 l2:=by
 have hall:∀ b,Ref D b -> φ b ≠ none:=by
  rintro b (⟨p,hp,rfl⟩ | ⟨p,hp,rfl⟩ | ⟨s,hs,e⟩)
  ·exact h.in1 p (p1.mem_iff.2 hp)
  ·exact h.in2 p (p2.mem_iff.2 hp)
  ·exact h.in3 s (by rw [List.take_length];exact hs) b e
 have hrow:=h.row;rw [List.take_length] at hrow;have hlt:∀ {T:TypeId} {k:Nat},IsT wr T k -> k < wr.heap.size:=fun {T k} ht=>by obtain ⟨cur,fr,q⟩:=ht;exact lt_of_block q
 have hmt:∀ {m:Nat} {l:List (ByteArray × Value)},SMap wr m l -> ¬ IsT wr 5 m:=fun {m l} hm ht=>by obtain ⟨es,cl,q,-⟩:=hm;exact ht.map q rfl
 have hnt:∀ {T:TypeId} {k:Nat},IsT wr T k -> T ≠ 5 -> ¬ IsT wr 5 k:=fun {T k} ht hT h5=>ht.ne h5 hT rfl;have hmem:∀ (l:List (ByteArray × Nat)),(∀ p ∈ l,φ p.2 ≠ none) -> ∀ q ∈ l.map (mv φ),∃ p ∈ l,q.1=p.1 /\ φ p.2=some q.2:=fun l hl q hq=>by
  obtain ⟨p,hp,rfl⟩:=List.mem_map.1 hq;refine ⟨p,hp,rfl,?_⟩;cases e:φ p.2 with
  | none=>exact absurd e (hl p hp)
  | some c=>simp [mv,e]
 obtain ⟨z1,z2,z3,z4,z5,z6,z7,z8⟩:=hD.nums;refine ⟨{ D with files:=l1.map (mv φ),lasting:=l2.map (mv φ),steps:=D.steps.map (ms φ) },fcOf φ fc,(fun k=>w.heap.size <= k /\ k < wr.heap.size /\ ¬ IsT wr 5 k),Rn wr w.heap.size,⟨⟨mf,ml,sv,h.dk,h.m1,h.m2,h.n1,?_,⟨h.gf,h.m1.lt,hmt h.m1⟩,⟨h.gl,h.m2.lt,hmt h.m2⟩⟩,⟨h.gd,lt_of_block h.dk,hnt ⟨_,_,h.dk⟩ (by decide)⟩,?_,?_,?_,fun k hF hR=>hF.2.2 hR.2.2,fun k hk=>hk.2.1,fun k hk=>hk.2.1⟩,fun k hk=>hk.1,fun k hk=>hk.1,⟨p1,p2,rfl,fun b c e=>za7 h.cp.inj e,h.cp.inj,hall⟩⟩
 ·simp only [List.length_map];exact (hrow.tight (fun k hk ht=>⟨hk,hlt ht,hnt ht (by decide)⟩)).mono (fun _ h=>h) (fun _ h=>h.elim)
 ·
  intro c hc;obtain ⟨b,hb⟩:∃ b,φ b=some c:=by
   rcases hc with ⟨q,hq,rfl⟩ | ⟨q,hq,rfl⟩ | ⟨s,hs,e⟩
   ·obtain ⟨p,-,-,e⟩:=hmem l1 h.in1 q hq;exact ⟨_,e⟩
   ·obtain ⟨p,-,-,e⟩:=hmem l2 h.in2 q hq;exact ⟨_,e⟩
   ·
    obtain ⟨s0,hs0,rfl⟩:=List.mem_map.1 hs;unfold ms at e;cases e0:s0.f with
    | none=>rw [e0] at e;cases e
    | some b=>rw [e0] at e;exact ⟨b,e⟩
  obtain ⟨g1,g2,-⟩:=h.cp.new b c hb;rw [za7 h.cp.inj hb];exact ⟨g2,g1,g2.lt,hnt g2.isT (by decide)⟩
 ·
  refine ⟨z1,z2,z3,z4,z5,?_,?_,?_⟩
  ·simp only [List.length_map];rw [p1.length_eq];exact z6
  ·simp only [List.length_map];rw [p2.length_eq];exact z7
  ·simp only [List.length_map];exact z8
 ·
  refine ⟨fun q hq=>?_,fun q hq=>?_,fun s hs=>?_⟩
  ·obtain ⟨p,hp,e,-⟩:=hmem l1 h.in1 q hq;rw [e];exact hD.names.files p (p1.mem_iff.1 hp)
  ·obtain ⟨p,hp,e,-⟩:=hmem l2 h.in2 q hq;rw [e];exact hD.names.lasting p (p2.mem_iff.1 hp)
  ·
   obtain ⟨s0,hs0,rfl⟩:=List.mem_map.1 hs;rcases hD.names.steps s0 hs0 with ⟨e1,e2,b,e3⟩ | ⟨e1,e2,e4,e3⟩ | ⟨e1,e2,e3⟩
   ·
    refine .inl ⟨e1,e2,?_⟩;cases e:φ b with
    | none=>exact absurd e (hall b (.inr (.inr ⟨s0,hs0,e3⟩)))
    | some c=>exact ⟨c,by simp [ms,e3,e]⟩
   ·exact .inr (.inl ⟨e1,e2,e4,by simp [ms,e3]⟩)
   ·exact .inr (.inr ⟨e1,e2,by simp [ms,e3]⟩)
end Go.Vfs
end
section
namespace Go.Proofs.YtpjomdmjohjheaaGreatDoor
open Go.RowKit Go.Lk Go.Vfs
theorem agg61:AggT Tryz.prog 76 9:=⟨by kernel_rfl,by kernel_rfl⟩
theorem agg72:AggT Tryz.prog 106 4:=⟨by kernel_rfl,by kernel_rfl⟩
theorem zero93:(Tryz.prog.info? 143).map (·.zero)=some (some (.map none)):=by kernel_rfl
theorem zero61:∃ z,(Tryz.prog.info? 76).map (·.zero)=some (some z) /\ z.cells.size=9:=by
 obtain ⟨i,h1,h2⟩:=Option.map_eq_some_iff.1 (show (Tryz.prog.info? 76).map (fun i=>i.zero.map (·.cells.size))=some (some 9) by kernel_rfl);obtain ⟨z,h3,h4⟩:=Option.map_eq_some_iff.1 h2;exact ⟨z,by rw [h1];simp [h3],h4⟩
theorem zero72:∃ z,(Tryz.prog.info? 106).map (·.zero)=some (some z) /\ z.cells.size=4:=by
 obtain ⟨i,h1,h2⟩:=Option.map_eq_some_iff.1 (show (Tryz.prog.info? 106).map (fun i=>i.zero.map (·.cells.size))=some (some 4) by kernel_rfl);obtain ⟨z,h3,h4⟩:=Option.map_eq_some_iff.1 h2;exact ⟨z,by rw [h1];simp [h3],h4⟩
def CopiedD (w:World) (D:Dk) (fc:Nat -> Fl) (e:Ending) (w':World):Prop :=
 ∃ d' D' fc' F' R' φ l1 l2,e=.returned (.pointer (some ⟨d',0,none⟩)) /\ DiskAt w' d' F' R' D' fc' /\ (∀ k,F' k -> w.heap.size <= k) /\ (∀ k,R' k -> w.heap.size <= k) /\ Keeps Nb w w' /\ CopyR D fc D' fc' φ l1 l2
theorem zfo (d:Nat) (D:Dk) (F R:Nat -> Prop) (fc:Nat -> Fl) (w:World) (h:DiskAt w d F R D fc):Calls Tryz.prog 80 #[.pointer (some ⟨d,0,none⟩)] w (CopiedD w D fc):=by
 have H:=qq h;obtain ⟨⟨m1,m2,sv,h3,h4,h5,h6,h7,h8,h9⟩,g1,g2,g3,g3b,g4,g5,g6⟩:=h;have H3:=qq h3;have H4:=qq h4;have H5:=qq h5;have H7:=qq h7;obtain ⟨c0,-⟩:=cells9 h3;have TH:=qq (z3h d m1 (.map none) (.map none) [] w (c0 ⟨w,Keeps.refl _ _⟩));have HO:Hid (∀ b,Ref D b -> b < w.heap.size):=fun b hb=>g5 b (g2 b hb).2;have HX:Hid (∀ (wr:World),Keeps Nb w wr -> ∀ b,Ref D b -> FileAt wr R b (fc b) /\ Ref D b):=fun wr hk b hb=>⟨(g2 b hb).1.keeps hk (fun e=>e) (fun _ _ e=>e),hb⟩
 have HG6:=qq g6;have sv1:Hid (sv.oneCell'=true /\ sv.cells.size=1):=by obtain ⟨-,-,a,c,rfl,-⟩:=h7;exact ⟨rfl,rfl⟩
 have NU:=qq g3;clear c0 h3 h4 h5 h6 h7 h8 h9 g1 g2 g3 g3b g4 g5 g6;go_enter Tryz.func80,Tryz.ntmps80;go_wp2_with fail;refine TH.out.mono ?_;rintro e w' ⟨rfl,rfl⟩;go_wp2_with (first | go_skip | (with_reducible refine qv (by decide) ?_))
 refine za (zh rfl z1q ?_);rintro _ w1 ⟨mo,rfl,n1⟩;simp only [Nat.reduceAdd,qn];go_wp2_with (first | go_skip | (with_reducible refine qv (by decide) ?_))
 refine za (valloc zero93 ?_);intro a3 w2 n2;simp only [Nat.reduceAdd,qn];go_wp2_with (first | go_skip | (with_reducible refine qv (by decide) ?_))
 refine za (zc rfl (zd (v:=.map (some mo)) (n:=1) (by kernel_rfl) (by rfl) (by rfl) n2.blk (by rfl) (by simp [Value.cells]) (by simp [Value.cells,Value.oneCell'])) ?_);intro w3 s3;simp only [Nat.reduceAdd,qn];have k03:Keeps Nb w w3:=(n1.k.trans_nb n2.k).own (Nat.le_trans n1.k.size n2.ge) s3.k;have B3:w3.heap[a3]?=some (.cells #[.map (some mo)] 143 (0,0)):=s3.blk;have hoa:¬ mo=a3:=fun e=>by have:=n1.lt;have:=n2.ge;omega
 have M3:w3.heap[mo]?=some (.map #[] 0):=s3.k.at (n2.k.nb n1.blk) hoa;obtain ⟨z61,hz61,hzl⟩:=zero61;go_wp2_with (first | go_skip | (with_reducible refine qv (by decide) ?_))
 refine za (zv (v:=.agg (dcs m1 m2 sv D)) rfl (z3e agg61 (by rfl) (zo (k03.nb H3.out)) (by simp [dcs])) ?_);simp only [Nat.reduceAdd,qn];go_wp2_with (first | go_skip | (with_reducible refine qv (by decide) ?_))
 refine za (valloc hz61 ?_);intro d' w4 n4;simp only [Nat.reduceAdd,qn];go_wp2_with (first | go_skip | (with_reducible refine qv (by decide) ?_))
 refine za (zc rfl (zd (v:=.agg (dcs m1 m2 sv D)) (n:=9) agg61.size (by rfl) (by rfl) n4.blk (by simp [Value.cells,dcs]) (by rw [hzl];exact Nat.le_refl _) (by intro u hu;simp [Value.cells,dcs] at hu;rcases hu with rfl | rfl | rfl | rfl | rfl | rfl | rfl | rfl | rfl <;> first | rfl | exact sv1.out.1)) ?_);intro w5 s5;rw [z2w (by rw [hzl];simp [Value.cells,dcs])] at s5;simp only [Nat.reduceAdd,qn];have k05:Keeps Nb w w5:=(k03.trans_nb n4.k).own (Nat.le_trans k03.size n4.ge) s5.k;have k35:Keeps Nb w3 w5:=n4.k.own n4.ge s5.k;have B5:w5.heap[d']?=some (.cells (dcs m1 m2 sv D) 76 (0,0)):=s5.blk;go_wp2_with (first | go_skip | (with_reducible refine qv (by decide) ?_))
 refine za (zh rfl z1q ?_);rintro _ w6 ⟨mf,rfl,n6⟩;simp only [Nat.reduceAdd,qn];go_wp2_with (first | go_skip | (with_reducible refine qv (by decide) ?_))
 refine za (zh rfl z1q ?_);rintro _ w7 ⟨ml,rfl,n7⟩;simp only [Nat.reduceAdd,qn];go_wp2_with (first | go_skip | (with_reducible refine qv (by decide) ?_))
 refine za (zc rfl (zd (v:=.map (some mf)) (n:=1) (by kernel_rfl) (by rfl) (by rfl) (n7.k.nb (n6.k.nb B5)) (by rfl) (by simp [dcs]) (by simp [Value.cells,Value.oneCell'])) ?_);intro w8 s8;simp only [Nat.reduceAdd,qn];have B8:w8.heap[d']?=some (.cells (dcs mf m2 sv D) 76 (0,0)):=s8.blk;go_wp2_with (first | go_skip | (with_reducible refine qv (by decide) ?_))
 refine za (zc rfl (zd (v:=.map (some ml)) (n:=1) (by kernel_rfl) (by rfl) (by rfl) B8 (by rfl) (by simp [dcs]) (by simp [Value.cells,Value.oneCell'])) ?_);intro w9 s9;simp only [Nat.reduceAdd,qn];have B9:w9.heap[d']?=some (.cells (dcs mf ml sv D) 76 (0,0)):=s9.blk;go_wp2_with (first | go_skip | (with_reducible refine qv (by decide) ?_))
 refine za (zc rfl (zd (v:=.slice none 0 0) (n:=1) (by kernel_rfl) (by rfl) (by rfl) B9 (by rfl) (by simp [dcs]) (by simp [Value.cells,Value.oneCell'])) ?_);intro w10 s10;simp only [Nat.reduceAdd,qn];have B10:w10.heap[d']?=some (.cells (dcs mf ml (.slice none 0 0) D) 76 (0,0)):=s10.blk;have ST:CpSt w w10 d' a3 mo mf ml (.slice none 0 0) D fc (fun _=>none) [] [] 0:=by
  have q1:=n1.ge;have q2:=n2.ge;have q4:=n4.ge;have q6:=n6.ge;have q7:=n7.ge;have l1:=n1.lt;have l2:=n2.lt;have l4:=n4.lt;have l6:=n6.lt;have l7:=n7.lt;have z1:=n1.k.size;have z2:=n2.k.size;have z3:=s3.k.size;have z4:=n4.k.size;have z5:=s5.k.size;have z6:=n6.k.size;have z7:=n7.k.size;have z8:=s8.k.size;have z9:=s9.k.size;have z10:=s10.k.size;have k510:Keeps (·=d') w5 w10:=(((Keeps.of_nb (n6.k.trans_nb n7.k)).trans s8.k (fun _ _ e=>e)).trans s9.k (fun _ _ e=>e)).trans s10.k (fun _ _ e=>e);have M10:w10.heap[mo]?=some (.map #[] 0):=k510.at (k35.nb M3) (by omega)
  have mm:∀ (m:Nat) (W:World),W.heap[m]?=some (.map #[] 0) -> SMap W m (vals (([]:List (ByteArray × Nat)).map (mv fun _=>none))):=fun m W hm=>z62 hm;have kd:∀ (W:World) (m:Nat),Keeps (·=d') W w10 -> W.heap[m]?=some (.map #[] 0) -> m ≠ d' -> w10.heap[m]?=some (.map #[] 0):=fun W m hk hm hne=>hk.at hm hne;have k810:Keeps (·=d') w7 w10:=(s8.k.trans s9.k (fun _ _ e=>e)).trans s10.k (fun _ _ e=>e);exact ⟨B10,k510.at (k35.nb B3) (by omega),zb7 (zel M10),mm _ _ (k810.at (n7.k.nb n6.blk) (by omega)),mm _ _ (k810.at n7.blk (by omega)),by simp,by simp,RowS.nil _ _ _ _ _,by simp,(k05.own (by omega) k510),by omega,by omega,by omega,by omega,by omega,by omega,by omega⟩
 have ST0:=qq ST;clear ST B3 B5 B8 B9 B10 M3 hoa hz61 hzl n1 n2 n4 n6 n7 s3 s5 s8 s9 s10 k03 k05 k35;have C1:w10.cell? ⟨d,0,none⟩=some (.map (some m1)):=(cell_of_block (ST0.out.k.nb H3.out)).trans rfl;go_wp2_with (first | go_skip | (with_reducible refine qv (by decide) ?_))
 refine za (zh rfl (z5z (H4.out.nb ST0.out.k) smT (by rfl)) ?_);rintro _ w11 ⟨r,rfl,hr,hR,k11⟩;simp only [Nat.reduceAdd,qn];have HR:=qq hR;have HRR:Hid (w.heap.size <= r):=by have:=ST0.out.k.size;refine qq ?_;omega
 have ST1:=qq (ST0.out.nb k11);clear hR hr k11 C1 ST0;go_wp2
 go_loopw [6] (fun i wr=>∃ (us:List (ByteArray × Nat)) (φ:Nat -> Option Nat),SRng wr m1 r (vals D.files) (vals us) /\ CpSt w wr d' a3 mo mf ml (.slice none 0 0) D fc φ us [] 0) (fun _ wr=>leftS wr m1 r (vals D.files))
 case atStart=>exact ⟨[],_,HR.out,ST1.out⟩
 case round =>
  obtain ⟨us,φ,hs,st⟩:=hrel;have HSR:=qq hs;have ST:=qq st;clear hs st;go_wp2_with (first | go_skip | (with_reducible refine z5b ?_))
  refine za (zh rfl (z7h HSR.out (by rfl)) ?_);rintro _ w2 (⟨hp,rfl,rfl⟩ | ⟨p,hp,hn,rfl,hs2,k2,hen⟩)
  ·
   simp only [Nat.reduceAdd,qn];have P1:Hid (us.Perm D.files):=z4x hp;clear hp;have C1:w2.cell? ⟨d,1,none⟩=some (.map (some m2)):=(cell_of_block (ST.out.k.nb H3.out)).trans rfl;have ST1b:=ST;clear HSR ST HR ST1 HRR;go_wp2_with (first | go_skip | (with_reducible refine qv (by decide) ?_))
   refine za (zh rfl (z5z (H5.out.nb ST1b.out.k) smT (by rfl)) ?_);rintro _ w12 ⟨r2,rfl,hr,hR,k12⟩;simp only [Nat.reduceAdd,qn];have HR2:=qq hR;have HRR2:Hid (w.heap.size <= r2):=by have:=ST1b.out.k.size;refine qq ?_;omega
   have ST5:=qq (ST1b.out.nb k12);clear hR hr k12 C1 ST1b;go_wp2
   go_loopw [8] (fun i wr=>∃ (ws:List (ByteArray × Nat)) (φ:Nat -> Option Nat),SRng wr m2 r2 (vals D.lasting) (vals ws) /\ CpSt w wr d' a3 mo mf ml (.slice none 0 0) D fc φ us ws 0) (fun _ wr=>leftS wr m2 r2 (vals D.lasting))
   case atStart=>exact ⟨[],_,HR2.out,ST5.out⟩
   case round =>
    obtain ⟨ws,φ,hs,st⟩:=hrel;have HSR:=qq hs;have ST:=qq st;clear hs st;go_wp2_with (first | go_skip | (with_reducible refine z5b ?_))
    refine za (zh rfl (z7h HSR.out (by rfl)) ?_);rintro _ w2 (⟨hp,rfl,rfl⟩ | ⟨p,hp,hn,rfl,hs2,k2,hen⟩)
    ·
     simp only [Nat.reduceAdd,qn];have P2:Hid (ws.Perm D.lasting):=z4x hp;clear hp;have ST6:=ST;clear HSR ST HR2 ST5 HRR2;obtain ⟨-,hone,a,c,hsv,hc1,hc2,hhas,-,-⟩:=H7.out;obtain ⟨n,hn⟩:∃ n,n=D.steps.length:=⟨_,rfl⟩
     have HN:=qq hn;have C2:w2.cell? ⟨d,2,none⟩=some (.slice a n c):=by rw [hn];exact (cell_of_block (ST6.out.k.nb H3.out)).trans (by rw [<- hsv];rfl)
     have hcm:n <= c /\ c <= 9223372036854775807:=by rw [hn];unfold maxLen at hc2;exact ⟨hc1,hc2⟩
     have hnb:n <= 1000000:=by have:=NU.out.ns;have:=NU.out.ch;omega
     have HH:=qq hhas;have HONE:=qq hone;clear hone hsv hhas hn hc1 hc2;go_wp2
     go_loopw [62] (fun i wr=>∃ (k:Nat) (φ:Nat -> Option Nat) (sv':Value),k <= n /\ i=.int .i64 k /\ CpSt w wr d' a3 mo mf ml sv' D fc φ us ws k) (fun i _=>n - (intOf i).toNat)
     case atStart=>exact ⟨0,_,_,Nat.zero_le _,rfl,ST6.out⟩
     case round =>
      obtain ⟨k,φ,sv',hk,rfl,st⟩:=hrel;have ST:=qq st;clear st;by_cases hlt:k < n
      ·
       have i1:(k:Int) < (n:Int):=by omega
       have hlt':k < D.steps.length:=by rw [<- HN.out];exact hlt
       obtain ⟨s,hs⟩:∃ s,D.steps[k]?=some s:=⟨_,List.getElem?_eq_getElem hlt'⟩
       obtain ⟨b,off,rfl⟩:∃ b off,a=some ⟨b,off,none⟩:=by
        rcases HH.out with h | ⟨b,off,h,-⟩
        ·exfalso;have:(stp s) ⊆ D.steps.flatMap stp:=fun x hx=>List.mem_flatMap.2 ⟨s,List.mem_of_getElem? hs,hx⟩;rw [h] at this;exact absurd (this (show Value.string s.name ∈ stp s by simp [stp])) (by simp)
        ·exact ⟨b,off,h⟩
       have HSS:=qq hs;have hone:∀ u ∈ stp s,u.oneCell'=true:=fun u hu=>HONE.out u (List.mem_flatMap.2 ⟨s,List.mem_of_getElem? hs,hu⟩);have hst:Has wr (some ⟨b,off + k * 4,none⟩) (stp s):=zaa (f:=stp) (fun _=>rfl) (HH.out.nb ST.out.k) hs;have hone2:=qq hone;have HST:=qq hst;clear hs hone hst hlt';obtain ⟨z72,hz72,hzl⟩:=zero72;go_wp2_with (first | go_skip | (with_reducible refine qv (by decide) ?_))
       refine za (zv (v:=.agg (stp s).toArray) rfl (z3e agg72 (by rfl) HST.out rfl) ?_);simp only [Nat.reduceAdd,qn];go_wp2_with (first | go_skip | (with_reducible refine qv (by decide) ?_))
       refine za (valloc hz72 ?_);intro g3 w3 n3;simp only [Nat.reduceAdd,qn];go_wp2_with (first | go_skip | (with_reducible refine qv (by decide) ?_))
       refine za (zc rfl (zd (v:=.agg (stp s).toArray) (n:=4) agg72.size (by rfl) (by rfl) n3.blk (by simp [Value.cells,stp]) (by rw [hzl];exact Nat.le_refl _) (by intro u hu;exact hone2.out u (by simpa [Value.cells] using hu))) ?_);intro w4 s4;rw [z2w (by rw [hzl];simp [Value.cells,stp])] at s4;simp only [Nat.reduceAdd,qn];have B4:w4.heap[g3]?=some (.cells (stp s).toArray 106 (0,0)):=s4.blk;have k4:Keeps Nb wr w4:=n3.k.own n3.ge s4.k;have G3:Hid (wr.heap.size <= g3):=n3.ge;have ST4:=qq (ST.out.nb k4);have C3:w4.cell? ⟨g3,3,none⟩=some (pk s.f):=(cell_of_block B4).trans (by rw [<- z50];rfl);have STw:=ST.out;clear n3 s4 hz72 hzl HST ST;go_wp2_with (first | go_skip | (with_reducible refine zf ?_) | fail)
       refine (z4m w.heap.size a3 mo φ s.f D fc R w4 ST4.out.cp ST4.out.bx ST4.out.k.size (fun b' e=>HX.out _ ST4.out.k _ (.inr (.inr ⟨s,List.mem_of_getElem? HSS.out,e⟩))) (fun k hk e=>by have:=HG6.out k hk;have:=ST4.out.go;omega)).mono ?_;rintro _ w5 ⟨φ',rfl,hc5,hle,hin,k5⟩;have ST5:=qq (ST4.out.copied hc5 hle k5);have hgmo:¬ g3=mo:=fun e=>by obtain ⟨es,cl,q,-⟩:=ST4.out.cp.map;rw [<- e,B4] at q;cases q
       have B5:=k5.at B4 hgmo;have HIN:=qq hin;have STk:=qq STw.k;have rowAt:∀ (W:World),Keeps (·=g3) w5 W -> RowS W (fun j=>w.heap.size <= j) Nb 106 4 sv' k (((D.steps.take k).map (ms φ')).flatMap stp):=fun W hW=>by
        rw [ms_eq STw.in3 hle];have h0:RowS wr (fun j=>w.heap.size <= j /\ j < wr.heap.size) Nb 106 4 sv' k (((D.steps.take k).map (ms φ)).flatMap stp):=STw.row.tight (fun j hj ht=>⟨hj,by obtain ⟨cur,fr,q⟩:=ht;exact lt_of_block q⟩);exact (((h0.keeps k4 (fun _ _ _ e=>e)).keeps k5 (fun j _ ht e=>by obtain ⟨es,cl,q,-⟩:=ST4.out.cp.map;exact ht.map q e)).keeps hW (fun j hj _ e=>by have:=G3.out;exact hj.elim (fun h=>by omega) id)).mono (fun j hj=>hj.1) (fun _ h=>h)
       clear hc5 hle hin k5 C3 B4 STw;go_wp2_with (first | go_skip | (with_reducible refine zf ?_) | fail)
       refine za (zc rfl (zd (v:=pk (s.f.bind φ')) (n:=1) (by kernel_rfl) (by rfl) (by rfl) B5 (by rw [(z4y _).1];rfl) (by simp [stp]) (by rw [(z4y _).1];simpa using (z4y _).2)) ?_);intro w6 s6;simp only [Nat.reduceAdd,qn];have B6:w6.heap[g3]?=some (.cells (stp (ms φ' s)).toArray 106 (0,0)):=by
        rw [s6.blk,(z4y _).1];unfold ms stp;rw [z50,z50];rfl
       have k6:=s6.k;have ROW:=qq (rowAt w6 k6);have ST6':=qq (ST5.out.cell (g:=g3) ⟨_,_,B5⟩ (by have:=ST5.out.k.size;have:=G3.out;have:=STk.out.size;omega) k6 ROW.out HO.out);clear s6 k6 B5 hgmo rowAt;have hrw:=ST6'.out.row;obtain ⟨-,-,va,vc,hsv',-⟩:=hrw;have C2':w6.cell? ⟨d',2,none⟩=some sv':=(cell_of_block ST6'.out.dk).trans rfl;subst hsv';go_wp2_with (first | go_skip | (with_reducible refine qv (by decide) ?_))
       refine za (zv (v:=.agg (stp (ms φ' s)).toArray) rfl (z3e agg72 (by rfl) (zo B6) rfl) ?_);simp only [Nat.reduceAdd,qn];go_wp2_with (first | go_skip | (with_reducible refine qv (by decide) ?_))
       refine za (zh rfl (z0w (v:=.agg (stp (ms φ' s)).toArray) el57 (by rfl) (by rfl) (by omega)) ?_);rintro _ w7 ⟨g7,rfl,n7⟩;simp only [Nat.reduceAdd,qn];have ST7:=qq (ST6'.out.nb n7.k);have hone7:∀ u ∈ stp (ms φ' s),u.oneCell'=true:=by
        intro u hu;simp only [stp,ms,List.mem_cons,List.not_mem_nil,or_false] at hu;rcases hu with rfl | rfl | rfl | rfl
        ·rfl
        ·rfl
        ·rfl
        ·rw [z50];exact (z4y _).2
       go_wp2_with (first | go_skip | (with_reducible refine qv (by decide) ?_))
       refine za (zh rfl (z15 (news:=stp (ms φ' s)) el57 ST7.out.row (by rfl) (by rfl) (zo n7.blk) (by rfl) hone7 (by omega) (by unfold maxLen;omega) (by omega)) ?_);rintro sv8 w8 ⟨r8,S8,k8,hS8⟩;have o8:sv8.cells=#[sv8] /\ sv8.oneCell'=true:=by obtain ⟨-,-,a,c,rfl,-⟩:=r8;exact ⟨rfl,rfl⟩
       simp only [Nat.reduceAdd,qn];have D8:w8.heap[d']?=some (.cells (dcs mf ml (.slice va k vc) D) 76 (0,0)):=k8.at ST7.out.dk (fun e=>(hS8 _ e).2.ne ⟨_,_,ST7.out.dk⟩ (by decide) rfl);go_wp2_with (first | go_skip | (with_reducible refine qv (by decide) ?_))
       refine za (zc rfl (zd (v:=sv8) (n:=1) (by kernel_rfl) (by rfl) (by rfl) D8 (by rw [o8.1];rfl) (by simp [dcs]) (by rw [o8.1];simpa using o8.2)) ?_);intro w9 s9;rw [o8.1] at s9;simp only [Nat.reduceAdd,qn];have ST9:=qq (ST7.out.push HSS.out HIN.out k8 (fun j hj=>hS8 j hj) r8 s9.k s9.blk HO.out);clear r8 k8 hS8 s9 D8 o8 n7 hone7 C2';go_wp2;go_roundw
       case rel=>exact ⟨k + 1,φ',sv8,by omega,by go_num,ST9.out⟩
       case measure=>simp [intOf];omega
      ·
       have hkl:k=n:=by omega
       subst hkl;have STz:=ST;clear ST hk hlt;go_wp2;go_ret;have hz:=STz.out;rw [HN.out] at hz;obtain ⟨D',fc',F',R',g1,g2,g3,g4⟩:=hz.done H.out P1.out P2.out;exact ⟨d',D',fc',F',R',φ,us,ws,rfl,g1,g2,g3,hz.k,g4⟩
    ·
     obtain ⟨q,hq,rfl⟩:=z49 hp;have hlt:=HSR.out.lt hp hn;have hl1:=HSR.out.left;have hl2:=hs2.left;rw [z5c] at hs2 hl2;have HLL:Hid (leftS w2 m2 r2 (vals D.lasting) < leftS wr m2 r2 (vals D.lasting)):=by
      have e1:=z0c ws;have e2:=z0c (ws ++ [q]);have e3:=z0c D.lasting;have hla:(ws ++ [q]).length=ws.length + 1:=by simp
      refine qq ?_;rw [hl1,hl2];omega
     have hfresh:Hid (flook ws q.1=none):=z6e H5.out.nodup HSR.out hq hn;have hen2:=qq hen;have HS2:=qq hs2;have ST2:=qq (ST.out.rng HRR2.out HSR.out k2 HO.out);have HQ:=qq hq;have HNL:Hid (q.1.size <= maxLen):=by obtain ⟨es,cl,-,-,-,hln⟩:=H5.out;exact hln _ hp
     clear hen hs2 hn hp hq k2 hlt hl1 hl2;simp only [Nat.reduceAdd,qn];go_wp2_with (first | go_skip | (with_reducible refine z4f ?_))
     refine za (zv rfl (z60 (hen2.out _ rfl rfl) (by rfl)) ?_);simp only [Nat.reduceAdd,qn];go_wp2;have c2:w2.cell? ⟨d',1,none⟩=some (.map (some ml)):=(cell_of_block ST2.out.dk).trans rfl;have HS:Hid ((fun u:World=>u.cell? ⟨d',1,none⟩=some (.map (some ml)) /\ True) w2.drew):=⟨c2,trivial⟩
     refine WT.region (fun u:World=>u.cell? ⟨d',1,none⟩=some (.map (some ml)) /\ True) 6 7 [0,1,2,3,4,5,6] (by kernel_rfl) rfl ?_;refine WT.t 0 (v:=_) (y:=by rintro w ⟨C1,C2⟩;go_simp;with_reducible rfl) (s:=HS.out) (h:=?_);refine WT.t 1 (v:=.map (some ml)) (y:=by rintro w ⟨C1,C2⟩;exact zb (by kernel_rfl) (by rfl) C1) (s:=HS.out) (h:=?_);refine WT.t 2 (v:=_) (y:=by rintro w ⟨C1,C2⟩;go_simp;with_reducible rfl) (s:=HS.out) (h:=?_);refine WT.t 3 (v:=_) (y:=by rintro w ⟨C1,C2⟩;go_simp;with_reducible rfl) (s:=HS.out) (h:=?_);refine WT.t 4 (v:=_) (y:=by rintro w ⟨C1,C2⟩;go_simp;with_reducible rfl) (s:=HS.out) (h:=?_);have STd:=qq (ST2.out.nb (Keeps.refl Nb w2).drew);refine WT.call 5 (by simp only [qi];rfl) (by kernel_rfl) (by rfl) (by go_simp;first | done | rfl | exact ⟨⟨rfl,rfl⟩,rfl⟩) (z4m w.heap.size a3 mo φ (some q.2) D fc R w2.drew STd.out.cp STd.out.bx STd.out.k.size (fun b e=>by cases e;exact HX.out _ STd.out.k _ (.inr <| .inl ⟨q,HQ.out,rfl⟩)) (fun k hk e=>by have:=HG6.out k hk;have:=STd.out.go;omega)) ?_;rintro _ w3 ⟨φ',rfl,hc3,hle,hin,k3⟩;have ST3:=qq (STd.out.copied hc3 hle k3);have kd3:Keeps (·=mo) w2 w3:=(Keeps.refl (·=mo) w2).drew.trans k3 (fun _ _ e=>e);refine ⟨_,rfl,⟨(cell_of_block ST3.out.dk).trans rfl,trivial⟩,?_⟩;obtain ⟨c,hc⟩:∃ c,φ' q.2=some c:=by
      cases e:φ' q.2 with
      | none=>exact absurd e (hin q.2 rfl)
      | some c=>exact ⟨c,rfl⟩
     have HC:=qq hc;rw [show (some q.2).bind φ'=some c from hc];simp only [Nat.reduceAdd,qn];refine WT.stop (by kernel_rfl) ?_;refine WP.onlySkipE 6 (by simp only [qi];rfl) (by kernel_rfl) (by rfl) (z30 (v:=pk (some c)) ST3.out.m2 smT (by rfl) (by rfl) (by rfl) HNL.out) ?_;rintro w4 ⟨M4,k4⟩;simp only [Nat.reduceAdd,qn];refine WP.done (by kernel_rfl) ?_;have hmvq:mv φ' q=(q.1,c):=by simp [mv,HC.out]
     have M4':SMap w4 ml (vals ((ws ++ [q]).map (mv φ'))):=by
      rw [List.map_append,List.map_singleton,hmvq,<- z59 (z8o hfresh.out φ')];exact M4
     have ST4:=qq (ST3.out.put2 (q:=q) (by rw [HC.out];simp) M4' k4 HO.out);have hrm:¬ m2=mo:=fun e=>by have:=H4.out.lt;have:=H5.out.lt;have:=STd.out.go;omega
     have hrm2:¬ m2=ml:=fun e=>by have:=H4.out.lt;have:=H5.out.lt;have:=STd.out.gf;have:=STd.out.gl;omega
     have hr1:¬ r2=mo:=fun e=>HS2.out.notPM STd.out.cp.map e.symm;have hr2:¬ r2=ml:=fun e=>HS2.out.notM ST2.out.m2 e.symm;have HS4:=qq ((HS2.out.keeps kd3 hrm hr1).keeps k4 hrm2 hr2);have HLL4:Hid (leftS w4 m2 r2 (vals D.lasting) < leftS wr m2 r2 (vals D.lasting)):=by
      have h1:=HLL.out;rw [HS2.out.left] at h1;refine qq ?_;rw [HS4.out.left];exact h1
     clear hc3 hle hin k3 hc M4 M4' k4 hmvq HS c2 kd3 hrm hrm2 hr1 hr2;go_wp2;go_roundw
     case rel=>exact ⟨ws ++ [q],φ',HS4.out,ST4.out⟩
     case measure=>exact HLL4.out
  ·
   obtain ⟨q,hq,rfl⟩:=z49 hp;have hlt:=HSR.out.lt hp hn;have hl1:=HSR.out.left;have hl2:=hs2.left;rw [z5c] at hs2 hl2;have HLL:Hid (leftS w2 m1 r (vals D.files) < leftS wr m1 r (vals D.files)):=by
    have e1:=z0c us;have e2:=z0c (us ++ [q]);have e3:=z0c D.files;have hla:(us ++ [q]).length=us.length + 1:=by simp
    refine qq ?_;rw [hl1,hl2];omega
   have hfresh:Hid (flook us q.1=none):=z6e H4.out.nodup HSR.out hq hn;have hen2:=qq hen;have HS2:=qq hs2;have ST2:=qq (ST.out.rng HRR.out HSR.out k2 HO.out);have HQ:=qq hq;have HNL:Hid (q.1.size <= maxLen):=by obtain ⟨es,cl,-,-,-,hln⟩:=H4.out;exact hln _ hp
   clear hen hs2 hn hp hq k2 hlt hl1 hl2;simp only [Nat.reduceAdd,qn];go_wp2_with (first | go_skip | (with_reducible refine z4f ?_))
   refine za (zv rfl (z60 (hen2.out _ rfl rfl) (by rfl)) ?_);simp only [Nat.reduceAdd,qn];go_wp2;have c2:w2.cell? ⟨d',0,none⟩=some (.map (some mf)):=(cell_of_block ST2.out.dk).trans rfl;have HS:Hid ((fun u:World=>u.cell? ⟨d',0,none⟩=some (.map (some mf)) /\ True) w2.drew):=⟨c2,trivial⟩
   refine WT.region (fun u:World=>u.cell? ⟨d',0,none⟩=some (.map (some mf)) /\ True) 6 7 [0,1,2,3,4,5,6] (by kernel_rfl) rfl ?_;refine WT.t 0 (v:=_) (y:=by rintro w ⟨C1,C2⟩;go_simp;with_reducible rfl) (s:=HS.out) (h:=?_);refine WT.t 1 (v:=.map (some mf)) (y:=by rintro w ⟨C1,C2⟩;exact zb (by kernel_rfl) (by rfl) C1) (s:=HS.out) (h:=?_);refine WT.t 2 (v:=_) (y:=by rintro w ⟨C1,C2⟩;go_simp;with_reducible rfl) (s:=HS.out) (h:=?_);refine WT.t 3 (v:=_) (y:=by rintro w ⟨C1,C2⟩;go_simp;with_reducible rfl) (s:=HS.out) (h:=?_);refine WT.t 4 (v:=_) (y:=by rintro w ⟨C1,C2⟩;go_simp;with_reducible rfl) (s:=HS.out) (h:=?_);have STd:=qq (ST2.out.nb (Keeps.refl Nb w2).drew);refine WT.call 5 (by simp only [qi];rfl) (by kernel_rfl) (by rfl) (by go_simp;first | done | rfl | exact ⟨⟨rfl,rfl⟩,rfl⟩) (z4m w.heap.size a3 mo φ (some q.2) D fc R w2.drew STd.out.cp STd.out.bx STd.out.k.size (fun b e=>by cases e;exact HX.out _ STd.out.k _ (.inl ⟨q,HQ.out,rfl⟩)) (fun k hk e=>by have:=HG6.out k hk;have:=STd.out.go;omega)) ?_;rintro _ w3 ⟨φ',rfl,hc3,hle,hin,k3⟩;have ST3:=qq (STd.out.copied hc3 hle k3);have kd3:Keeps (·=mo) w2 w3:=(Keeps.refl (·=mo) w2).drew.trans k3 (fun _ _ e=>e);refine ⟨_,rfl,⟨(cell_of_block ST3.out.dk).trans rfl,trivial⟩,?_⟩;obtain ⟨c,hc⟩:∃ c,φ' q.2=some c:=by
    cases e:φ' q.2 with
    | none=>exact absurd e (hin q.2 rfl)
    | some c=>exact ⟨c,rfl⟩
   have HC:=qq hc;rw [show (some q.2).bind φ'=some c from hc];simp only [Nat.reduceAdd,qn];refine WT.stop (by kernel_rfl) ?_;refine WP.onlySkipE 6 (by simp only [qi];rfl) (by kernel_rfl) (by rfl) (z30 (v:=pk (some c)) ST3.out.m1 smT (by rfl) (by rfl) (by rfl) HNL.out) ?_;rintro w4 ⟨M4,k4⟩;simp only [Nat.reduceAdd,qn];refine WP.done (by kernel_rfl) ?_;have hmvq:mv φ' q=(q.1,c):=by simp [mv,HC.out]
   have M4':SMap w4 mf (vals ((us ++ [q]).map (mv φ'))):=by
    rw [List.map_append,List.map_singleton,hmvq,<- z59 (z8o hfresh.out φ')];exact M4
   have ST4:=qq (ST3.out.put1 (q:=q) (by rw [HC.out];simp) M4' k4 HO.out);have hrm:¬ m1=mo:=fun e=>by have:=H4.out.lt;have:=H5.out.lt;have:=STd.out.go;omega
   have hrm2:¬ m1=mf:=fun e=>by have:=H4.out.lt;have:=H5.out.lt;have:=STd.out.gf;have:=STd.out.gl;omega
   have hr1:¬ r=mo:=fun e=>HS2.out.notPM STd.out.cp.map e.symm;have hr2:¬ r=mf:=fun e=>HS2.out.notM ST2.out.m1 e.symm;have HS4:=qq ((HS2.out.keeps kd3 hrm hr1).keeps k4 hrm2 hr2);have HLL4:Hid (leftS w4 m1 r (vals D.files) < leftS wr m1 r (vals D.files)):=by
    have h1:=HLL.out;rw [HS2.out.left] at h1;refine qq ?_;rw [HS4.out.left];exact h1
   clear hc3 hle hin k3 hc M4 M4' k4 hmvq HS c2 kd3 hrm hrm2 hr1 hr2;go_wp2;go_roundw
   case rel=>exact ⟨us ++ [q],φ',HS4.out,ST4.out⟩
   case measure=>exact HLL4.out
end Go.Proofs.YtpjomdmjohjheaaGreatDoor
end
section
namespace Go.Vfs
open Go.Lk Go.RowKit
theorem z0x {s:ByteArray} (h:mnB s=true):1 <= s.size /\ s.size <= 32:=by
 unfold mnB at h;simp only [Bool.and_eq_true,decide_eq_true_eq] at h;exact h.2
theorem z5f {s:ByteArray} (h:mnB s=true):s.size <= maxLen:=by have:=z0x h;unfold maxLen;omega
def pkn (zs:List Int) (i:Nat):Nat:=(zs.getD i 0).toNat
def ren1 (L:List (ByteArray × Nat)) (s t:ByteArray):Option Nat -> List (ByteArray × Nat)
 | none=>L
 | some b=>fput (fdel L s) t b
def againL (L:List (ByteArray × Nat)) (s:Stp):List (ByteArray × Nat) :=
 if s.act=0 then (if (flook L s.name).isSome then L else fput L s.name (s.f.getD 0))
 else if s.act=1 then ren1 L s.name s.to (flook L s.name)
 else fdel L s.name
theorem z9v (l:List (ByteArray × Nat)) (s:ByteArray):(sget (vals l) s).isSome=(flook l s).isSome:=by
 unfold sget flook vals
 induction l with
 | nil=>rfl
 | cons p l ih =>
  rw [List.map_cons,List.find?_cons,List.find?_cons];by_cases h:p.1=s
  ·simp [h]
  ·simp only [h,decide_false];exact ih
end Go.Vfs
namespace Go.Proofs.YtpjomdmjohjheaaGreatDoor
open Go.RowKit Go.Lk Go.Vfs
theorem again_at (d m1 m2:Nat) (sv:Value) (D:Dk) (s:Stp) (w:World) (h:w.heap[d]?=some (.cells (dcs m1 m2 sv D) 76 (0,0))) (hm:SMap w m2 (vals D.lasting)) (hs:GoodS s) :
  Calls Tryz.prog 82 #[.pointer (some ⟨d,0,none⟩),.agg (stp s).toArray] w fun e w'=>(∃ v,e=.returned v) /\ SMap w' m2 (vals (againL D.lasting s)) /\ Keeps (·=m2) w w':=by
 have HM:=qq hm;have HN:Hid (s.name.size <= maxLen):=by rcases hs with ⟨-,h2,-⟩ | ⟨-,h2,-⟩ | ⟨-,h2,-⟩ <;> exact z5f h2
 have HD:=qq h;have hdm:¬ d=m2:=by rintro rfl;obtain ⟨es,cl,q,-⟩:=hm;rw [h] at q;cases q
 clear h hm;go_enter Tryz.func82,Tryz.ntmps82;go_wp2_with (first | go_skip | (with_reducible refine qv (by decide) ?_))
 refine za (vbox (by rfl) ?_);intro g w1 n1;simp only [Nat.reduceAdd,qn];have D1:=n1.k.nb HD.out;have c1:w1.cell? ⟨d,1,none⟩=some (.map (some m2)):=(cell_of_block D1).trans rfl;have e0:w1.cell? ⟨g,0,none⟩=some (.int .i64 (s.act:Nat)):=(cell_of_block n1.blk).trans rfl;have e1:w1.cell? ⟨g,1,none⟩=some (.string s.name):=(cell_of_block n1.blk).trans rfl;have e2:w1.cell? ⟨g,2,none⟩=some (.string s.to):=(cell_of_block n1.blk).trans rfl;have e3:w1.cell? ⟨g,3,none⟩=some (pk s.f):=(cell_of_block n1.blk).trans (by rw [<- z50];rfl);have M1:=qq (HM.out.nb n1.k);have K1:=qq n1.k;have B1:=qq n1.blk;have hgm:Hid (¬ g=m2):=fun e=>by obtain ⟨es,cl,q,-⟩:=M1.out;rw [<- e,B1.out] at q;cases q
 clear n1 D1;go_wp2_with (first | go_skip | (with_reducible refine qv (by decide) ?_))
 refine za (zv rfl (z2b (n:=s.name) M1.out smT (zero63 _) (by rfl) (by rfl) HN.out) ?_);simp only [if_true,z3o,z9v];obtain ⟨r,hr⟩:∃ r,r=flook D.lasting s.name:=⟨_,rfl⟩
 have HR:=qq hr;rw [<- hr];clear hr;simp only [Nat.reduceAdd,qn];rcases hs with ⟨h1,h2,b,h3⟩ | ⟨h1,h2,h4,h3⟩ | ⟨h1,h2,h3⟩
 ·
  have HA:Hid (againL D.lasting s=if r.isSome then D.lasting else fput D.lasting s.name b):=by refine qq ?_;unfold againL;rw [if_pos h1,HR.out,h3];rfl
  rw [h1] at e0;rw [h3] at e3;clear h1 h2 h3;cases r with
  | none =>
   go_wp2_with (first | go_skip | (with_reducible refine qv (by decide) ?_))
   refine za (zc rfl (z30 (v:=.pointer (some ⟨b,0,none⟩)) M1.out smT (by rfl) (by rfl) (by rfl) HN.out) ?_);rintro w2 ⟨M2,k2⟩;rw [sput_vals'] at M2;have HM2:=qq M2;have K2:=qq k2;clear M2 k2;simp only [Nat.reduceAdd,qn];go_wp2;go_end0;exact ⟨⟨_,rfl⟩,by rw [HA.out];exact HM2.out,(Keeps.of_nb K1.out).trans K2.out (fun _ _ e=>e)⟩
  | some x =>
   go_wp2;go_end0;exact ⟨⟨_,rfl⟩,by rw [HA.out];exact M1.out,Keeps.of_nb K1.out⟩
 ·
  have HA:Hid (againL D.lasting s=ren1 D.lasting s.name s.to r):=by refine qq ?_;unfold againL;rw [if_neg (by omega),if_pos h1,HR.out]
  have HT:=qq (z5f h4);rw [h1] at e0;clear h1 h2 h3 h4;cases r with
  | none =>
   go_wp2;go_end0;exact ⟨⟨_,rfl⟩,by rw [HA.out];exact M1.out,Keeps.of_nb K1.out⟩
  | some x =>
   go_wp2_with (first | go_skip | (with_reducible refine qv (by decide) ?_))
   refine za (zh rfl (z5l (n:=s.name) M1.out smT (by rfl) (by rfl) HN.out) ?_);rintro _ w2 ⟨M2,k2⟩;rw [z3n] at M2;have HM2:=qq M2;have K2:=qq k2;have f2:w2.cell? ⟨g,2,none⟩=some (.string s.to):=(cell_of_block (k2.at B1.out hgm.out)).trans rfl;clear M2 k2;simp only [Nat.reduceAdd,qn];go_wp2_with (first | go_skip | (with_reducible refine qv (by decide) ?_))
   refine za (zc rfl (z30 (v:=.pointer (some ⟨x,0,none⟩)) HM2.out smT (by rfl) (by rfl) (by rfl) HT.out) ?_);rintro w3 ⟨M3,k3⟩;rw [sput_vals'] at M3;have HM3:=qq M3;have K3:=qq k3;clear M3 k3;simp only [Nat.reduceAdd,qn];go_wp2;go_end0;exact ⟨⟨_,rfl⟩,by rw [HA.out];exact HM3.out,((Keeps.of_nb K1.out).trans K2.out (fun _ _ e=>e)).trans K3.out (fun _ _ e=>e)⟩
 ·
  have HA:Hid (againL D.lasting s=fdel D.lasting s.name):=by refine qq ?_;unfold againL;rw [if_neg (by omega),if_neg (by omega)]
  rw [h1] at e0;clear h1 h2 h3;have hb:∀ x:Option Nat,∃ y:Bool,y=x.isSome:=fun x=>⟨_,rfl⟩
  go_wp2_with (first | go_skip | (with_reducible refine qv (by decide) ?_))
  refine za (zh rfl (z5l (n:=s.name) M1.out smT (by rfl) (by rfl) HN.out) ?_);rintro _ w2 ⟨M2,k2⟩;rw [z3n] at M2;have HM2:=qq M2;have K2:=qq k2;clear M2 k2;simp only [Nat.reduceAdd,qn];go_wp2;go_end0;exact ⟨⟨_,rfl⟩,by rw [HA.out];exact HM2.out,(Keeps.of_nb K1.out).trans K2.out (fun _ _ e=>e)⟩
theorem zaj (ai ap i n c:Nat) (a:Option Addr) (zs:List Int) (w:World) (hi:w.heap[ai]?=some (.cells #[.int .i64 i] 3 (0,0))) (hp:w.heap[ap]?=some (.cells #[.slice a n c] 35 (0,0))) (hr:Reads .i64 w a zs) (hl:zs.length=n) (hz:∀ z ∈ zs,-9223372036854775808 <= z /\ z <= 9223372036854775807) (hn:n <= c /\ c <= maxLen) (hi2:i <= 100000000) :
  Calls Tryz.prog 81 #[.pointer (some ⟨ai,0,none⟩),.pointer (some ⟨ap,0,none⟩)] w fun e w'=>e=.returned (.int .i64 (pkn zs i:Nat)) /\ pkn zs i <= 9223372036854775807 /\ w'.heap[ai]?=some (.cells #[.int .i64 (i + 1:Nat)] 3 (0,0)) /\ Keeps (·=ai) w w':=by
 have HI:=qq hi;have c1:w.cell? ⟨ai,0,none⟩=some (.int .i64 i):=cell_of_block hi;have c2:w.cell? ⟨ap,0,none⟩=some (.slice a n c):=cell_of_block hp;obtain ⟨hn1,hn2⟩:=hn;unfold maxLen at hn2;by_cases hlt:i < n
 ·
  have hil:i < zs.length:=by omega
  obtain ⟨b,off,rfl,hc⟩:∃ b off,a=some ⟨b,off,none⟩ /\ ∀ i,i < zs.length -> w.cell? ⟨b,off + i,none⟩=some (.int .i64 (nth zs i)):=by
   rcases hr with h | ⟨b,off,h1,h2⟩
   ·subst h;simp at hil
   ·exact ⟨b,off,h1,h2⟩
  have c3:=hc i hil;have HP:Hid (pkn zs i=(nth zs i).toNat):=rfl;have hz2:-9223372036854775808 <= nth zs i /\ nth zs i <= 9223372036854775807:=by rw [z8w hil];exact hz _ (List.getElem_mem hil)
  generalize nth zs i=z at *;clear hc hr hi hp hz hl hil;obtain ⟨y,hy⟩:∃ y:Nat,(y:Int)=if 0 <= z then z else 0:=⟨(if 0 <= z then z else 0).toNat,by split <;> omega⟩
  by_cases h0:z < 0
  all_goals
   go_enter Tryz.func81,Tryz.ntmps81
   go_wp2_with (first | go_skip | (with_reducible refine zf ?_))
   refine za (zc rfl (zd (v:=.int .i64 (i + 1:Nat)) (n:=1) (by kernel_rfl) (by rfl) (by rfl) HI.out (by rfl) (by simp) (by simp [Value.cells,Value.oneCell'])) ?_);intro w2 s2;have B2:=qq s2.blk;have K2:=qq s2.k;clear s2;simp only [Nat.reduceAdd,qn];go_wp2;go_ret
  ·exact ⟨by rw [HP.out,show z.toNat=0 by omega];first | rfl | (rw [show max z 0=0 by omega];rfl),by rw [HP.out];omega,B2.out,K2.out⟩
  ·exact ⟨by rw [HP.out,Int.toNat_of_nonneg (by omega)];first | rfl | (rw [show max z 0=z by omega];rfl),by rw [HP.out];omega,B2.out,K2.out⟩
 ·
  have HP:Hid (pkn zs i=0):=by refine qq ?_;unfold pkn;rw [List.getD_eq_getElem?_getD,List.getElem?_eq_none (by omega)];rfl
  clear hr hi hp hz;go_enter Tryz.func81,Tryz.ntmps81;go_wp2_with (first | go_skip | (with_reducible refine zf ?_))
  refine za (zc rfl (zd (v:=.int .i64 (i + 1:Nat)) (n:=1) (by kernel_rfl) (by rfl) (by rfl) HI.out (by rfl) (by simp) (by simp [Value.cells,Value.oneCell'])) ?_);intro w2 s2;have B2:=qq s2.blk;have K2:=qq s2.k;clear s2;simp only [Nat.reduceAdd,qn];go_wp2;go_ret;exact ⟨by rw [HP.out];rfl,by rw [HP.out];omega,B2.out,K2.out⟩
end Go.Proofs.YtpjomdmjohjheaaGreatDoor
end
section
namespace Go.Proofs
open Go.Shelf
def Tryz.keys85_ren:Go.Shelf.Ren:=⟨fun | 7=>85 | 10=>136 | n=>n,fun | 23=>71 | 26=>9 | 3=>104 | 28=>112 | 0=>0 | 27=>111 | 33=>92 | 4=>4 | n=>n,fun | n=>n⟩
theorem Tryz.keys85:Go.Proofs.SlLaysZ.n7 Tryz.prog Tryz.keys85_ren:={
 mixed:=by kernel_rfl
 f7:=⟨Tryz.f85.name,by decide,Tryz.func85.trans (congrArg some (by kernel_rfl))⟩
 f10:=⟨Tryz.f136.name,by decide,Tryz.func136.trans (congrArg some (by kernel_rfl))⟩
 t0:=Tryz.underlying0
 a0:=Tryz.isAgg0
 z0:=Tryz.sizeOf0
 v0:=Tryz.zeroValue0
 t4:=Tryz.underlying4
 a4:=Tryz.isAgg4
 z4:=Tryz.sizeOf4
 v4:=Tryz.zeroValue4
 t23:=Tryz.underlying71
 a23:=Tryz.isAgg71
 z23:=Tryz.sizeOf71
 v23:=Tryz.zeroValue71
 t26:=Tryz.underlying9
 a26:=Tryz.isAgg9
 z26:=Tryz.sizeOf9
 v26:=Tryz.zeroValue9
 t27:=Tryz.underlying111
 a27:=Tryz.isAgg111
 z27:=Tryz.sizeOf111
 v27:=Tryz.zeroValue111
 t28:=Tryz.underlying112
 a28:=Tryz.isAgg112
 z28:=Tryz.sizeOf112
 v28:=Tryz.zeroValue112
 t33:=Tryz.underlying92
 a33:=Tryz.isAgg92
 z33:=Tryz.sizeOf92
 v33:=Tryz.zeroValue92 }
def Tryz.sorted84_ren:Go.Shelf.Ren:=⟨fun | 6=>84 | 8=>134 | 9=>135 | 11=>154 | 13=>152 | 12=>155 | 23=>176 | 24=>177 | 14=>178 | 15=>179 | 16=>180 | 17=>181 | 18=>182 | 19=>183 | 20=>184 | 21=>185 | 22=>186 | 25=>205 | 26=>200 | 27=>201 | 28=>206 | 29=>207 | 30=>208 | 31=>217 | n=>n,fun | 26=>9 | 28=>112 | 24=>109 | 0=>0 | 3=>3 | 37=>125 | 48=>81 | 50=>80 | 4=>4 | 40=>176 | 39=>175 | 45=>181 | 5=>5 | 9=>9 | 51=>203 | 55=>207 | 57=>220 | 58=>221 | 33=>92 | n=>n,fun | n=>n⟩
theorem Tryz.sorted84:Go.Proofs.SlLaysZ.n6 Tryz.prog Tryz.sorted84_ren:={
 mixed:=by kernel_rfl
 f6:=⟨Tryz.f84.name,by decide,Tryz.func84.trans (congrArg some (by kernel_rfl))⟩
 f8:=⟨Tryz.f134.name,by decide,Tryz.func134.trans (congrArg some (by kernel_rfl))⟩
 f11:=⟨Tryz.f154.name,by decide,Tryz.func154.trans (congrArg some (by kernel_rfl))⟩
 t0:=Tryz.underlying0
 a0:=Tryz.isAgg0
 z0:=Tryz.sizeOf0
 v0:=Tryz.zeroValue0
 t24:=Tryz.underlying109
 a24:=Tryz.isAgg109
 z24:=Tryz.sizeOf109
 v24:=Tryz.zeroValue109
 t26:=Tryz.underlying9
 a26:=Tryz.isAgg9
 z26:=Tryz.sizeOf9
 v26:=Tryz.zeroValue9
 t28:=Tryz.underlying112
 a28:=Tryz.isAgg112
 z28:=Tryz.sizeOf112
 v28:=Tryz.zeroValue112
 i26:=by kernel_rfl }
def Tryz.sort135_ren:Go.Shelf.Ren:=⟨fun | 6=>135 | 8=>152 | 9=>155 | 19=>176 | 20=>177 | 21=>178 | 22=>179 | 23=>180 | 24=>181 | 25=>182 | 26=>183 | 27=>184 | 28=>185 | 29=>186 | 36=>205 | 31=>200 | 32=>201 | 37=>206 | 38=>207 | 39=>208 | 41=>217 | n=>n,fun | 27=>109 | 29=>9 | 3=>3 | 32=>125 | 26=>109 | 0=>0 | 44=>81 | 46=>80 | 4=>4 | 36=>176 | 35=>175 | 41=>181 | 5=>5 | 9=>9 | 53=>203 | 57=>207 | 63=>220 | 64=>221 | n=>n,fun | n=>n⟩
theorem Tryz.sort135:Go.Proofs.SlLaysM.n6 Tryz.prog Tryz.sort135_ren:={
 mixed:=by kernel_rfl
 f6:=⟨Tryz.f135.name,by decide,Tryz.func135.trans (congrArg some (by kernel_rfl))⟩
 f8:=Tryz.func152.trans (congrArg some (by kernel_rfl))
 f9:=⟨Tryz.f155.name,by decide,Tryz.func155.trans (congrArg some (by kernel_rfl))⟩
 f19:=Tryz.func176.trans (congrArg some (by kernel_rfl))
 f20:=Tryz.func177.trans (congrArg some (by kernel_rfl))
 f21:=⟨Tryz.f178.name,by decide,Tryz.func178.trans (congrArg some (by kernel_rfl))⟩
 f22:=⟨Tryz.f179.name,by decide,Tryz.func179.trans (congrArg some (by kernel_rfl))⟩
 f23:=⟨Tryz.f180.name,by decide,Tryz.func180.trans (congrArg some (by kernel_rfl))⟩
 f24:=⟨Tryz.f181.name,by decide,Tryz.func181.trans (congrArg some (by kernel_rfl))⟩
 f25:=⟨Tryz.f182.name,by decide,Tryz.func182.trans (congrArg some (by kernel_rfl))⟩
 f26:=⟨Tryz.f183.name,by decide,Tryz.func183.trans (congrArg some (by kernel_rfl))⟩
 f27:=⟨Tryz.f184.name,by decide,Tryz.func184.trans (congrArg some (by kernel_rfl))⟩
 f28:=⟨Tryz.f185.name,by decide,Tryz.func185.trans (congrArg some (by kernel_rfl))⟩
 f29:=⟨Tryz.f186.name,by decide,Tryz.func186.trans (congrArg some (by kernel_rfl))⟩
 f31:=Tryz.func200.trans (congrArg some (by kernel_rfl))
 f32:=Tryz.func201.trans (congrArg some (by kernel_rfl))
 f36:=⟨Tryz.f205.name,by decide,Tryz.func205.trans (congrArg some (by kernel_rfl))⟩
 f37:=⟨Tryz.f206.name,by decide,Tryz.func206.trans (congrArg some (by kernel_rfl))⟩
 f38:=⟨Tryz.f207.name,by decide,Tryz.func207.trans (congrArg some (by kernel_rfl))⟩
 f39:=⟨Tryz.f208.name,by decide,Tryz.func208.trans (congrArg some (by kernel_rfl))⟩
 f41:=⟨Tryz.f217.name,by decide,Tryz.func217.trans (congrArg some (by kernel_rfl))⟩
 t0:=Tryz.underlying0
 a0:=Tryz.isAgg0
 z0:=Tryz.sizeOf0
 v0:=Tryz.zeroValue0
 t3:=Tryz.underlying3
 a3:=Tryz.isAgg3
 z3:=Tryz.sizeOf3
 v3:=Tryz.zeroValue3
 t4:=Tryz.underlying4
 a4:=Tryz.isAgg4
 z4:=Tryz.sizeOf4
 v4:=Tryz.zeroValue4
 t5:=Tryz.underlying5
 a5:=Tryz.isAgg5
 z5:=Tryz.sizeOf5
 v5:=Tryz.zeroValue5
 t9:=Tryz.underlying9
 a9:=Tryz.isAgg9
 z9:=Tryz.sizeOf9
 v9:=Tryz.zeroValue9
 t26:=Tryz.underlying109
 a26:=Tryz.isAgg109
 z26:=Tryz.sizeOf109
 v26:=Tryz.zeroValue109
 t27:=Tryz.underlying109
 a27:=Tryz.isAgg109
 z27:=Tryz.sizeOf109
 v27:=Tryz.zeroValue109
 t29:=Tryz.underlying9
 a29:=Tryz.isAgg9
 z29:=Tryz.sizeOf9
 v29:=Tryz.zeroValue9
 t32:=Tryz.underlying125
 a32:=Tryz.isAgg125
 z32:=Tryz.sizeOf125
 v32:=Tryz.zeroValue125
 t35:=Tryz.underlying175
 a35:=Tryz.isAgg175
 z35:=Tryz.sizeOf175
 v35:=Tryz.zeroValue175
 t36:=Tryz.underlying176
 a36:=Tryz.isAgg176
 z36:=Tryz.sizeOf176
 v36:=Tryz.zeroValue176
 t41:=Tryz.underlying181
 a41:=Tryz.isAgg181
 z41:=Tryz.sizeOf181
 v41:=Tryz.zeroValue181
 t44:=Tryz.underlying81
 a44:=Tryz.isAgg81
 z44:=Tryz.sizeOf81
 v44:=Tryz.zeroValue81
 t46:=Tryz.underlying80
 a46:=Tryz.isAgg80
 z46:=Tryz.sizeOf80
 v46:=Tryz.zeroValue80
 t53:=Tryz.underlying203
 a53:=Tryz.isAgg203
 z53:=Tryz.sizeOf203
 v53:=Tryz.zeroValue203
 t57:=Tryz.underlying207
 a57:=Tryz.isAgg207
 z57:=Tryz.sizeOf207
 v57:=Tryz.zeroValue207
 t63:=Tryz.underlying220
 a63:=Tryz.isAgg220
 z63:=Tryz.sizeOf220
 v63:=Tryz.zeroValue220
 t64:=Tryz.underlying221
 a64:=Tryz.isAgg221
 z64:=Tryz.sizeOf221
 v64:=Tryz.zeroValue221 }
end Go.Proofs
end
section
namespace Go.Lk
open Go.RowKit Go.MapKept Go.Maps Go.WideElems Go.WideShapes
open Go.Proofs (encStr)
variable {P:Program} {t k e:TypeId} {w:World} {m:Nat} {l:List (ByteArray × Value)}
theorem SMap.owns (h:SMap w m l) (T:SmT P t k e) (hl:l.length <= 1000000):∃ D0:DataW Unit,w.ownsMap P k (fun _=>some (.nil,[])) m 1000000 D0 /\ (strKeys D0).Perm (l.map fun p=>p.1.data.toList) /\ Maps.size D0 <= 1000000:=by
 obtain ⟨es,clock,h1,h2,h3,h4⟩:=h;have hlen:=za6 h3;have hr:∀ x ∈ es.toList,∃ s:ByteArray,x.key=.string s /\ rd (H:=Unit) P k (fun _=>some (.nil,[])) x=some (.string s.data.toList,.nil):=fun x hx=>by
  obtain ⟨j,hj⟩:=List.mem_iff_getElem?.1 hx;obtain ⟨p,hp,h5,-⟩:=z4n h3 hj;have hs:=h4 p (List.mem_of_getElem? hp);refine ⟨p.1,h5,?_⟩;unfold rd;rw [h5,Go.WideMaps.keyOf_string_mk T.hk hs];rfl
 refine ⟨.map ((es.toList.map (rg P k (fun _=>some (.nil,[])))).foldr DataW.insert []),⟨es,clock,h1,⟨by unfold maxLen;omega,h2,fun x hx=>⟨_,(hr x hx).choose_spec.2⟩⟩,by omega,rfl⟩,?_,?_⟩
 ·
  show ((es.toList.map (rg P k (fun _=>some (.nil,[])))).foldr DataW.insert [] |>.map fun p=>strOf p.1).Perm _;refine ((sorted_perm _).map _).trans ?_;rw [List.map_map];have:es.toList.map ((fun p=>strOf p.1) ∘ rg (H:=Unit) P k (fun _=>some (.nil,[])))=l.map fun p=>p.1.data.toList:=by
   apply List.ext_getElem?;intro i;rw [List.getElem?_map,List.getElem?_map];cases hi:es.toList[i]? with
   | none =>
    have:l[i]?=none:=List.getElem?_eq_none (by have:=List.getElem?_eq_none_iff.1 hi;simp at this;omega);rw [this];rfl
   | some x =>
    obtain ⟨p,hp,h5,-⟩:=z4n h3 hi;obtain ⟨s,e1,e2⟩:=hr x (List.mem_of_getElem? hi);rw [hp];simp only [Option.map_some,Function.comp,rg_of e2,strOf];rw [h5] at e1;cases e1;rfl
  rw [this]
 ·show ((es.toList.map (rg P k (fun _=>some (.nil,[])))).foldr DataW.insert []).length <= _;rw [(sorted_perm _).length_eq,List.length_map,Array.length_toList];omega
end Go.Lk
namespace Go.Proofs.YtpjomdmjohjheaaGreatDoor
open Go.RowKit Go.Lk Go.Vfs
theorem sorts49 (m:Nat):Go.Proofs.AnyZ.SortsIn Tryz.prog Tryz.sorted84_ren Fence.wide m :=
 ⟨fun blk off cap ss W hH hblk hsz=>callsIn_wide.2 (Go.Proofs.AnyM.slices_Sort_string Tryz.sort135 blk off cap ss W hH hblk hsz),
  fun p cap W=>callsIn_wide.2 (Go.Proofs.AnyM.slices_Sort_string_none Tryz.sort135 p cap W)⟩
theorem zac (m:Nat) (w:World):Calls Tryz.prog 85 #[.map (some m)] w fun e w'=>e=.returned (.func (.func 136) #[] #[.pointer (some ⟨w.heap.size,0,none⟩)]) /\ w'=w.alloc (.cells #[.map (some m)] 71) :=
 callsIn_wide.1 (Go.Proofs.AnyZ.keys_in Tryz.keys85 Fence.wide 5 trivial rfl (some m) w)
theorem sorted_at (m:Nat) (l:List (ByteArray × Value)) (w:World) (h:SMap w m l) (hl:l.length <= 1000000) :
  Calls Tryz.prog 84 #[.func (.func 136) #[] #[.pointer (some ⟨w.heap.size,0,none⟩)]] (w.alloc (.cells #[.map (some m)] 71)) fun e w'=>∃ (v:Value) (ns:List ByteArray),e=.returned v /\ ns.Perm (l.map Prod.fst) /\ w'.ownsRow w.heap.size 9 1 v ns.length (ns.map .string) /\ Keeps Nb w w':=by
 obtain ⟨D0,hown,hperm,hsz⟩:=h.owns smT hl;have hbl:=hown.lt;have hmax:Go.Maps.size D0 <= maxLen:=by unfold maxLen;omega
 have hseq:Go.SeqGives Fence.wide 2 Tryz.prog 136 #[.pointer (some ⟨w.heap.size,0,none⟩)] Go.Proofs.encStr (fun ss=>ss.Perm (strKeys D0)) (Go.Maps.size D0) (w.alloc (.cells #[.map (some m)] 71)) :=
  Go.Proofs.AnyZ.keys_gives (ρ:=Tryz.keys85_ren) { Tryz.keys85 with } Fence.wide _ trivial rfl (by omega) w.heap.size m _ D0 _ (by simp) (by simp) (by
   obtain ⟨es,clock,hb,Ft,hs,hD⟩:=hown
   exact ⟨es,clock,(Below.heap_alloc _ _ m hbl).trans hb,Ft,hs,hD⟩)
 have key:=Go.Proofs.AnyZ.sorted_in Tryz.sorted84 Fence.wide 5 trivial trivial trivial trivial rfl (by omega) (sorts49 _) (enters_of Tryz.func135 (by kernel_rfl) rfl) 136 #[.pointer (some ⟨w.heap.size,0,none⟩)] trivial (enters_of Tryz.func136 (by kernel_rfl) rfl) _ _ hmax (by omega) _ hseq;refine (callsIn_wide.1 key).mono ?_;rintro e w' ⟨v,ss,rfl,hS,hrow,hnil,hb⟩;refine ⟨v,(ss.mergeSort (fun x y=>decide (x <= y))).map (fun x=>⟨x.toArray⟩),rfl,?_,?_,?_⟩
 ·have h1:=((List.mergeSort_perm ss (fun x y=>decide (x <= y))).trans (hS.trans hperm)).map (fun x:List UInt8=>(⟨x.toArray⟩:ByteArray));refine h1.trans ?_;rw [List.map_map];refine List.Perm.of_eq (List.map_congr_left fun p hp=>?_);simp
 ·
  rw [List.length_map,List.length_mergeSort,List.map_map];refine z3l ?_ (Nat.le_succ _);have e1:(w.alloc (.cells #[.map (some m)] 71)).heap.size=w.heap.size + 1:=by simp
  rw [e1] at hrow;exact hrow
 ·exact ((Keeps.refl Nb w).alloc _).trans_nb (z0v hb)
end Go.Proofs.YtpjomdmjohjheaaGreatDoor
end
section
namespace Go.Vfs
open Go.Lk Go.RowKit
variable {w w':World} {R R' S F F':Nat -> Prop} {d b:Nat} {x:Fl} {D:Dk} {fc:Nat -> Fl} {φ:Nat -> Option Nat}
theorem z4q (l:List (ByteArray × Nat)) (s:ByteArray):flook (l.map (mv φ)) s=(flook l s).map fun b=>(φ b).getD 0:=by
 unfold flook
 induction l with
 | nil=>rfl
 | cons p l ih =>
  rw [List.map_cons,List.find?_cons,List.find?_cons];by_cases h:p.1=s
  ·simp [h,mv]
  ·simp only [show (mv φ p).1=p.1 from rfl,h,decide_false];exact ih
theorem z8m (l:List (ByteArray × Nat)) (s:ByteArray):fdel (l.map (mv φ)) s=(fdel l s).map (mv φ):=by
 unfold fdel;rw [List.filter_map];rfl
theorem z8q (l:List (ByteArray × Nat)) (s:ByteArray) (b:Nat):fput (l.map (mv φ)) s ((φ b).getD 0)=(fput l s b).map (mv φ):=by
 unfold fput;rw [List.any_map,show ((fun p:ByteArray × Nat=>decide (p.1=s)) ∘ mv φ)=fun p=>decide (p.1=s) from rfl];split
 ·
  rw [List.map_map,List.map_map];refine List.map_congr_left fun p hp=>?_;simp only [Function.comp];by_cases h:p.1=s
  ·simp [h,mv]
  ·simp [h,mv]
 ·rw [List.map_append];rfl
theorem zc0 (L:List (ByteArray × Nat)) {s:Stp} (h:GoodS s):againL (L.map (mv φ)) (ms φ s)=(againL L s).map (mv φ):=by
 unfold againL;have e1:(ms φ s).act=s.act:=rfl;have e2:(ms φ s).name=s.name:=rfl;have e3:(ms φ s).to=s.to:=rfl;rw [e1,e2,e3,z4q];rcases h with ⟨h1,-,b,h3⟩ | ⟨h1,-,-,h3⟩ | ⟨h1,-,h3⟩
 ·
  rw [if_pos h1,if_pos h1];have:(ms φ s).f.getD 0=(φ b).getD 0:=by simp [ms,h3]
  rw [this,h3,Option.isSome_map,z8q];split <;> rfl
 ·
  have a0:¬ s.act=0:=by omega
  rw [if_neg a0,if_neg a0,if_pos h1,if_pos h1];cases flook L s.name with
  | none=>rfl
  | some b=>simp only [Option.map_some,ren1];rw [z8m,z8q]
 ·
  have a0:¬ s.act=0:=by omega
  have a1:¬ s.act=1:=by omega
  rw [if_neg a0,if_neg a0,if_neg a1,if_neg a1,z8m]
def replay:List Bool -> List Stp -> List (ByteArray × Nat) -> List (ByteArray × Nat)
 | b :: bs,s :: ss,L=>replay bs ss (if b then againL L s else L)
 | _,_,L=>L
theorem z0p (ss:List Stp) (L:List (ByteArray × Nat)):replay [] ss L=L:=by cases ss <;> rfl
theorem z3r (b:Bool):∀ (bs:List Bool) (ss:List Stp) (L:List (ByteArray × Nat)) (s:Stp),ss[bs.length]?=some s -> replay (bs ++ [b]) ss L=if b then againL (replay bs ss L) s else replay bs ss L
 | [],ss,L,s,h=>by
  cases ss with
  | nil=>cases h
  | cons y ss=>cases h;rw [List.nil_append,z0p];show replay [] ss _=_;exact z0p _ _
 | c :: bs,ss,L,s,h=>by
  cases ss with
  | nil=>cases h
  | cons y ss=>exact z3r b bs ss _ s (by simpa using h)
theorem z84:∀ (bs:List Bool) (ss:List Stp) (L:List (ByteArray × Nat)),(∀ s ∈ ss,GoodS s) -> replay bs (ss.map (ms φ)) (L.map (mv φ))=(replay bs ss L).map (mv φ)
 | [],ss,L,_=>by rw [z0p,z0p]
 | b :: bs,[],L,_=>rfl
 | b :: bs,s :: ss,L,h=>by
  show replay bs (ss.map (ms φ)) (if b then againL (L.map (mv φ)) (ms φ s) else L.map (mv φ))=(replay bs ss (if b then againL L s else L)).map (mv φ);rw [zc0 L (h s (by simp)),<- z84 bs ss _ (fun s' hs'=>h s' (by simp [hs']))];cases b <;> rfl
theorem z68 {L:List (ByteArray × Nat)} {s:Stp} (hs:GoodS s) {p:ByteArray × Nat} (hp:p ∈ againL L s):((∃ q ∈ L,q.2=p.2) \/ s.f=some p.2) /\ (p ∈ L \/ mnB p.1=true):=by
 unfold againL at hp;rcases hs with ⟨h1,h2,b,h3⟩ | ⟨h1,h2,h4,h3⟩ | ⟨h1,h2,h3⟩
 ·
  rw [if_pos h1,h3] at hp;split at hp
  ·exact ⟨.inl ⟨p,hp,rfl⟩,.inl hp⟩
  ·
   rcases z48 hp with h | rfl
   ·exact ⟨.inl ⟨p,h,rfl⟩,.inl h⟩
   ·exact ⟨.inr (by rw [h3];rfl),.inr h2⟩
 ·
  rw [if_neg (by omega),if_pos h1] at hp;cases e:flook L s.name with
  | none=>rw [e] at hp;exact ⟨.inl ⟨p,hp,rfl⟩,.inl hp⟩
  | some b =>
   rw [e] at hp;rcases z48 hp with h | rfl
   ·exact ⟨.inl ⟨p,(List.mem_filter.1 h).1,rfl⟩,.inl (List.mem_filter.1 h).1⟩
   ·exact ⟨.inl ⟨_,zq e,rfl⟩,.inr h4⟩
 ·rw [if_neg (by omega),if_neg (by omega)] at hp;exact ⟨.inl ⟨p,(List.mem_filter.1 hp).1,rfl⟩,.inl (List.mem_filter.1 hp).1⟩
theorem z2r:∀ (bs:List Bool) (ss:List Stp) (L:List (ByteArray × Nat)),(∀ s ∈ ss,GoodS s) -> ∀ p ∈ replay bs ss L,((∃ q ∈ L,q.2=p.2) \/ ∃ s ∈ ss,s.f=some p.2) /\ (p ∈ L \/ mnB p.1=true)
 | [],ss,L,_,p,hp=>by rw [z0p] at hp;exact ⟨.inl ⟨p,hp,rfl⟩,.inl hp⟩
 | b :: bs,[],L,_,p,hp=>⟨.inl ⟨p,hp,rfl⟩,.inl hp⟩
 | b :: bs,s :: ss,L,h,p,hp=>by
  have hs:=h s (by simp);obtain ⟨h1,h2⟩:=z2r bs ss _ (fun s' hs'=>h s' (by simp [hs'])) p hp;cases b with
  | false=>exact ⟨h1.imp id (fun ⟨s',hs',e⟩=>⟨s',by simp [hs'],e⟩),h2⟩
  | true =>
   refine ⟨?_,?_⟩
   ·
    rcases h1 with ⟨q,hq,e⟩ | ⟨s',hs',e⟩
    ·
     rcases (z68 hs hq).1 with ⟨q',hq',e'⟩ | e'
     ·exact .inl ⟨q',hq',e'.trans e⟩
     ·exact .inr ⟨s,by simp,e'.trans (by rw [e])⟩
    ·exact .inr ⟨s',by simp [hs'],e⟩
   ·
    rcases h2 with h2 | h2
    ·exact (z68 hs h2).2
    ·exact .inr h2
theorem zb5 {L:List (ByteArray × Nat)} (s:Stp):(againL L s).length <= L.length + 1:=by
 have hf:∀ (l:List (ByteArray × Nat)) (t:ByteArray) (b:Nat),(fput l t b).length <= l.length + 1:=fun l t b=>by
  unfold fput;split
  ·rw [List.length_map];omega
  ·rw [List.length_append];simp
 have hd:∀ (l:List (ByteArray × Nat)) (t:ByteArray),(fdel l t).length <= l.length:=fun l t=>List.length_filter_le _ _;unfold againL;split
 ·
  split
  ·omega
  ·exact hf _ _ _
 ·
  split
  ·
   cases flook L s.name with
   | none=>simp [ren1]
   | some b=>simp only [ren1];have h1:=hf (fdel L s.name) s.to b;have h2:=hd L s.name;omega
  ·have:=hd L s.name;omega
theorem z6r:∀ (bs:List Bool) (ss:List Stp) (L:List (ByteArray × Nat)),(replay bs ss L).length <= L.length + ss.length
 | [],ss,L=>by rw [z0p];omega
 | b :: bs,[],L=>Nat.le_refl _
 | b :: bs,s :: ss,L=>by
  have h1:=z6r bs ss (if b then againL L s else L);have h2:=zb5 (L:=L) s;show (replay bs ss (if b then againL L s else L)).length <= _;rw [List.length_cons];cases b
  ·simp only [Bool.false_eq_true,if_false] at h1 ⊢;omega
  ·simp only [if_true] at h1 ⊢;omega
def crashD (D:Dk) (X:List (ByteArray × Nat)):Dk:={ D with files:=X,lasting:=X,steps:=[],fuse:=-1,fn:=0,fe:=0,dead:=false,changes:=0 }
theorem DiskAt.crashed (h:DiskAt w d F R D fc) {m1 m2 g:Nat} {sv:Value} {X:List (ByteArray × Nat)} (hd:w.heap[d]?=some (.cells (dcs m1 m2 sv D) 76 (0,0))) (hb:w'.heap[d]?=some (.cells (dcs g m2 (.slice none 0 0) (crashD D X)) 76 (0,0)))
  (hk:Keeps (fun k=>k=d \/ k=m2) w w') (hg:w.heap.size <= g) (s1:SMap w' g (vals X)) (s2:SMap w' m2 (vals X)) (hr:∀ p ∈ X,Ref D p.2) (hn:∀ p ∈ X,mnB p.1=true) (hl:X.length <= 1000000) :
  ∃ F',DiskAt w' d F' R (crashD D X) fc /\ (∀ k,F' k -> F k \/ k=g):=by
 have H:=h;obtain ⟨⟨n1,n2,nv,h3,h4,h5,h6,h7,h8,h9⟩,g1,g2,g3,g3b,g4,g5,g6⟩:=h;rw [hd] at h3;have e:m1=n1 /\ m2=n2 /\ sv=nv:=by simpa [dcs] using h3
 obtain ⟨rfl,rfl,rfl⟩:=e;have hm2:=h5.lt;have hRS:∀ k,R k -> ¬ (k=d \/ k=m2):=fun k hr e=>e.elim (fun e=>g4 k (e ▸ g1) hr) (fun e=>g4 k (e ▸ h9) hr);refine ⟨(fun k=>F k \/ k=g),⟨⟨g,m2,_,hb,s1,s2,by omega,RowS.nil _ _ _ _ _,.inr rfl,.inl h9⟩,.inl g1,?_,?_,?_,?_,fun k hk'=>hk'.elim (fun h=>Nat.lt_of_lt_of_le (g5 k h) hk.size) (fun e=>e ▸ s1.lt),fun k hk'=>Nat.lt_of_lt_of_le (g6 k hk') hk.size⟩,fun k hk=>hk⟩
 ·
  intro b hb;have hb':Ref D b:=by
   rcases hb with ⟨p,hp,rfl⟩ | ⟨p,hp,rfl⟩ | ⟨s,hs,-⟩
   ·exact hr p hp
   ·exact hr p hp
   ·cases hs
  have hbS:¬ (b=d \/ b=m2):=fun e=>e.elim (H.ne_file hb') (fun e=>by obtain ⟨es,cl,q,-⟩:=h5;exact (g2 b hb').1.isT.map q e);exact ⟨(g2 b hb').1.keeps hk hbS hRS,.inl (g2 b hb').2⟩
 ·obtain ⟨z1,z2,z3,z4,z5,z6,z7,z8⟩:=g3;exact ⟨z1,⟨Int.le_refl _,by simp [crashD]⟩,by simp [crashD],by simp [crashD],.inl rfl,hl,hl,by simp [crashD]⟩
 ·exact ⟨hn,hn,fun s hs=>by cases hs⟩
 ·
  rintro k (hk | hk) hr
  ·exact g4 k hk hr
  ·have:=g6 k hr;omega
def Tr (x y:Fl):Prop:=y=x \/ ∃ n,x.lasts <= n /\ n <= x.b.length /\ y=⟨x.b.take n,n⟩
theorem Tr.full {x y:Fl} (h:Tr x y) (hl:y.lasts=y.b.length):∃ n,x.lasts <= n /\ n <= x.b.length /\ y=⟨x.b.take n,n⟩:=by
 rcases h with rfl | h
 ·exact ⟨y.lasts,Nat.le_refl _,by omega,by rw [hl,List.take_length];cases y;simp_all⟩
 ·exact h
theorem Tr.step {x y:Fl} (h:Tr x y) {n:Nat} (h1:y.lasts <= n) (h2:n <= y.b.length):Tr x ⟨y.b.take n,n⟩:=by
 rcases h with rfl | ⟨m,h3,h4,rfl⟩
 ·exact .inr ⟨n,h1,h2,rfl⟩
 ·
  simp only [List.length_take] at h1 h2;have:n=m:=by omega
  subst this;exact .inr ⟨n,h3,h4,by simp [List.take_take]⟩
theorem z1c {l:List (ByteArray × Nat)} {s:ByteArray} (h:s ∈ l.map Prod.fst):∃ b,flook l s=some b:=by
 obtain ⟨p,hp,rfl⟩:=List.mem_map.1 h;cases e:flook l p.1 with
 | none=>exact absurd rfl (z6a e p hp)
 | some b=>exact ⟨b,rfl⟩
def bsOf (zs:List Int) (k:Nat):List Bool:=(List.range k).map fun i=>decide (pkn zs i % 2=1)
theorem z7o (zs:List Int) (k:Nat):bsOf zs (k + 1)=bsOf zs k ++ [decide (pkn zs k % 2=1)]:=by
 unfold bsOf;rw [List.range_succ,List.map_append];rfl
def tr1 (zs:List Int) (X:List (ByteArray × Nat)) (st:(Nat -> Fl) × Nat) (s:ByteArray):(Nat -> Fl) × Nat :=
 match flook X s with
 | none=>st
 | some b=>if (st.1 b).lasts < (st.1 b).b.length then
   (setf st.1 b ⟨(st.1 b).b.take ((st.1 b).lasts + pkn zs st.2 % ((st.1 b).b.length - (st.1 b).lasts + 1)),(st.1 b).lasts + pkn zs st.2 % ((st.1 b).b.length - (st.1 b).lasts + 1)⟩,st.2 + 1)
  else st
theorem z65 {zs:List Int} {X:List (ByteArray × Nat)} {fcr:Nat -> Fl} {j:Nat} {s:ByteArray} {b:Nat} (h:flook X s=some b):tr1 zs X (fcr,j) s=if (fcr b).lasts < (fcr b).b.length then
   (setf fcr b ⟨(fcr b).b.take ((fcr b).lasts + pkn zs j % ((fcr b).b.length - (fcr b).lasts + 1)),(fcr b).lasts + pkn zs j % ((fcr b).b.length - (fcr b).lasts + 1)⟩,j + 1) else (fcr,j):=by
 unfold tr1;rw [h]
structure CrashR (zs:List Int) (D:Dk) (fc:Nat -> Fl) (D':Dk) (fc':Nat -> Fl) (φ:Nat -> Option Nat) (l2:List (ByteArray × Nat)) (bs:List Bool):Prop where
 p2:l2.Perm D.lasting
 len:bs.length=D.steps.length
 bsEq:bs=bsOf zs D.steps.length
 tr:∃ (nms:List ByteArray) (fc1:Nat -> Fl),nms.Perm (D'.files.map Prod.fst) /\ (∀ b c,φ b=some c -> fc1 c=fc b) /\ fc'=(nms.foldl (tr1 zs D'.files) (fc1,D.steps.length)).1
 inj:∀ b b' c,φ b=some c -> φ b'=some c -> b=b'
 all:∀ b,Ref D b -> φ b ≠ none
 eq:D'=crashD D ((replay bs D.steps l2).map (mv φ))
 fc:∀ p ∈ replay bs D.steps l2,∃ n,(fc p.2).lasts <= n /\ n <= (fc p.2).b.length /\ fc' ((φ p.2).getD 0)=⟨(fc p.2).b.take n,n⟩
end Go.Vfs
end
section
namespace Go.Proofs.YtpjomdmjohjheaaGreatDoor
open Go.RowKit Go.Lk Go.Vfs
def CrashedD (zs:List Int) (w:World) (D:Dk) (fc:Nat -> Fl) (e:Ending) (w':World):Prop :=
 ∃ d' D' fc' F' R' φ l2 bs,e=.returned (.pointer (some ⟨d',0,none⟩)) /\ DiskAt w' d' F' R' D' fc' /\ (∀ k,F' k -> w.heap.size <= k) /\ (∀ k,R' k -> w.heap.size <= k) /\ Keeps Nb w w' /\ CrashR zs D fc D' fc' φ l2 bs
theorem zdw (d n c:Nat) (a:Option Addr) (zs:List Int) (D:Dk) (F R:Nat -> Prop) (fc:Nat -> Fl) (w:World) (h:DiskAt w d F R D fc) (hr:Reads .i64 w a zs) (hl:zs.length=n) (hz:∀ z ∈ zs,-9223372036854775808 <= z /\ z <= 9223372036854775807) (hn:n <= c /\ c <= maxLen) (hls:D.lasting.length + D.steps.length <= 1000000) :
    Calls Tryz.prog 24 #[.pointer (some ⟨d,0,none⟩),.slice a n c] w (CrashedD zs w D fc):=by
  have H:=qq h;have HRD:=qq hr;have HL:=qq hl;have HZ:=qq hz;have HN:=qq hn;have HLS:=qq hls;clear h hr hl hz hn hls;go_enter Tryz.func24,Tryz.ntmps24;go_wp2_with (first | go_skip | (with_reducible refine qv (by decide) ?_))
  refine za (vbox1 (v:=.slice a n c) (by rfl) (by rfl) ?_);intro ap w1 n1;simp only [Nat.reduceAdd,qn];have BP1:=qq n1.blk;have K1:=qq n1.k;have HAP:=qq n1.lt;clear n1;go_wp2_with fail;refine (zfo d D F R fc w1 (H.out.nb K1.out)).mono ?_;rintro _ w2 ⟨d',D1,fc1,F1,R1,φ,l1,l2,rfl,hd1,hF1,hR1,k12,hcp⟩;have HD1:=qq hd1;have HF1:=qq hF1;have HR1:=qq hR1;have K12:=qq k12;have CP:=qq hcp;have BP2:=qq (k12.nb BP1.out);clear hd1 hF1 hR1 k12 hcp BP1;obtain ⟨⟨m1,m2,sv,h3,h4,h5,h6,h7,h8,h9⟩,g1,g2,g3,g3b,g4,g5,g6⟩:=HD1.out;have H3:=qq h3;have H5:=qq h5;have H7:=qq h7;have G1:=qq g1;have G5:=qq g5;have G3B:=qq g3b;have H9:=qq h9;have NU:=qq g3;clear h3 h4 h5 h6 h7 h8 h9 g1 g2 g3 g3b g4 g5 g6;go_wp2_with (first | go_skip | (with_reducible refine qv (by decide) ?_))
  refine za (valloc (z:=.int .i64 0) (by kernel_rfl) ?_);intro ai w3 n3;simp only [Nat.reduceAdd,qn];go_wp2_with (first | go_skip | (with_reducible refine qv (by decide) ?_))
  refine za (zc rfl (zd (v:=.int .i64 0) (n:=1) (by kernel_rfl) (by rfl) (by rfl) n3.blk (by rfl) (by simp [Value.cells]) (by simp [Value.cells,Value.oneCell'])) ?_);intro w4 s4;simp only [Nat.reduceAdd,qn];have BA4:Hid (w4.heap[ai]?=some (.cells #[.int .i64 (0:Nat)] 3 (0,0))):=s4.blk;have K24:Hid (Keeps Nb w2 w4):=n3.k.own n3.ge s4.k;have GA:Hid (w2.heap.size <= ai):=n3.ge;have BP4:=qq (K24.out.nb BP2.out);clear n3 s4 BP2;obtain ⟨-,hone,sa,sc,hsv,hc1,hc2,hhas,-,-⟩:=H7.out;obtain ⟨ns,hns⟩:∃ ns,ns=D1.steps.length:=⟨_,rfl⟩
  have HNS:=qq hns;have C2:w4.cell? ⟨d',2,none⟩=some (.slice sa ns sc):=by rw [hns];exact (cell_of_block (K24.out.nb H3.out)).trans (by rw [<- hsv];rfl)
  have hcm:ns <= sc /\ sc <= 9223372036854775807:=by rw [hns];unfold maxLen at hc2;exact ⟨hc1,hc2⟩
  have hnb:ns <= 1000000:=by have:=NU.out.ns;have:=NU.out.ch;omega
  have HONE:=qq hone;have HROW:Hid (RowS w4 F1 R1 106 4 sv D1.steps.length (D1.steps.flatMap stp)):=H7.out.keeps K24.out (fun _ _ _ e=>e);have HSV:=qq hsv;clear hone hsv hhas hns hc1 hc2;go_wp2
  go_loopw [24] (fun i wr=>∃ (k j:Nat) (bs:List Bool),k <= ns /\ i=.int .i64 k /\ bs=bsOf zs k /\ j=k /\ SMap wr m2 (vals (replay bs D1.steps D1.lasting)) /\ wr.heap[ai]?=some (.cells #[.int .i64 j] 3 (0,0)) /\ Keeps (fun x=>x=m2 \/ x=ai) w4 wr) (fun i _=>ns - (intOf i).toNat)
  case atStart=>exact ⟨0,0,[],Nat.zero_le _,rfl,rfl,rfl,by rw [z0p];exact H5.out.nb K24.out,BA4.out,Keeps.refl _ _⟩
  case round =>
    obtain ⟨k,j,bs,hk,rfl,hbq,hj,hm,hb,hkp⟩:=hrel;have hbl:bs.length=k:=by rw [hbq];simp [bsOf]
    have HBQ:=qq hbq;have HJK:=qq hj;have hj:j <= k:=Nat.le_of_eq hj;clear hbq;have HM:=qq hm;have HB:=qq hb;have HKP:=qq hkp;have HBL:=qq hbl;clear hm hb hkp hbl;by_cases hlt:k < ns
    · have i1:(k:Int) < (ns:Int):=by omega
      have hlt':k < D1.steps.length:=by rw [<- HNS.out];exact hlt
      obtain ⟨s,hs⟩:∃ s,D1.steps[k]?=some s:=⟨_,List.getElem?_eq_getElem hlt'⟩
      have hrow:RowS wr F1 R1 106 4 sv D1.steps.length (D1.steps.flatMap stp):=HROW.out.keeps HKP.out (fun x _ ht e=>by
        rcases e with e | e
        · subst e;obtain ⟨es,cl,q,-⟩:=H5.out.nb K24.out;exact ht.map q rfl
        · exact ht.ne ⟨_,_,e ▸ BA4.out⟩ (by decide) rfl)
      obtain ⟨-,-,sa',sc',hsv',-,-,hhas,-,-⟩:=hrow;obtain ⟨rfl,rfl⟩:sa=sa' /\ sc=sc':=by have:=HSV.out.symm.trans hsv';simp only [Value.slice.injEq] at this;exact ⟨this.1,this.2.2⟩
      obtain ⟨b,off,rfl⟩:∃ b off,sa=some ⟨b,off,none⟩:=by
        rcases hhas with h | ⟨b,off,h,-⟩
        · exfalso
          have:(stp s) ⊆ D1.steps.flatMap stp:=fun x hx=>List.mem_flatMap.2 ⟨s,List.mem_of_getElem? hs,hx⟩
          rw [h] at this;exact absurd (this (show Value.string s.name ∈ stp s by simp [stp])) (by simp)
        · exact ⟨b,off,h⟩
      have HSS:=qq hs;have hone2:Hid (∀ u ∈ stp s,u.oneCell'=true):=fun u hu=>HONE.out u (List.mem_flatMap.2 ⟨s,List.mem_of_getElem? hs,hu⟩);have HST:=qq (zaa (f:=stp) (m:=4) (fun _=>rfl) hhas hs);clear hs hhas hlt' hsv';obtain ⟨z72,hz72,hzl⟩:=zero72;go_wp2_with (first | go_skip | (with_reducible refine qv (by decide) ?_))
      refine za (zv (v:=.agg (stp s).toArray) rfl (z3e agg72 (by rfl) HST.out rfl) ?_);simp only [Nat.reduceAdd,qn];go_wp2_with (first | go_skip | (with_reducible refine qv (by decide) ?_))
      refine za (valloc hz72 ?_);intro g5 w5 n5;simp only [Nat.reduceAdd,qn];go_wp2_with (first | go_skip | (with_reducible refine qv (by decide) ?_))
      refine za (zc rfl (zd (v:=.agg (stp s).toArray) (n:=4) agg72.size (by rfl) (by rfl) n5.blk (by simp [Value.cells,stp]) (by rw [hzl];exact Nat.le_refl _) (by intro u hu;exact hone2.out u (by simpa [Value.cells] using hu))) ?_);intro w6 s6;rw [z2w (by rw [hzl];simp [Value.cells,stp])] at s6;simp only [Nat.reduceAdd,qn];have k6:Keeps Nb wr w6:=n5.k.own n5.ge s6.k;have B6:=qq s6.blk;have K6:=qq k6;have KP4:=qq (HKP.out.trans_nb k6);have hai:Hid (¬ ap=ai):=fun e=>by have:=lt_of_block BP4.out;have h1:=BP4.out;rw [e,BA4.out] at h1;cases h1
      have hap:Hid (¬ ap=m2):=fun e=>by obtain ⟨es,cl,q,-⟩:=H5.out.nb K24.out;rw [<- e,BP4.out] at q;cases q
      have BP6:=qq (KP4.out.at BP4.out (fun e=>e.elim hap.out hai.out))
      have KW:Hid (∀ W,Keeps (fun x=>x=m2 \/ x=ai) w4 W -> Keeps Nb w W):=fun W hW=>((K1.out.trans_nb K12.out).trans_nb K24.out).trans hW (fun i hi e=>by
        have e1:=HF1.out _ H9.out;have e2:=GA.out;have e3:=K1.out.size;have e4:=K12.out.size
        rcases e with e | e <;> omega)
      have hgm:¬ g5=ai:=fun e=>by have:=lt_of_block HB.out;have:=n5.ge;omega
      clear n5 s6 hz72 hzl k6 HST;have PK:=qq (zaj ai ap j n c a zs w6 (K6.out.nb HB.out) BP6.out (HRD.out.nb (KW.out _ KP4.out)) HL.out HZ.out HN.out (by omega));go_wp2_with fail;refine PK.out.mono ?_;rintro _ w7 ⟨rfl,hm2,hb7,k7⟩;obtain ⟨m,hmq⟩:∃ m,m=pkn zs j:=⟨_,rfl⟩
      have HMQ:=qq hmq;rw [<- hmq] at hm2 ⊢;clear hmq;have HB7:=qq hb7;have K7:=qq k7;have KP7:=qq (KP4.out.trans k7 (fun _ _ e=>.inr e));have B7:=qq (k7.at B6.out (fun e=>hgm e));have M7:=qq ((HM.out.nb K6.out).keeps k7 (fun e=>by obtain ⟨es,cl,q,-⟩:=H5.out.nb K24.out;rw [e,BA4.out] at q;cases q));have hd2:¬ d'=m2:=fun e=>by obtain ⟨es,cl,q,-⟩:=H5.out;rw [<- e,H3.out] at q;cases q
      have hda:¬ d'=ai:=fun e=>by have:=G5.out _ G1.out;have:=GA.out;omega
      have D7:=qq (KP7.out.at (K24.out.nb H3.out) (fun e=>e.elim hd2 hda));have HGS:Hid (GoodS s):=G3B.out.steps s (List.mem_of_getElem? HSS.out);clear PK hb7 k7 hgm hd2 hda;by_cases hodd:(m:Int) % 2=1
      · go_wp2_with (first | go_skip | (with_reducible refine qv (by decide) ?_))
        refine za (zv (v:=.agg (stp s).toArray) rfl (z3e agg72 (by rfl) (zo B7.out) rfl) ?_)
        simp only [Nat.reduceAdd,qn];have AG:=qq (again_at d' m1 m2 sv { D1 with lasting:=replay bs D1.steps D1.lasting } s w7 D7.out M7.out HGS.out);go_wp2_with fail;refine AG.out.mono ?_;rintro _ w8 ⟨⟨v,rfl⟩,hm8,k8⟩;have HM8:Hid (SMap w8 m2 (vals (replay (bs ++ [true]) D1.steps D1.lasting))):=by
          rw [z3r true bs _ _ s (by rw [HBL.out];exact HSS.out)];exact hm8
        have HB8:=qq (k8.at HB7.out (fun e=>by obtain ⟨es,cl,q,-⟩:=H5.out.nb K24.out;rw [<- e,BA4.out] at q;cases q));have KP8:=qq (KP7.out.trans k8 (fun _ _ e=>.inl e));have HL8:Hid (bs ++ [true]=bsOf zs (k + 1)):=by refine qq ?_;rw [z7o,<- HBQ.out,<- HJK.out,<- HMQ.out,show decide (m % 2=1)=true from decide_eq_true (by omega)]
        have HJ8:Hid (j + 1=k + 1):=by refine qq ?_;rw [HJK.out]
        clear hm8 k8 AG;go_wp2;go_roundw
        case rel=>exact ⟨k + 1,j + 1,bs ++ [true],by omega,by go_num,HL8.out,HJ8.out,HM8.out,HB8.out,KP8.out⟩
        case measure=>simp [intOf];omega
      · have HM8:Hid (SMap w7 m2 (vals (replay (bs ++ [false]) D1.steps D1.lasting))):=by
          rw [z3r false bs _ _ s (by rw [HBL.out];exact HSS.out)];exact M7.out
        have HL8:Hid (bs ++ [false]=bsOf zs (k + 1)):=by refine qq ?_;rw [z7o,<- HBQ.out,<- HJK.out,<- HMQ.out,show decide (m % 2=1)=false from decide_eq_false (by omega)]
        have HJ8:Hid (j + 1=k + 1):=by refine qq ?_;rw [HJK.out]
        go_wp2;go_roundw
        case rel=>exact ⟨k + 1,j + 1,bs ++ [false],by omega,by go_num,HL8.out,HJ8.out,HM8.out,HB7.out,KP7.out⟩
        case measure=>simp [intOf];omega
    · have hkl:k=ns:=by omega
      subst hkl
      have HJ:=qq hj;obtain ⟨X,hX⟩:∃ X,X=replay bs D1.steps D1.lasting:=⟨_,rfl⟩
      have HX:=qq hX;rw [<- hX] at HM;have hd2:¬ d'=m2:=fun e=>by obtain ⟨es,cl,q,-⟩:=H5.out;rw [<- e,H3.out] at q;cases q
      have hda:¬ d'=ai:=fun e=>by have:=G5.out _ G1.out;have:=GA.out;omega
      have D7:=qq (HKP.out.at (K24.out.nb H3.out) (fun e=>e.elim hd2 hda));have C1:wr.cell? ⟨d',1,none⟩=some (.map (some m2)):=(cell_of_block D7.out).trans rfl;have CM:=qq (z7q m2 (vals X) wr HM.out);clear hX hj hk hlt hd2 hda C2;go_wp2_with (first | go_skip | (with_reducible refine zf ?_) | fail)
      refine CM.out.mono ?_;rintro _ w5 ⟨g,rfl,hg,hmg,k5⟩;have HMG:=qq hmg;have HG:Hid (wr.heap.size <= g):=hg;have K5:=qq k5;have D5:=qq (k5.nb D7.out);clear CM hmg hg k5 C1;go_wp2_with (first | go_skip | (with_reducible refine qv (by decide) ?_))
      refine za (zc rfl (zd (v:=.map (some g)) (n:=1) (by kernel_rfl) (by rfl) (by rfl) D5.out (by rfl) (by simp [dcs]) (by simp [Value.cells,Value.oneCell'])) ?_);intro w6 s6;simp only [Nat.reduceAdd,qn];have D6:Hid (w6.heap[d']?=some (.cells (dcs g m2 sv D1) 76 (0,0))):=s6.blk;have K6:=qq s6.k;clear s6;go_wp2_with (first | go_skip | (with_reducible refine qv (by decide) ?_))
      refine za (zc rfl (zd (v:=.slice none 0 0) (n:=1) (by kernel_rfl) (by rfl) (by rfl) D6.out (by rfl) (by simp [dcs]) (by simp [Value.cells,Value.oneCell'])) ?_);intro w7 s7;simp only [Nat.reduceAdd,qn];have D7b:Hid (w7.heap[d']?=some (.cells (dcs g m2 (.slice none 0 0) D1) 76 (0,0))):=s7.blk;have K7:=qq (K6.out.trans s7.k (fun _ _ e=>e));clear s7 K6 D6;have hb59:∀ W:World,(Instr.build 74 #[]).run Tryz.prog W=.ok (.agg #[.int .i64 0,.int .i64 0]) W:=fun _=>by kernel_rfl
      go_wp2_with (first | go_skip | (with_reducible refine qv (by decide) ?_))
      refine za (zc rfl (zd (v:=.int .i64 (-1)) (n:=1) (by kernel_rfl) (by rfl) (by rfl) D7b.out (by rfl) (by simp [dcs]) (by simp [Value.cells,Value.oneCell'])) ?_);intro w8 s8;simp only [Nat.reduceAdd,qn];have D8:Hid (w8.heap[d']?=some (.cells (dcs g m2 (.slice none 0 0) { D1 with fuse:=-1 }) 76 (0,0))):=s8.blk;have K8:=qq (K7.out.trans s8.k (fun _ _ e=>e));clear s8 K7;go_wp2_with (first | go_skip | (with_reducible refine qv (by decide) ?_))
      refine za (zc rfl (zd (v:=.agg #[.int .i64 0,.int .i64 0]) (n:=2) (by kernel_rfl) (by rfl) (by rfl) D8.out (by rfl) (by simp [dcs]) (by simp [Value.cells,Value.oneCell'])) ?_);intro w9 s9;simp only [Nat.reduceAdd,qn];have D9:Hid (w9.heap[d']?=some (.cells (dcs g m2 (.slice none 0 0) { D1 with fuse:=-1,fn:=0,fe:=0 }) 76 (0,0))):=s9.blk;have K9:=qq (K8.out.trans s9.k (fun _ _ e=>e));clear s9 K8;go_wp2_with (first | go_skip | (with_reducible refine qv (by decide) ?_))
      refine za (zc rfl (zd (v:=.bool false) (n:=1) (by kernel_rfl) (by rfl) (by rfl) D9.out (by rfl) (by simp [dcs]) (by simp [Value.cells,Value.oneCell'])) ?_);intro w10 s10;simp only [Nat.reduceAdd,qn];have D10:Hid (w10.heap[d']?=some (.cells (dcs g m2 (.slice none 0 0) { D1 with fuse:=-1,fn:=0,fe:=0,dead:=false }) 76 (0,0))):=s10.blk;have K10:=qq (K9.out.trans s10.k (fun _ _ e=>e));clear s10 K9;go_wp2_with (first | go_skip | (with_reducible refine qv (by decide) ?_))
      refine za (zc rfl (zd (v:=.int .i64 0) (n:=1) (by kernel_rfl) (by rfl) (by rfl) D10.out (by rfl) (by simp [dcs]) (by simp [Value.cells,Value.oneCell'])) ?_);intro w11 s11;simp only [Nat.reduceAdd,qn];have D11:Hid (w11.heap[d']?=some (.cells (dcs g m2 (.slice none 0 0) (crashD D1 X)) 76 (0,0))):=s11.blk;have K11:Hid (Keeps (·=d') w5 w11):=K10.out.trans s11.k (fun _ _ e=>e);clear s11 K10;have hD5:∃ F',DiskAt w11 d' F' R1 (crashD D1 X) fc1 /\ (∀ k,F' k -> F1 k \/ k=g):=by
        have z1:=K24.out.size;have z2:=HKP.out.size;have z3:=K5.out.size;have z4:=GA.out;have z5:=HG.out;have hdl:=G5.out _ G1.out;have hd2:¬ m2=d':=fun e=>by obtain ⟨es,cl,q,-⟩:=H5.out;rw [e,H3.out] at q;cases q
        have kk:Keeps (fun x=>x=d' \/ x=m2) w2 w11:=(((Keeps.of_nb K24.out).trans HKP.out (fun i hi e=>e.elim .inr (fun e=>by omega))).trans_nb K5.out).trans K11.out (fun i _ e=>.inl e);refine HD1.out.crashed H3.out D11.out kk (by omega) (HMG.out.keeps K11.out (by omega)) ((HM.out.nb K5.out).keeps K11.out hd2) (fun p hp=>?_) (fun p hp=>?_) ?_
        · rw [HX.out] at hp
          rcases (z2r bs _ _ G3B.out.steps p hp).1 with ⟨q,hq,e⟩ | ⟨s,hs,e⟩
          · exact .inr (.inl ⟨q,hq,e⟩)
          · exact .inr (.inr ⟨s,hs,e⟩)
        · rw [HX.out] at hp
          rcases (z2r bs _ _ G3B.out.steps p hp).2 with h | h
          · exact G3B.out.lasting p h
          · exact h
        · rw [HX.out]
          refine Nat.le_trans (z6r _ _ _) ?_
          have e1:=CP.out.eq;have e2:=CP.out.p2.length_eq;have:=HLS.out;rw [e1];simp only [List.length_map];omega
      obtain ⟨F5,hD5,hF5⟩:=hD5;have HD5:=qq hD5;have HF5:Hid (∀ k,F5 k -> w1.heap.size <= k):=fun k hk=>by
        have:=K12.out.size;have:=K24.out.size;have:=HKP.out.size;have:=HG.out;exact (hF5 k hk).elim (HF1.out k) (fun h=>by omega)
      have KALL:Hid (Keeps Nb w w11):=by
        have e3:=K1.out.size;have e4:=K12.out.size;have e5:=GA.out;have e6:=K24.out.size;have e7:=HKP.out.size;have e8:=K5.out.size;have k1:Keeps Nb w wr:=((K1.out.trans_nb K12.out).trans_nb K24.out).trans HKP.out (fun i hi e=>by have e1:=HF1.out _ H9.out;rcases e with e | e <;> omega);exact (k1.trans_nb K5.out).trans K11.out (fun i hi e=>by have e1:=HF1.out _ G1.out;omega)
      have BA11:Hid (w11.heap[ai]?=some (.cells #[.int .i64 j] 3 (0,0))):=K11.out.at (K5.out.nb HB.out) (fun e=>by have:=G5.out _ G1.out;have:=GA.out;omega)
      have BP11:Hid (w11.heap[ap]?=some (.cells #[.slice a n c] 35 (0,0))):=by
        have hai:¬ ap=ai:=fun e=>by have h1:=BP4.out;rw [e,BA4.out] at h1;cases h1
        have hap:¬ ap=m2:=fun e=>by obtain ⟨es,cl,q,-⟩:=H5.out.nb K24.out;rw [<- e,BP4.out] at q;cases q
        have hapd:¬ ap=d':=fun e=>by have h1:=(K24.out.nb H3.out);rw [<- e,BP4.out] at h1;cases h1
        exact K11.out.at (K5.out.nb (HKP.out.at BP4.out (fun e=>e.elim hap hai))) hapd
      have LEX:Hid (X.length <= 1000000):=hD5.nums.nf;have HFA:Hid (¬ F5 ai /\ ¬ R1 ai):=⟨fun e=>(hF5 ai e).elim (fun e=>by have:=G5.out _ e;have:=GA.out;omega) (fun e=>by have:=lt_of_block HB.out;have:=HG.out;omega),fun e=>by have:=HD1.out.ltR _ e;have:=GA.out;omega⟩
      have HFP : Hid (¬ F5 ap) := fun e => by have h1 := HF5.out _ e; have h2 := (hF5 ap e); have h3 := BP4.out; have h4 := HG.out; have h5 := lt_of_block BP4.out; have h6 := HKP.out.size; rcases h2 with h2 | h2
                                              · have h7 := lt_of_block BP4.out; exact absurd (HAP.out) (by omega)
                                              · omega
      have C0:w11.cell? ⟨d',0,none⟩=some (.map (some g)):=(cell_of_block D11.out).trans rfl;have MG:=qq (HMG.out.keeps K11.out (fun e=>by have:=G5.out _ G1.out;have:=HKP.out.size;have:=K24.out.size;have:=HG.out;omega));have SA:=qq (sorted_at g (vals X) w11 MG.out (by rw [z0c];exact LEX.out));have HXL:=qq HX.out;clear BP4 BA4 HROW HONE HSV HM D5 D7 D7b D8 D9 D10 K5 HMG H7 hF5 hD5 hb59 hcm HB K11 MG H3 H5 HKP;go_wp2_with fail;refine (zac g w11).mono ?_;rintro _ _ ⟨rfl,rfl⟩;go_wp2_with fail;refine SA.out.mono ?_;rintro _ w12 ⟨v,nms,rfl,hperm,hrow,k12⟩;have HPERM:=qq hperm;obtain ⟨va,vc,rfl,hv1,hv2,hv3,hv4⟩:=z05 hrow;obtain ⟨nn,hnn⟩:∃ nn,nn=nms.length:=⟨_,rfl⟩
      have HNN:=qq hnn;rw [<- hnn] at hv1 ⊢;have hvm:nn <= vc /\ vc <= 9223372036854775807:=by unfold maxLen at hv2;exact ⟨hv1,hv2⟩
      have hnx:nn <= 1000000:=by rw [hnn,hperm.length_eq,List.length_map,z0c];exact LEX.out
      have HV:=qq hv3;have HV4:Hid (∀ b off,va=some ⟨b,off,none⟩ -> w11.heap.size <= b):=fun b off e=>(hv4 b off e).2.2.1;have K12':=qq k12;have HD12:=qq (HD5.out.nb k12);have BA12:=qq (k12.nb BA11.out);have BP12:=qq (k12.nb BP11.out);clear hperm hrow hv1 hv2 hv3 hv4 hnn k12 C0 SA;go_wp2
      go_loopw [67] (fun i wr=>∃ (k j:Nat) (fcr:Nat -> Fl),k <= nn /\ i=.int .i64 k /\ j <= 1000000 + k /\ Hid ((nms.take k).foldl (tr1 zs X) (fc1,D1.steps.length)=(fcr,j)) /\ DiskAt wr d' F5 R1 (crashD D1 X) fcr /\ wr.heap[ai]?=some (.cells #[.int .i64 j] 3 (0,0)) /\ (∀ b,Tr (fc1 b) (fcr b)) /\ (∀ s ∈ nms.take k,∀ b,flook X s=some b -> (fcr b).lasts=(fcr b).b.length) /\ Keeps (fun x=>F5 x \/ x=ai) w12 wr) (fun i _=>nn - (intOf i).toNat)
      case atStart=>exact ⟨0,j,fc1,Nat.zero_le _,rfl,by have:=HJ.out;omega,qq (by rw [List.take_zero,<- HNS.out,HJK.out];rfl),HD12.out,BA12.out,fun b=>.inl rfl,by simp,Keeps.refl _ _⟩
      case round =>
        obtain ⟨k,j,fcr,hk,rfl,hj,HFO,hd,hb,htr,hdn,hkp⟩:=hrel;have HD:=qq hd;have HB:=qq hb;have HTR:=qq htr;have HDN:=qq hdn;have HKP:=qq hkp;clear hd hb htr hdn hkp;by_cases hlt:k < nn
        · have i1:(k:Int) < (nn:Int):=by omega
          obtain ⟨s,hs⟩:∃ s,nms[k]?=some s:=⟨_,List.getElem?_eq_getElem (by rw [<- HNN.out];exact hlt)⟩
          have HS:=qq hs
          have hvr:Has wr va (nms.map Value.string):=HV.out.keeps HKP.out (fun b off e hne e2=>by
            have:=HV4.out b off e;rcases e2 with e2 | e2
            · have:=HD5.out.ltF _ e2;omega
            · have:=lt_of_block BA11.out;omega)
          obtain ⟨b9,o9,rfl⟩:∃ b off,va=some ⟨b,off,none⟩:=by
            rcases hvr with h | ⟨b,off,h,-⟩
            · exfalso;have:nms=[]:=List.map_eq_nil_iff.1 h;rw [this] at hs;cases hs
            · exact ⟨b,off,h⟩
          have c9:wr.cell? ⟨b9,o9 + k,none⟩=some (.string s):=by
            rcases hvr with h | ⟨b,off,h,hc⟩
            · exfalso;have:nms=[]:=List.map_eq_nil_iff.1 h;rw [this] at hs;cases hs
            · cases h;exact hc k _ (by rw [List.getElem?_map,hs];rfl)
          have hin:s ∈ X.map Prod.fst:=by
            have h1:=HPERM.out.mem_iff.1 (List.mem_of_getElem? hs);simpa [vals,List.map_map] using h1
          obtain ⟨b,hfl⟩:=z1c hin;have HFL:=qq hfl;have hsm:Hid (s.size <= maxLen):=by
            obtain ⟨p,hp,rfl⟩:=List.mem_map.1 hin;exact z5f (HD5.out.names.files p hp)
          clear hs hvr hin hfl;obtain ⟨⟨p1,p2,pv,ph3,ph4,-⟩,-⟩:=HD.out;have C0:wr.cell? ⟨d',0,none⟩=some (.map (some p1)):=(cell_of_block ph3).trans rfl;have PH4:Hid (SMap wr p1 (vals X)):=ph4;have HG0:Hid ((sget (vals X) s).getD (.pointer none)=.pointer (some ⟨b,0,none⟩)):=by refine qq ?_;rw [z3o,HFL.out];rfl
          clear ph3 ph4;go_wp2_with (first | go_skip | (with_reducible refine qv (by decide) ?_))
          refine za (zv rfl (z2b (n:=s) PH4.out smT (zero63 _) (by rfl) (by rfl) hsm.out) ?_);simp only [Bool.false_eq_true,if_false,HG0.out];simp only [Nat.reduceAdd,qn];have hrf:Ref (crashD D1 X) b:=.inl ⟨_,zq HFL.out,rfl⟩;have HRF:=qq hrf;obtain ⟨⟨fv,z1,z2,z3,z4⟩,z5⟩:=HD.out.file b hrf;obtain ⟨fa,fcap,rfl,-⟩:=z2.rows;obtain ⟨m,hm⟩:∃ m,m=(fcr b).b.length:=⟨_,rfl⟩
          obtain ⟨q,hq⟩:∃ q,q=(fcr b).lasts:=⟨_,rfl⟩
          have HM:=qq hm;have HQ:=qq hq;have Z2:=qq z2;have Z5:=qq z5;rw [<- hm] at z1 z3 z4;rw [<- hq] at z1 z3;have Z1:=qq z1;have F0:∀ u:Sub wr,u.wd.cell? ⟨b,0,none⟩=some (.slice fa m fcap):=fun u=>(cell_of_block (u.k.nb z1)).trans rfl;have F1':∀ u:Sub wr,u.wd.cell? ⟨b,1,none⟩=some (.int .i64 q):=fun u=>(cell_of_block (u.k.nb z1)).trans rfl;clear z1 z2 z5 hrf hm hq C0 c9;go_wp2;refine z2q (by kernel_rfl) (by kernel_rfl) ?_
          repeat (go_big_quiet_step (fail))
          refine wpQuiet_nil ?_;rintro w13 ⟨u13,hu13⟩;have K13:Hid (Keeps Nb wr w13):=hu13 ▸ u13.k;clear hu13 F0 F1';have HPK:=qq (zaj ai ap j n c a zs);have HD13:=qq (HD.out.nb K13.out);have HB13:=qq (K13.out.nb HB.out);have Z13:=qq (K13.out.nb Z1.out);have hba:¬ b=ai:=fun e=>HFA.out.1 (e ▸ Z5.out);by_cases hloose:q < m
          · have l1:(0:Int) < (m:Int) - (q:Int):=by omega
            go_wp2
            have HSb:Hid ((fun u:World=>u.cell? ⟨b,1,none⟩=some (.int .i64 q) /\ True) w13.drew):=⟨(cell_of_block Z13.out).trans rfl,trivial⟩
            refine WT.region (fun u:World=>u.cell? ⟨b,1,none⟩=some (.int .i64 q) /\ True) 10 13 [0,1,2,3,4,6,7,5,8,9,10,11,12] (by kernel_rfl) rfl ?_;have HSS:=HS;have HS:=HSb;refine WT.t 0 (v:=_) (y:=by rintro w ⟨C1,C2⟩;go_simp;with_reducible rfl) (s:=HS.out) (h:=?_);refine WT.t 1 (v:=_) (y:=by rintro w ⟨C1,C2⟩;go_simp;with_reducible rfl) (s:=HS.out) (h:=?_);refine WT.t 2 (v:=_) (y:=by rintro w ⟨C1,C2⟩;go_simp;with_reducible rfl) (s:=HS.out) (h:=?_);refine WT.t 3 (v:=.int .i64 q) (y:=by rintro w ⟨C1,C2⟩;exact zb (by kernel_rfl) (by rfl) C1) (s:=HS.out) (h:=?_);refine WT.t 4 (v:=_) (y:=by rintro w ⟨C1,C2⟩;go_simp;with_reducible rfl) (s:=HS.out) (h:=?_);refine WT.t 6 (v:=_) (y:=by rintro w ⟨C1,C2⟩;go_simp;with_reducible rfl) (s:=HS.out) (h:=?_);refine WT.t 7 (v:=_) (y:=by rintro w ⟨C1,C2⟩;go_simp;with_reducible rfl) (s:=HS.out) (h:=?_);have BPw:w13.heap[ap]?=some (.cells #[.slice a n c] 35 (0,0)):=K13.out.nb (HKP.out.at BP12.out (fun e=>e.elim HFP.out (fun e=>by have h1:=BP12.out;rw [e,BA12.out] at h1;cases h1)));have HRw:Reads .i64 w13.drew a zs:=by
              have k1:Keeps Nb w wr:=((KALL.out.trans_nb K12'.out)).trans HKP.out (fun i hi e=>by
                rcases e with e | e
                · have:=HF5.out _ e;have:=K1.out.size;omega
                · have:=GA.out;have:=K1.out.size;have:=K12.out.size;omega)
              exact HRD.out.nb ((k1.trans_nb K13.out).drew)
            refine WT.call 5 (by simp only [qi];rfl) (by kernel_rfl) (by rfl) (by go_simp;first | done | rfl | exact ⟨⟨rfl,rfl⟩,rfl⟩) (HPK.out w13.drew HB13.out BPw HRw HL.out HZ.out HN.out (by omega)) ?_;rintro _ w14 ⟨rfl,hmm,hb14,k14⟩;obtain ⟨mm,hmq⟩:∃ mm,mm=pkn zs j:=⟨_,rfl⟩
            have HMQ:=qq hmq;rw [<- hmq] at hmm ⊢;clear hmq;have Z14:=qq (k14.at (show w13.drew.heap[b]?=_ from Z13.out) hba);refine ⟨_,rfl,⟨(cell_of_block Z14.out).trans rfl,trivial⟩,?_⟩;replace HS:Hid ((fun u:World=>u.cell? ⟨b,1,none⟩=some (.int .i64 q) /\ True) w14):=⟨(cell_of_block Z14.out).trans rfl,trivial⟩
            simp only [Nat.reduceAdd,qn];obtain ⟨y,hy,hyl⟩:∃ y:Nat,y=mm % (m - q + 1) /\ y <= m - q:=⟨_,rfl,by have:=Nat.mod_lt mm (show 0 < m - q + 1 by omega);omega⟩
            have hw:IntKind.i64.wrap ((m:Int) - (q:Int) + 1)=(m:Int) - (q:Int) + 1:=IntWalk.i64_in _ (by omega);have ht:((mm:Int).tmod ((m:Int) - (q:Int) + 1))=(y:Int):=by
              rw [Int.tmod_eq_emod_of_nonneg (by omega),hy,Int.natCast_emod,show ((m - q + 1:Nat):Int)=(m:Int) - (q:Int) + 1 by omega]
            have HT:=qq (And.intro hw ht);have HYQ:=qq hy;have hy2:y <= 16777216:=by omega
            obtain ⟨qy,hqy⟩:∃ qy,qy=q + y:=⟨_,rfl⟩
            have HQY:=qq hqy;clear hqy;clear hy hw ht hmm;refine WT.t 8 (v:=.int .i64 y) (y:=by rintro w ⟨C1,C2⟩;go_simp;rw [HT.out.1,HT.out.2,if_neg (by omega)]) (s:=HS.out) (h:=?_);refine WT.t 9 (v:=.int .i64 (qy:Nat)) (y:=by rintro w ⟨C1,C2⟩;go_simp;have:=HQY.out;rw [IntWalk.i64_in _ (by omega)];omega) (s:=HS.out) (h:=?_);refine WT.stop (by kernel_rfl) ?_;refine WP.o 10 (v:=_) (y:=by go_simp;first | with_reducible rfl | exact ⟨rfl,rfl⟩) (h:=?_);refine WP.o 11 (v:=_) (y:=by go_simp;first | with_reducible rfl | exact ⟨rfl,rfl⟩) (h:=?_);refine WP.onlySkipE 12 (by simp only [qi];rfl) (by kernel_rfl) (by rfl) (zd (v:=.int .i64 (qy:Nat)) (n:=1) (by kernel_rfl) (by rfl) (by rfl) Z14.out (by rfl) (by simp) (by simp [Value.cells,Value.oneCell'])) ?_;intro w15 s15;have Z15:Hid (w15.heap[b]?=some (.cells #[.slice fa m fcap,.int .i64 (qy:Nat)] 115 (0,0))):=s15.blk;have HB15:=qq (s15.k.at hb14 (fun e=>hba e.symm));have K14:Hid (Keeps (·=ai) w13 w14):=(Keeps.refl (·=ai) w13).drew.trans k14 (fun _ _ e=>e);have KS15:=qq s15.k;clear s15 hb14 k14 HS HSb;simp only [Nat.reduceAdd,qn];refine WP.done (by kernel_rfl) ?_;go_wp2;have hcmx:m <= fcap /\ fcap <= 9223372036854775807:=by obtain ⟨_,_,e,h1,h2,-⟩:=Z2.out;cases e;rw [<- HM.out] at h1;unfold maxLen at h2;exact ⟨h1,h2⟩
            have hqb:qy <= fcap:=by have:=HQY.out;omega
            have HSc:Hid ((fun u:World=>u.cell? ⟨b,0,none⟩=some (.slice fa m fcap) /\ u.cell? ⟨b,1,none⟩=some (.int .i64 (qy:Nat))) w15.drew):=⟨(cell_of_block Z15.out).trans rfl,(cell_of_block Z15.out).trans rfl⟩
            refine WT.region (fun u:World=>u.cell? ⟨b,0,none⟩=some (.slice fa m fcap) /\ u.cell? ⟨b,1,none⟩=some (.int .i64 (qy:Nat))) 10 13 [0,1,2,3,4,5,6,7,8,9,10,11,12] (by kernel_rfl) rfl ?_;have HS:=HSc;refine WT.t 0 (v:=_) (y:=by rintro w ⟨C1,C2⟩;go_simp;with_reducible rfl) (s:=HS.out) (h:=?_);refine WT.t 1 (v:=_) (y:=by rintro w ⟨C1,C2⟩;go_simp;with_reducible rfl) (s:=HS.out) (h:=?_);refine WT.t 2 (v:=_) (y:=by rintro w ⟨C1,C2⟩;go_simp;with_reducible rfl) (s:=HS.out) (h:=?_);refine WT.t 3 (v:=_) (y:=by rintro w ⟨C1,C2⟩;go_simp;with_reducible rfl) (s:=HS.out) (h:=?_);refine WT.t 4 (v:=.slice fa m fcap) (y:=by rintro w ⟨C1,C2⟩;exact zb (by kernel_rfl) (by rfl) C1) (s:=HS.out) (h:=?_);refine WT.t 5 (v:=_) (y:=by rintro w ⟨C1,C2⟩;go_simp;with_reducible rfl) (s:=HS.out) (h:=?_);refine WT.t 6 (v:=_) (y:=by rintro w ⟨C1,C2⟩;go_simp;with_reducible rfl) (s:=HS.out) (h:=?_);refine WT.t 7 (v:=_) (y:=by rintro w ⟨C1,C2⟩;go_simp;with_reducible rfl) (s:=HS.out) (h:=?_);refine WT.t 8 (v:=.int .i64 (qy:Nat)) (y:=by rintro w ⟨C1,C2⟩;exact zb (by kernel_rfl) (by rfl) C2) (s:=HS.out) (h:=?_);refine WT.t 9 (v:=.slice fa qy fcap) (y:=by rintro w ⟨C1,C2⟩;exact by go_simp <;> exact fun h=>absurd h (by omega)) (s:=HS.out) (h:=?_);refine WT.stop (by kernel_rfl) ?_;refine WP.o 10 (v:=_) (y:=by go_simp;first | with_reducible rfl | exact ⟨rfl,rfl⟩) (h:=?_);refine WP.o 11 (v:=_) (y:=by go_simp;first | with_reducible rfl | exact ⟨rfl,rfl⟩) (h:=?_);refine WP.onlySkipE 12 (by simp only [qi];rfl) (by kernel_rfl) (by rfl) (zd (w:=w15.drew) (v:=.slice fa qy fcap) (n:=1) (by kernel_rfl) (by rfl) (by rfl) Z15.out (by rfl) (by simp) (by simp [Value.cells,Value.oneCell'])) ?_;intro w16 s16;have Z16:Hid (w16.heap[b]?=some (.cells #[.slice fa qy fcap,.int .i64 (qy:Nat)] 115 (0,0))):=s16.blk;have K16:Hid (Keeps (·=b) w14 w16):=KS15.out.trans ((Keeps.refl (·=b) w15).drew.trans s16.k (fun _ _ e=>e)) (fun _ _ e=>e);have HB16:Hid (w16.heap[ai]?=some (.cells #[.int .i64 (j + 1:Nat)] 3 (0,0))):=s16.k.at (show w15.drew.heap[ai]?=_ from HB15.out) (fun e=>hba e.symm)
            clear s16 HS HSc;simp only [Nat.reduceAdd,qn];refine WP.done (by kernel_rfl) ?_;have HD14:=HD13.out.keeps K14.out (fun k hk e=>HFA.out.1 (e ▸ hk)) (fun k hk e=>HFA.out.2 (e ▸ hk));have hlq:(fcr b).lasts <= qy:=by rw [<- HQ.out];have:=HQY.out;omega
            have hlm:qy <= (fcr b).b.length:=by rw [<- HM.out];have:=HQY.out;omega
            have hlt2:((fcr b).b.take qy).length=qy:=by rw [List.length_take];omega
            have HD16:Hid (DiskAt w16 d' F5 R1 (crashD D1 X) (setf fcr b ⟨(fcr b).b.take qy,qy⟩)):=by
              refine HD14.set HRF.out K16.out ⟨_,Z16.out,?_,by simp only;omega,by simp only;rw [hlt2];have:=HM.out;have:=HQY.out;omega⟩ (fun _ h=>h) (fun _ h=>.inl h);have h1:Bytes wr R1 (.slice fa (fcr b).b.length fcap) (fcr b).b:=Z2.out;have h2:=((h1.keeps K13.out (fun _ _ e=>e)).keeps K14.out (fun k hk e=>HFA.out.2 (e ▸ hk))).keeps K16.out (fun k hk e=>HD5.out.apart k (e ▸ Z5.out) hk);exact h2.take hlm (by omega) (by unfold maxLen;omega)
            have HTR16:Hid (∀ b',Tr (fc1 b') (setf fcr b ⟨(fcr b).b.take qy,qy⟩ b')):=fun b'=>by
              unfold setf;by_cases e:b'=b
              · subst e;rw [if_pos rfl];exact (HTR.out b').step hlq hlm
              · rw [if_neg e];exact HTR.out b'
            have HDN16:Hid (∀ s' ∈ nms.take (k + 1),∀ b',flook X s'=some b' -> (setf fcr b ⟨(fcr b).b.take qy,qy⟩ b').lasts=(setf fcr b ⟨(fcr b).b.take qy,qy⟩ b').b.length):=fun s' hs' b' hb'=>by
              unfold setf;by_cases e:b'=b
              · subst e;rw [if_pos rfl];exact hlt2.symm
              · rw [if_neg e]
                rw [z0z HSS.out] at hs'
                rcases List.mem_append.1 hs' with hs' | hs'
                · exact HDN.out s' hs' b' hb'
                · rw [List.mem_singleton.1 hs',HFL.out] at hb';exact absurd (Option.some.inj hb').symm e
            have KP16:Hid (Keeps (fun x=>F5 x \/ x=ai) w12 w16):=((HKP.out.trans_nb K13.out).trans K14.out (fun _ _ e=>.inr e)).trans K16.out (fun _ _ e=>.inl (e ▸ Z5.out));have HFO16:Hid ((nms.take (k + 1)).foldl (tr1 zs X) (fc1,D1.steps.length)=(setf fcr b ⟨(fcr b).b.take qy,qy⟩,j + 1)):=by
              refine qq ?_;rw [z0z HSS.out,List.foldl_append,HFO.out];show tr1 zs X (fcr,j) s=_;rw [z65 HFL.out,<- HM.out,<- HQ.out,if_pos hloose,<- HMQ.out,<- HYQ.out,<- HQY.out]
            clear HD14 hlq hlm hlt2;go_wp2;go_roundw
            case rel=>exact ⟨k + 1,j + 1,_,by omega,by go_num,by omega,HFO16,HD16.out,HB16.out,HTR16.out,HDN16.out,KP16.out⟩
            case measure=>simp [intOf];omega
          · have l1:¬ ((0:Int) < (m:Int) - (q:Int)):=by omega
            have HDN16:Hid (∀ s' ∈ nms.take (k + 1),∀ b',flook X s'=some b' -> (fcr b').lasts=(fcr b').b.length):=fun s' hs' b' hb'=>by
              rw [z0z HS.out] at hs';rcases List.mem_append.1 hs' with hs' | hs'
              · exact HDN.out s' hs' b' hb'
              · rw [List.mem_singleton.1 hs',HFL.out] at hb'
                cases hb'
                rw [<- HM.out,<- HQ.out];omega
            have KP16:=qq (HKP.out.trans_nb K13.out);have HFO16:Hid ((nms.take (k + 1)).foldl (tr1 zs X) (fc1,D1.steps.length)=(fcr,j)):=by
              refine qq ?_;rw [z0z HS.out,List.foldl_append,HFO.out];show tr1 zs X (fcr,j) s=_;rw [z65 HFL.out,<- HM.out,<- HQ.out,if_neg hloose]
            go_wp2;go_roundw
            case rel=>exact ⟨k + 1,j,fcr,by omega,by go_num,by omega,HFO16,HD13.out,HB13.out,HTR.out,HDN16.out,KP16.out⟩
            case measure=>simp [intOf];omega
        · have hkl:k=nn:=by omega
          subst hkl
          go_wp2;go_ret
          have KF:Keeps Nb w wr:=((KALL.out.trans_nb K12'.out)).trans HKP.out (fun i hi e=>by
            rcases e with e | e
            · have:=HF5.out _ e;have:=K1.out.size;omega
            · have:=GA.out;have:=K1.out.size;have:=K12.out.size;omega)
          have e1:=CP.out.eq;have hgs:=H.out.names.steps;have hXL:X=(replay bs D.steps l2).map (mv φ):=by
            rw [HXL.out,e1];exact z84 bs D.steps l2 hgs
          have e2:crashD D1 X=crashD D ((replay bs D.steps l2).map (mv φ)):=by rw [e1,<- hXL];rfl
          refine ⟨d',crashD D1 X,fcr,F5,R1,φ,l2,bs,rfl,HD.out,fun k hk=>by have:=HF5.out k hk;have:=K1.out.size;omega,fun k hk=>by have:=HR1.out k hk;have:=K1.out.size;omega,KF,⟨CP.out.p2,?_,?_,?_,CP.out.inj,CP.out.all,e2,fun p hp=>?_⟩⟩
          · rw [HBL.out,HNS.out,e1];simp
          · rw [HBQ.out,HNS.out,e1];simp
          · refine ⟨nms,fc1,?_,CP.out.fc,?_⟩
            · have h1:=HPERM.out
              rw [show (vals X).map Prod.fst=X.map Prod.fst by unfold vals;rw [List.map_map];rfl] at h1
              exact h1
            · have h1:=HFO.out
              rw [HNN.out,List.take_length] at h1
              have h2:D1.steps.length=D.steps.length:=by rw [e1];simp
              rw [h2] at h1;show fcr=_;rw [show (crashD D1 X).files=X from rfl,h1]
          · have hpx:mv φ p ∈ X:=by rw [hXL];exact List.mem_map.2 ⟨p,hp,rfl⟩
            have hrfD:Ref D p.2:=by
              rcases (z2r bs _ _ hgs p hp).1 with ⟨q,hq,e⟩ | ⟨s,hs,e⟩
              · exact .inr (.inl ⟨q,CP.out.p2.mem_iff.1 hq,e⟩)
              · exact .inr (.inr ⟨s,hs,e⟩)
            obtain ⟨cc,hcc⟩:∃ cc,φ p.2=some cc:=by
              cases e:φ p.2 with
              | none=>exact absurd e (CP.out.all _ hrfD)
              | some cc=>exact ⟨cc,rfl⟩
            have hfl:∃ b',flook X p.1=some b' /\ b'=cc:=by
              obtain ⟨b',hb'⟩:=z1c (List.mem_map.2 ⟨_,hpx,rfl⟩:p.1 ∈ X.map Prod.fst);refine ⟨b',hb',?_⟩;have hmm:=zq hb';obtain ⟨⟨p1,p2,pv,ph3,ph4,-⟩,-⟩:=HD5.out;have hnd:((vals X).map Prod.fst).Nodup:=ph4.nodup;have hnd2:(X.map Prod.fst).Nodup:=by simpa [vals,List.map_map,Function.comp_def] using hnd
              have hx2 : (p.1, cc) ∈ X := by have : mv φ p = (p.1, cc) := by simp [mv, hcc]
                                             exact this ▸ hpx
              obtain ⟨i,hi⟩:=List.mem_iff_getElem?.1 hmm;obtain ⟨i',hi'⟩:=List.mem_iff_getElem?.1 hx2;have:=z1w hnd2 (i:=i) (j:=i') (x:=p.1) (by rw [List.getElem?_map,hi];rfl) (by rw [List.getElem?_map,hi'];rfl);subst this;rw [hi] at hi';have:=Option.some.inj hi';exact congrArg Prod.snd this
            obtain ⟨b',hb',rfl⟩:=hfl;have hin:p.1 ∈ nms:=by
              refine HPERM.out.mem_iff.2 ?_;have:p.1 ∈ X.map Prod.fst:=List.mem_map.2 ⟨_,hpx,rfl⟩;simpa [vals,List.map_map] using this
            have hdone:=HDN.out p.1 (by rw [HNN.out,List.take_length];exact hin) b' hb';have htr:=HTR.out b';rw [CP.out.fc _ _ hcc] at htr;rw [hcc];exact htr.full hdone
end Go.Proofs.YtpjomdmjohjheaaGreatDoor
end
section
namespace Go.Lk
open Go.RowKit Go.ChangeShapes
variable {P:Program} {H:Type} {enc:TypeId × Value -> H} {w:World} {base:Nat} {spare:Nat -> Bool} {held:Bool}
theorem z8l {α:Type} {l:List α} {a b:Nat} (h:a + b <= l.length):l.drop a=(l.drop a).take b ++ l.drop (a + b):=by
 rw [<- List.drop_drop,List.take_append_drop]
end Go.Lk
end
section
namespace Go.Vfs
open Go.Lk Go.RowKit
def Was (w:World):Nat -> Prop:=fun k=>k < w.heap.size
def I64 (z:Int):Prop:=-9223372036854775808 <= z /\ z <= 9223372036854775807
def PicksV (w:World) (v:Value) (zs:List Int):Prop:=∃ a c,v=.slice a zs.length c /\ zs.length <= c /\ c <= maxLen /\ Reads .i64 w a zs /\ ∀ z ∈ zs,I64 z
variable {w w' w0:World}
end Go.Vfs
namespace Go.Proofs.YtpjomdmjohjheaaGreatDoor
open Go.RowKit Go.Lk Go.Vfs Go.WideShapes Go.ChangeShapes
variable {w:World} {base:Nat} {H:Type} {enc:TypeId × Value -> H}
theorem zfs {α:Type} {l:List α} {a:Nat} {x:α} (h:(l.drop a).take 1=[x]):l.drop a=x :: l.drop (a + 1):=by
 have hl:a < l.length:=by
  rcases Nat.lt_or_ge a l.length with h' | h'
  ·exact h'
  ·rw [List.drop_of_length_le h'] at h;simp at h
 have:=Go.Lk.z8l (l:=l) (a:=a) (b:=1) (by omega);rw [h] at this;exact this
theorem zdt {n:Nat} {cs:List Value} {x:DataW H × List MemPlace} (h:DataW.trod enc Tryz.prog w 0 (fun _=>true) true n 22 cs=some x):∃ vb l,cs=[vb] /\ Bytes w (Was w) vb l:=by
 rcases open_ints Tryz.underlying22 Tryz.underlying5 (by kernel_rfl) h with ⟨hc,_⟩ | ⟨y,l,c,zs,hc,_,hl,hm,hz,hd,hcell,hwz⟩
 ·exact ⟨_,[],hc,Bytes.nil _ _⟩
 ·
  have hr:IsRow .u8 w (some y) l c zs:=.inr ⟨_,rfl,hl,hm,by simpa using hz,hcell,hwz⟩;obtain ⟨b,rfl,hlc,hcm,hrd,hb⟩:=hr.bytes;refine ⟨_,b,hc,some y,c,rfl,hlc,hcm,hrd,hb,fun k off ea hne=>?_⟩;rcases hrd with h | ⟨b',off',ea',hc'⟩
  ·exact absurd h hne
  ·rw [ea'] at ea;cases ea;exact lt_of_cell (p:=⟨k,off + 0,none⟩) (hc' 0 (List.length_pos_iff.2 hne))
end Go.Proofs.YtpjomdmjohjheaaGreatDoor
end
section
namespace Go.Vfs
open Go.Lk Go.RowKit
end Go.Vfs
namespace Go.Proofs.YtpjomdmjohjheaaGreatDoor
open Go.RowKit Go.Lk Go.Vfs
theorem el32:ElemT Tryz.prog 35 3 1 8 (.int .i64 0):=⟨by kernel_rfl,by kernel_rfl,rfl,by decide⟩
theorem el27:ElemT Tryz.prog 27 22 1 24 (.slice none 0 0):=⟨by kernel_rfl,by kernel_rfl,rfl,by decide⟩
end Go.Proofs.YtpjomdmjohjheaaGreatDoor
end
section
namespace Go.Vfs
open Go.Lk Go.RowKit
variable {W0 w w' w2:World} {d:Nat} {D D':Dk} {fc fc':Nat -> Fl}
structure DB (W0 w:World) (d:Nat) (D:Dk) (fc:Nat -> Fl) (F R:Nat -> Prop):Prop where
 k:Keeps Nb W0 w
 at_:DiskAt w d F R D fc
 gF:∀ k,F k -> W0.heap.size <= k
 gR:∀ k,R k -> W0.heap.size <= k
def Db (W0 w:World) (d:Nat) (D:Dk) (fc:Nat -> Fl):Prop:=∃ F R,DB W0 w d D fc F R
end Go.Vfs
namespace Go.Proofs.YtpjomdmjohjheaaGreatDoor
open Go.RowKit Go.Lk Go.Vfs
variable {W0 w w':World} {d:Nat} {D:Dk} {fc:Nat -> Fl}
def newD (c:Int):Dk:=⟨[],[],[],c,-1,0,0,false,0⟩
theorem new_at (c:Int) (w:World) (hc:1 <= c /\ c <= 16777216):Calls Tryz.prog 18 #[.int .i64 c] w fun e w'=>∃ d,e=.returned (.tuple #[.pointer (some ⟨d,0,none⟩),.int .i64 0]) /\ w.heap.size <= d /\ Db w w' d (newD c) (fun _=>⟨[],0⟩):=by
 obtain ⟨h1,h2⟩:=hc;have HC:=qq (And.intro h1 h2);have hb61:∀ (W:World) (x y:Option Nat) (c:Int),(Instr.build 76 #[(0,.map x),(1,.map y),(3,.int .i64 c),(4,.int .i64 (-1))]).run Tryz.prog W=.ok (.agg #[.map x,.map y,.slice none 0 0,.int .i64 c,.int .i64 (-1),.int .i64 0,.int .i64 0,.bool false,.int .i64 0]) W:=fun _ _ _ _=>by kernel_rfl
 go_enter Tryz.func18,Tryz.ntmps18;go_wp2_with (first | go_skip | (with_reducible refine qv (by decide) ?_))
 refine za (zh rfl z1q ?_);rintro _ w1 ⟨m1,rfl,n1⟩;simp only [Nat.reduceAdd,qn];go_wp2_with (first | go_skip | (with_reducible refine qv (by decide) ?_))
 refine za (zh rfl z1q ?_);rintro _ w2 ⟨m2,rfl,n2⟩;simp only [Nat.reduceAdd,qn];go_wp2_with (first | go_skip | (with_reducible refine qv (by decide) ?_))
 refine za (vbox rfl ?_);intro d w3 n3;simp only [Nat.reduceAdd,qn];have hfin:Db w w3 d (newD c) (fun _=>⟨[],0⟩):=by
  have g1:=n1.ge;have g2:=n2.ge;have g3:=n3.ge;have l1:=n1.lt;have l2:=n2.lt;have l3:=n3.lt;have z1:=n1.k.size;have z2:=n2.k.size;have z3:=n3.k.size;refine ⟨(fun k=>k=d \/ k=m1 \/ k=m2),(fun _=>False),(n1.k.trans_nb n2.k).trans_nb n3.k,⟨⟨m1,m2,.slice none 0 0,n3.blk,z62 (n3.k.nb (n2.k.nb n1.blk)),z62 (n3.k.nb n2.blk),by omega,RowS.nil _ _ _ _ _,.inr (.inl rfl),.inr (.inr rfl)⟩,.inl rfl,?_,?_,⟨by simp [newD],by simp [newD],by simp [newD]⟩,fun _ _ e=>e,fun k hk=>?_,fun _ e=>e.elim⟩,fun k hk=>?_,fun _ e=>e.elim⟩
  ·
   rintro b (⟨p,hp,-⟩ | ⟨p,hp,-⟩ | ⟨s,hs,-⟩)
   ·cases hp
   ·cases hp
   ·cases hs
  ·exact ⟨HC.out,by simp [newD],by simp [newD],by simp [newD],.inl rfl,by simp [newD],by simp [newD],by simp [newD]⟩
  ·rcases hk with rfl | rfl | rfl <;> omega
  ·rcases hk with rfl | rfl | rfl <;> omega
 have HF:=qq hfin;have hd:w.heap.size <= d:=by have:=n3.ge;have:=n1.k.size;have:=n2.k.size;omega
 clear hfin n1 n2 n3;go_wp2;go_ret2;exact ⟨d,rfl,hd,HF.out⟩
end Go.Proofs.YtpjomdmjohjheaaGreatDoor
end
section
namespace Go.Vfs
open Go.Lk Go.RowKit
def szOf (D:Dk) (fc:Nat -> Fl) (s:ByteArray):Nat:=match flook D.files s with | some b=>(fc b).b.length | none=>0
def szs (D:Dk) (fc:Nat -> Fl) (s:ByteArray):List Value:=[.int .i64 (szOf D fc s:Nat)]
theorem zb3 (D:Dk) (fc:Nat -> Fl) (l:List ByteArray):l.flatMap (szs D fc)=l.map ((fun p:ByteArray × Nat=>Value.int .i64 (p.2:Nat)) ∘ fun s=>(s,szOf D fc s)):=by
 induction l with
 | nil=>rfl
 | cons x l ih=>rw [List.flatMap_cons,ih];rfl
theorem zdk {D:Dk} {fc:Nat -> Fl} {s:ByteArray} {b:Nat} (h:flook D.files s=some b):szOf D fc s=(fc b).b.length:=by unfold szOf;rw [h]
def FilesAt (W:World) (lo a3 a4:Nat) (ps:List (ByteArray × Nat)):Prop :=
 ∃ va vc sa sc,lo <= a3 /\ lo <= a4 /\ W.heap[a3]?=some (.cells #[.slice va ps.length vc] 109 (0,0)) /\ W.heap[a4]?=some (.cells #[.slice sa ps.length sc] 35 (0,0)) /\
  Has W va (ps.map fun p=>.string p.1) /\ Has W sa (ps.map fun p=>.int .i64 (p.2:Nat)) /\ (∀ b off,va=some ⟨b,off,none⟩ -> lo <= b /\ b < W.heap.size) /\ (∀ b off,sa=some ⟨b,off,none⟩ -> ps ≠ [] -> lo <= b /\ b < W.heap.size) /\
  ps.length <= vc /\ vc <= maxLen /\ ps.length <= sc /\ sc <= maxLen
theorem FilesAt.keeps {W W':World} {lo a3 a4:Nat} {ps:List (ByteArray × Nat)} {S:Nat -> Prop} (h:FilesAt W lo a3 a4 ps) (hk:Keeps S W W') (hS:∀ b,lo <= b -> b < W.heap.size -> ¬ S b):FilesAt W' lo a3 a4 ps:=by
 obtain ⟨va,vc,sa,sc,h1,h2,h3,h4,h5,h6,h7,h8,h9⟩:=h
 exact ⟨va,vc,sa,sc,h1,h2,hk.at h3 (hS _ h1 (lt_of_block h3)),hk.at h4 (hS _ h2 (lt_of_block h4)),h5.keeps hk (fun b off e _=>hS b (h7 b off e).1 (h7 b off e).2),h6.keeps hk (fun b off e hz=>hS b (h8 b off e (fun e=>hz (by rw [e];rfl))).1 (h8 b off e (fun e=>hz (by rw [e];rfl))).2),
  fun b off e=>⟨(h7 b off e).1,Nat.lt_of_lt_of_le (h7 b off e).2 hk.size⟩,fun b off e hz=>⟨(h8 b off e hz).1,Nat.lt_of_lt_of_le (h8 b off e hz).2 hk.size⟩,h9⟩
end Go.Vfs
namespace Go.Proofs.YtpjomdmjohjheaaGreatDoor
open Go.RowKit Go.Lk Go.Vfs
def FilesD (lo:Nat) (ps:List (ByteArray × Nat)) (w:World) (e:Ending) (w':World):Prop :=
 ∃ a3 a4,e=.returned (.func (.func 95) #[] #[.pointer (some ⟨a3,0,none⟩),.pointer (some ⟨a4,0,none⟩)]) /\ FilesAt w' lo a3 a4 ps /\ Keeps Nb w w'
theorem z45 (d:Nat) (D:Dk) (F R:Nat -> Prop) (fc:Nat -> Fl) (w:World) (h:DiskAt w d F R D fc) :
  Calls Tryz.prog 32 #[.pointer (some ⟨d,0,none⟩)] w fun e w'=>∃ ns:List ByteArray,ns.Perm (D.files.map Prod.fst) /\ FilesD w.heap.size (ns.map fun s=>(s,szOf D fc s)) w e w':=by
 have H:=qq h;clear h;go_enter Tryz.func32,Tryz.ntmps32;go_wp2_with (first | go_skip | (with_reducible refine qv (by decide) ?_))
 refine za (valloc (z:=.slice none 0 0) (by kernel_rfl) ?_);intro a3 w1 n1;simp only [Nat.reduceAdd,qn];go_wp2_with (first | go_skip | (with_reducible refine qv (by decide) ?_))
 refine za (valloc (z:=.slice none 0 0) (by kernel_rfl) ?_);intro a4 w2 n2;simp only [Nat.reduceAdd,qn];have A3:=qq (n2.k.nb n1.blk);have A4:=qq n2.blk;have G3:Hid (w.heap.size <= a3):=n1.ge;have G4:Hid (w1.heap.size <= a4):=n2.ge;have K2:Hid (Keeps Nb w w2):=n1.k.trans_nb n2.k;have L1:Hid (a3 < w1.heap.size):=n1.lt;have Z1:Hid (w.heap.size <= w1.heap.size):=n1.k.size;clear n1 n2;have HD:=qq (H.out.nb K2.out);obtain ⟨⟨m1,m2,sv,h3,h4,h5,h6,h7,h8,h9⟩,g1,g2,g3,g3b,g4,g5,g6⟩:=HD.out;have H3:=qq h3;have H4:=qq h4;have NU:=qq g3;have NM:=qq g3b;have C0:w2.cell? ⟨d,0,none⟩=some (.map (some m1)):=(cell_of_block h3).trans rfl;clear h3 h4 h5 h6 h7 h8 h9 g1 g2 g3 g3b g4 g5 g6;have SA:=qq (sorted_at m1 (vals D.files) w2 H4.out (by rw [z0c];exact NU.out.nf));go_wp2_with fail;refine (z3h d m1 (.map (some m2)) sv [] w2 C0).mono ?_;rintro _ _ ⟨rfl,rfl⟩;go_wp2_with fail;refine (zac m1 w2).mono ?_;rintro _ _ ⟨rfl,rfl⟩;go_wp2_with fail;refine SA.out.mono ?_;rintro _ w3 ⟨v,nms,rfl,hperm,hrow,k3⟩;have HPERM:=qq hperm;obtain ⟨va,vc,rfl,hv1,hv2,hv3,hv4⟩:=z05 hrow;obtain ⟨nn,hnn⟩:∃ nn,nn=nms.length:=⟨_,rfl⟩
 have HNN:=qq hnn;rw [<- hnn] at hv1 ⊢;have hvm:nn <= vc /\ vc <= 9223372036854775807:=by unfold maxLen at hv2;exact ⟨hv1,hv2⟩
 have hnx:nn <= 1000000:=by rw [hnn,hperm.length_eq,List.length_map,z0c];exact NU.out.nf
 have HV:=qq hv3;have HV4:Hid (∀ b off,va=some ⟨b,off,none⟩ -> w2.heap.size <= b /\ b < w3.heap.size /\ IsT w3 9 b):=fun b off e=>⟨(hv4 b off e).2.2.1,(hv4 b off e).2.1,(hv4 b off e).2.2.2⟩
 have K3:=qq k3;have B3:=qq (k3.nb A3.out);have B4:=qq (k3.nb A4.out);clear hperm hrow hv1 hv2 hv3 hv4 hnn k3 C0 SA;go_wp2_with (first | go_skip | (with_reducible refine qv (by decide) ?_))
 refine za (zc rfl (zd (v:=.slice va nn vc) (n:=1) (by kernel_rfl) (by rfl) (by rfl) B3.out (by rfl) (by simp [Value.cells]) (by simp [Value.cells,Value.oneCell'])) ?_);intro w4 s4;simp only [Nat.reduceAdd,qn];have A3w:Hid (w4.heap[a3]?=some (.cells #[.slice va nn vc] 109 (0,0))):=s4.blk;have K34:Hid (Keeps (·=a3) w3 w4):=s4.k;have HNE:Hid (¬ a3=a4):=fun e=>by have:=L1.out;have:=G4.out;omega
 have A4w:Hid (w4.heap[a4]?=some (.cells #[.slice none 0 0] 35 (0,0))):=s4.k.at B4.out (fun e=>HNE.out e.symm);have K4:Hid (Keeps Nb w w4):=(K2.out.trans_nb K3.out).trans s4.k (fun i hi e=>by have:i=a3:=e;have:=G3.out;omega);have HVw:Hid (Has w4 va (nms.map Value.string)):=HV.out.keeps s4.k (fun b off e _ e2=>(HV4.out b off e).2.2.ne ⟨_,_,B3.out⟩ (by decide) e2);have HVT:Hid (∀ b off,va=some ⟨b,off,none⟩ -> w.heap.size <= b /\ b < w4.heap.size /\ IsT w4 9 b):=fun b off e=>⟨by have:=(HV4.out b off e).1;have:=K2.out.size;omega,Nat.lt_of_lt_of_le (HV4.out b off e).2.1 s4.k.size,(HV4.out b off e).2.2.keeps s4.k (fun e2=>(HV4.out b off e).2.2.ne ⟨_,_,B3.out⟩ (by decide) e2)⟩
 clear s4 B3 B4 A3 A4 HV HV4 K34;have c3:w4.cell? ⟨a3,0,none⟩=some (.slice va nn vc):=(cell_of_block A3w.out).trans rfl;go_wp2;clear c3
 go_loopw [17] (fun i wr=>∃ (k:Nat) (sv:Value),k <= nn /\ i=.int .i64 k /\ wr.heap[a4]?=some (.cells #[sv] 35 (0,0)) /\ RowS wr (fun x=>w.heap.size <= x /\ x < wr.heap.size) (fun _=>False) 3 1 sv k ((nms.take k).flatMap (szs D fc)) /\ wr.heap[a3]?=some (.cells #[.slice va nn vc] 109 (0,0)) /\ Has wr va (nms.map Value.string) /\ (∀ b off,va=some ⟨b,off,none⟩ -> w.heap.size <= b /\ b < wr.heap.size /\ IsT wr 9 b) /\ Keeps Nb w wr) (fun i _=>nn - (intOf i).toNat)
 case atStart=>exact ⟨0,_,Nat.zero_le _,rfl,A4w.out,RowS.nil _ _ _ _ _,A3w.out,HVw.out,HVT.out,K4.out⟩
 case round =>
  obtain ⟨k,sv2,hk,rfl,hb4,hr,hb3,hvr,hvt,hkw⟩:=hrel;have HB4:=qq hb4;have HR:=qq hr;have HB3:=qq hb3;have HVR:=qq hvr;have HVTR:=qq hvt;have HKW:=qq hkw;clear hb4 hr hb3 hvr hvt hkw;by_cases hlt:k < nn
  ·
   have i1:(k:Int) < (nn:Int):=by omega
   obtain ⟨s,hs⟩:∃ s,nms[k]?=some s:=⟨_,List.getElem?_eq_getElem (by rw [<- HNN.out];exact hlt)⟩
   have HS0:=qq hs;have hvr:=HVR.out;obtain ⟨b9,o9,rfl⟩:∃ b off,va=some ⟨b,off,none⟩:=by
    rcases hvr with h | ⟨b,off,h,-⟩
    ·exfalso;have:nms=[]:=List.map_eq_nil_iff.1 h;rw [this] at hs;cases hs
    ·exact ⟨b,off,h⟩
   have c9:wr.cell? ⟨b9,o9 + k,none⟩=some (.string s):=by
    rcases hvr with h | ⟨b,off,h,hc⟩
    ·exfalso;have:nms=[]:=List.map_eq_nil_iff.1 h;rw [this] at hs;cases hs
    ·cases h;exact hc k _ (by rw [List.getElem?_map,hs];rfl)
   have hin:s ∈ D.files.map Prod.fst:=by
    have h1:=HPERM.out.mem_iff.1 (List.mem_of_getElem? hs);simpa [vals,List.map_map] using h1
   obtain ⟨b,hfl⟩:=z1c hin;have HFL:=qq hfl;have hsm:Hid (s.size <= maxLen):=by
    obtain ⟨p,hp,rfl⟩:=List.mem_map.1 hin;exact z5f (NM.out.files p hp)
   clear hs hin hfl;have HDr:=qq (H.out.nb HKW.out);obtain ⟨⟨p1,p2,pv,ph3,ph4,-⟩,-⟩:=HDr.out;have PH3:=qq ph3;have PH4:Hid (SMap wr p1 (vals D.files)):=ph4;have HG0:Hid ((sget (vals D.files) s).getD (.pointer none)=.pointer (some ⟨b,0,none⟩)):=by refine qq ?_;rw [z3o,HFL.out];rfl
   clear ph3 ph4;obtain ⟨⟨fv,z1,z2,z3,z4⟩,z5⟩:=HDr.out.file b (.inl ⟨_,zq HFL.out,rfl⟩);obtain ⟨fa,fcap,rfl,-⟩:=z2.rows;obtain ⟨m,hm⟩:∃ m,m=(fc b).b.length:=⟨_,rfl⟩
   have HM:=qq hm;rw [<- hm] at z1 z4;have Z1':=qq z1;clear z1 z2 z3 z5 hm;go_wp2;have HS:Hid ((fun u:World=>u.cell? ⟨a4,0,none⟩=some sv2 /\ u.cell? ⟨d,0,none⟩=some (.map (some p1)) /\ SMap u p1 (vals D.files) /\ u.cell? ⟨b,0,none⟩=some (.slice fa m fcap)) wr.drew):=⟨(cell_of_block HB4.out).trans rfl,(cell_of_block PH3.out).trans rfl,PH4.out,(cell_of_block Z1'.out).trans rfl⟩
   refine WT.region (fun u:World=>u.cell? ⟨a4,0,none⟩=some sv2 /\ u.cell? ⟨d,0,none⟩=some (.map (some p1)) /\ SMap u p1 (vals D.files) /\ u.cell? ⟨b,0,none⟩=some (.slice fa m fcap)) 13 14 [0,1,2,3,4,5,6,7,8,9,10,11,12,13] (by kernel_rfl) rfl ?_;refine WT.t 0 (v:=sv2) (y:=by rintro w ⟨C1,C2,C3,C4⟩;exact zb (by kernel_rfl) (by rfl) C1) (s:=HS.out) (h:=?_);refine WT.t 1 (v:=_) (y:=by rintro w ⟨C1,C2,C3,C4⟩;exact by go_simp;with_reducible rfl) (s:=HS.out) (h:=?_);refine WT.t 2 (v:=_) (y:=by rintro w ⟨C1,C2,C3,C4⟩;exact by go_simp;with_reducible rfl) (s:=HS.out) (h:=?_);refine WT.t 3 (v:=_) (y:=by rintro w ⟨C1,C2,C3,C4⟩;exact by go_simp;with_reducible rfl) (s:=HS.out) (h:=?_);refine WT.t 4 (v:=.map (some p1)) (y:=by rintro w ⟨C1,C2,C3,C4⟩;exact zb (by kernel_rfl) (by rfl) C2) (s:=HS.out) (h:=?_);refine WT.t 5 (v:=_) (y:=by rintro w ⟨C1,C2,C3,C4⟩;exact by go_simp;with_reducible rfl) (s:=HS.out) (h:=?_);refine WT.t 6 (v:=.pointer (some ⟨b,0,none⟩)) (y:=by rintro w ⟨C1,C2,C3,C4⟩;exact HG0.out ▸ z2b (c:=false) (n:=s) C3 smT (zero63 _) (by rfl) (by rfl) hsm.out) (s:=HS.out) (h:=?_);refine WT.t 7 (v:=_) (y:=by rintro w ⟨C1,C2,C3,C4⟩;exact by go_simp;with_reducible rfl) (s:=HS.out) (h:=?_);refine WT.t 8 (v:=_) (y:=by rintro w ⟨C1,C2,C3,C4⟩;exact by go_simp;with_reducible rfl) (s:=HS.out) (h:=?_);refine WT.t 9 (v:=.slice fa m fcap) (y:=by rintro w ⟨C1,C2,C3,C4⟩;exact zb (by kernel_rfl) (by rfl) C4) (s:=HS.out) (h:=?_);refine WT.t 10 (v:=.int .i64 (m:Nat)) (y:=by rintro w ⟨C1,C2,C3,C4⟩;exact by go_simp) (s:=HS.out) (h:=?_);refine WT.o 11 (y:=z0w (v:=.int .i64 (m:Nat)) el32 (by rfl) (by rfl) (by omega)) (h:=?_);rintro _ w5 ⟨g,rfl,ng⟩;have k5:Keeps Nb wr w5:=(Keeps.refl Nb wr).drew.trans_nb ng.k;have hb5:=k5.nb HB4.out;have hd5:=k5.nb PH3.out;have hm5:=PH4.out.nb k5;have hz5:=k5.nb Z1'.out;refine ⟨⟨(cell_of_block hb5).trans rfl,(cell_of_block hd5).trans rfl,hm5,(cell_of_block hz5).trans rfl⟩,?_⟩;simp only [Nat.reduceAdd,qn];have hr5:RowS w5 (fun x=>w.heap.size <= x /\ x < w5.heap.size) (fun _=>False) 3 1 sv2 k ((nms.take k).flatMap (szs D fc)):=(HR.out.keeps k5 (fun _ _ _ e=>e)).mono (fun x hx=>⟨hx.1,Nat.lt_of_lt_of_le hx.2 k5.size⟩) (fun _ h=>h);refine WT.o 12 (y:=z15 (news:=szs D fc s) el32 hr5 (by rfl) (by rfl) (by have:=zo ng.blk;rw [szs,zdk HFL.out,<- HM.out];exact this) (by rfl) (by simp [szs,Value.oneCell']) (by omega) (by unfold maxLen;omega) (by omega)) (h:=?_);rintro sv' w6 ⟨r6,S6,k56,hS6⟩;have hb6:=k56.at hb5 (fun e=>(hS6 _ e).2.ne ⟨_,_,hb5⟩ (by decide) rfl);have hd6:=k56.at hd5 (fun e=>(hS6 _ e).2.ne ⟨_,_,hd5⟩ (by decide) rfl);have hm6:=hm5.keeps k56 (fun e=>by obtain ⟨es,cl,q,-⟩:=hm5;exact (hS6 _ e).2.map q rfl);have hz6:=k56.at hz5 (fun e=>(hS6 _ e).2.ne ⟨_,_,hz5⟩ (by decide) rfl);refine ⟨⟨(cell_of_block hb6).trans rfl,(cell_of_block hd6).trans rfl,hm6,(cell_of_block hz6).trans rfl⟩,?_⟩;simp only [Nat.reduceAdd,qn];refine WT.stop (by kernel_rfl) ?_;have o6:sv'.cells=#[sv'] /\ sv'.oneCell'=true:=by obtain ⟨-,-,a,c,rfl,-⟩:=r6;exact ⟨rfl,rfl⟩
   refine WP.onlySkipE 13 (by simp only [qi];rfl) (by kernel_rfl) (by rfl) (zd (v:=sv') (n:=1) (by kernel_rfl) (by rfl) (by rfl) hb6 (by rw [o6.1];rfl) (by simp) (by rw [o6.1];simpa using o6.2)) ?_;intro w7 s7;rw [o6.1] at s7;simp only [Nat.reduceAdd,qn];refine WP.done (by kernel_rfl) ?_;have KW:Hid (Keeps Nb w w7):=((HKW.out.trans_nb k5).trans k56 (fun i hi e=>by have:=(hS6 i e).1.1;omega)).trans s7.k (fun i hi e=>by have:i=a4:=e;have:=G4.out;have:=Z1.out;omega);have R7:Hid (RowS w7 (fun x=>w.heap.size <= x /\ x < w7.heap.size) (fun _=>False) 3 1 sv' (k + 1) ((nms.take (k + 1)).flatMap (szs D fc))):=by
    rw [z0z HS0.out,List.flatMap_append,List.flatMap_singleton];refine (r6.keeps s7.k (fun x _ ht e=>ht.ne ⟨_,_,hb6⟩ (by decide) e)).mono (fun x hx=>?_) (fun _ h=>h);have:=KW.out.size;have:=HKW.out.size;have:=k5.size;have:=k56.size;have:=s7.k.size;rcases hx with hx | hx <;> omega
   have HVT6:Hid (∀ b off,some ⟨b9,o9,none⟩=some (⟨b,off,none⟩:Addr) -> w.heap.size <= b /\ b < w6.heap.size /\ IsT w6 9 b):=fun b off e=>by
    obtain ⟨q1,q2,q3⟩:=HVTR.out b off e;have q4:IsT w5 9 b:=q3.keeps k5 (fun e=>e);exact ⟨q1,by have:=k5.size;have:=k56.size;omega,q4.keeps k56 (fun e=>(hS6 _ e).2.ne q4 (by decide) rfl)⟩
   have HV6:Has w6 (some ⟨b9,o9,none⟩) (nms.map Value.string):=(hvr.keeps k5 (fun _ _ _ _ e=>e)).keeps k56 (fun b off e _ e2=>by
    have q4:IsT w5 9 b:=(HVTR.out b off e).2.2.keeps k5 (fun e=>e)
    exact (hS6 _ e2).2.ne q4 (by decide) rfl)
   have HVT7:Hid (∀ b off,some ⟨b9,o9,none⟩=some (⟨b,off,none⟩:Addr) -> w.heap.size <= b /\ b < w7.heap.size /\ IsT w7 9 b):=fun b off e=>by
    obtain ⟨q1,q2,q3⟩:=HVT6.out b off e;exact ⟨q1,by have:=s7.k.size;omega,q3.keeps s7.k (fun e=>q3.ne ⟨_,_,hb6⟩ (by decide) e)⟩
   have HV7:Hid (Has w7 (some ⟨b9,o9,none⟩) (nms.map Value.string)):=HV6.keeps s7.k (fun b off e _ e2=>(HVT6.out b off e).2.2.ne ⟨_,_,hb6⟩ (by decide) e2);have B37:Hid (w7.heap[a3]?=some (.cells #[.slice (some ⟨b9,o9,none⟩) nn vc] 109 (0,0))):=by
    have q:=k5.nb HB3.out;exact s7.k.at (k56.at q (fun e=>(hS6 _ e).2.ne ⟨_,_,q⟩ (by decide) rfl)) HNE.out
   have B7:Hid (w7.heap[a4]?=some (.cells #[sv'] 35 (0,0))):=s7.blk;clear HS s7 HV6 r6 hr5 hb5 hb6 hd5 hd6 hm5 hm6 hz5 hz6 k5 k56;go_wp2;go_roundw
   case rel=>exact ⟨k + 1,sv',by omega,by go_num,B7.out,R7.out,B37.out,HV7.out,HVT7.out,KW.out⟩
   case measure=>simp [intOf];omega
  ·
   have hkl:k=nn:=by omega
   subst hkl;go_wp2;go_ret;obtain ⟨-,-,sa,sc,rfl,j1,j2,j3,j4,-⟩:=HR.out;have hL:(nms.map fun s=>(s,szOf D fc s)).length=k:=by rw [List.length_map,HNN.out]
   refine ⟨nms,?_,a3,a4,rfl,⟨va,vc,sa,sc,G3.out,by have:=G4.out;have:=Z1.out;omega,?_,?_,?_,?_,fun b off e=>⟨(HVTR.out b off e).1,(HVTR.out b off e).2.1⟩,fun b off e hz=>?_,?_,?_,?_,?_⟩,HKW.out⟩
   ·have:=HPERM.out;rwa [show (vals D.files).map Prod.fst=D.files.map Prod.fst by simp [vals,List.map_map,Function.comp_def]] at this
   ·rw [hL];exact HB3.out
   ·rw [hL];exact HB4.out
   ·rw [List.map_map];exact HVR.out
   ·have:=j3;rw [HNN.out,List.take_length] at this;rw [List.map_map];rw [<- zb3];exact this
   ·have:=j4 b off e (by rw [HNN.out,List.take_length,zb3];intro e2;exact hz (by rw [List.map_eq_nil_iff] at e2;rw [e2];rfl));exact this.1.elim id (fun h=>h.elim)
   ·rw [hL];exact hvm.1
   ·unfold maxLen;exact hvm.2
   ·rw [hL];exact j1
   ·exact j2
attribute [local go_sem] Oper.semAt_some
def Handed (ps:List (ByteArray × Nat)) (i:Nat) (args:Array Value) (W:World):Prop:=∃ p,ps[i]?=some p /\ args=#[.string p.1,.int .i64 (p.2:Nat)]
theorem z2n (n:Nat) (hn:1 <= n) (lo a3 a4:Nat) (ps:List (ByteArray × Nat)) (S:Nat -> Prop) (w:World) (h:FilesAt w lo a3 a4 ps) (hS:∀ b,lo <= b -> b < w.heap.size -> ¬ S b) :
  Iter Tryz.prog n 95 #[.pointer (some ⟨a3,0,none⟩),.pointer (some ⟨a4,0,none⟩)] ps.length (Handed ps) S w:=by
 intro l J Jx W kW hW2 hJ hJx hY h0;have HF:=qq (h.keeps kW (fun _ _ _ e=>e));have HFW:=qq h;have HKW:=qq kW;have HJ:=qq hJ;have HJX:=qq hJx;have HY:=qq hY;have H0:=qq h0;have HS:=qq hS;clear h hJ hJx hY h0 hS;obtain ⟨va,vc,sa,sc,h1,h2,h3,h4,h5,h6,h7,h8,h9,h10,h11,h12⟩:=HFW.out;have A3:=qq h3;have L3:=qq h1;have c3:W.cell? ⟨a3,0,none⟩=some (.slice va ps.length vc):=(cell_of_block (kW.nb h3)).trans rfl;have hvm:ps.length <= vc /\ vc <= 9223372036854775807:=by unfold maxLen at h10;exact ⟨h9,h10⟩
 clear h1 h2 h3 h4 h5 h6 h7 h8 h9 h10 h11 h12;refine callsIn_of_wp Tryz.func95 rfl trivial ?_ rfl;simp only [Tryz.ntmps95,List.size_toArray,List.length_cons,List.length_nil,Nat.reduceAdd,Nat.reduceSub,Array.replicate_succ,Array.replicate_zero,List.push_toArray,List.append_toArray,List.nil_append,List.cons_append]
 gi_wp2
 clear c3
 gi_loopw [8] (fun i wr=>∃ k:Nat,k <= ps.length /\ i=.int .i64 k /\ J k wr /\ Keeps S W wr) (fun i _=>ps.length - (intOf i).toNat)
 case atStart=>exact ⟨0,Nat.zero_le _,rfl,H0.out,Keeps.refl _ _⟩
 case round =>
  obtain ⟨k,hk,rfl,hj,kw⟩:=hrel;by_cases hlt:k < ps.length
  ·
   have i1:(k:Int) < (ps.length:Int):=by omega
   have KWr:Hid (Keeps S w wr):=(Keeps.of_nb HKW.out).trans kw (fun i _ e=>e);obtain ⟨va',vc',sa,sc,h1,h2,h3,h4,h5,h6,h7,h8,h9,h10,h11,h12⟩:=HFW.out.keeps KWr.out HS.out;obtain ⟨rfl,rfl⟩:va'=va /\ vc'=vc:=by
    have q:=KWr.out.at A3.out (HS.out _ L3.out (lt_of_block A3.out));rw [h3] at q;simpa using q
   obtain ⟨p,hp⟩:∃ p,ps[k]?=some p:=⟨_,List.getElem?_eq_getElem hlt⟩
   have HP:=qq hp;have hone:∀ {a:Option Addr} {f:ByteArray × Nat -> Value},Has wr a (ps.map f) -> ∃ b off,a=some ⟨b,off,none⟩ /\ wr.cell? ⟨b,off + k,none⟩=some (f p):=by
    intro a f hh;rcases hh with h | ⟨b,off,h,hc⟩
    ·exfalso;have:ps=[]:=List.map_eq_nil_iff.1 h;rw [this] at hp;cases hp
    ·exact ⟨b,off,h,hc k _ (by rw [List.getElem?_map,hp];rfl)⟩
   obtain ⟨b1,o1,rfl,c1⟩:=hone h5;obtain ⟨b2,o2,rfl,c2⟩:=hone h6;have c4:wr.cell? ⟨a4,0,none⟩=some (.slice (some ⟨b2,o2,none⟩) ps.length sc):=(cell_of_block h4).trans rfl;have hsm:ps.length <= sc /\ sc <= 9223372036854775807:=by unfold maxLen at h12;exact ⟨h11,h12⟩
   have HJJ:=qq hj;have KW:=qq kw;obtain ⟨fn,tmps,assign,body,hy,hR⟩:=HY.out k #[.string p.1,.int .i64 (p.2:Nat)] wr hj hlt ⟨p,hp,rfl⟩;have HR:=qq hR;clear h1 h2 h3 h4 h5 h6 h7 h8 h9 h10 h11 h12 hone hp hj kw hR
   gi_wp2
   refine HR.out.mono ?_;rintro e W3 (⟨rfl,hJ3,hk3⟩ | ⟨rfl,hJx3⟩)
   ·
    have KF:Hid (Keeps S W W3):=KW.out.trans hk3 (fun i _ e=>e);have HF:=qq hJ3;clear hJ3 hk3
    gi_wp2
    go_roundw
    case rel=>exact ⟨k + 1,by omega,by go_num,HF.out,KF.out⟩
    case measure=>simp [intOf];omega
   ·
    have HF:=qq hJx3;clear hJx3
    gi_wp2
    refine bodyPost_ret (results_none rfl _ _ _) rfl ?_;exact ⟨⟨_,rfl⟩,.inr HF.out⟩
  ·
   have hkl:k=ps.length:=by omega
   subst hkl;have HJJ:=qq hj;clear hj
   gi_wp2
   go_end0;exact ⟨⟨_,rfl⟩,.inl HJJ.out⟩
section
variable {W0 w w':World} {d:Nat} {D:Dk} {fc:Nat -> Fl}
end
end Go.Proofs.YtpjomdmjohjheaaGreatDoor
end
section
namespace Go.Crc
def P:Nat:=2197175160
theorem P_lt:P < 2 ^ 32:=by decide
def stp (r:Nat):Nat:=(r / 2) ^^^ (if r % 2=1 then P else 0)
def stps:Nat -> Nat -> Nat
 | 0,r=>r
 | n + 1,r=>stps n (stp r)
theorem z88 (n r:Nat):stps (n + 1) r=stp (stps n r):=by
 induction n generalizing r with
 | zero=>rfl
 | succ n ih=>show stps (n + 1) (stp r)=_;rw [ih];rfl
theorem z9g (a b:Nat):(a ^^^ b) / 2=(a / 2) ^^^ (b / 2):=by
 have:=Nat.shiftRight_xor_distrib (a:=a) (b:=b) (i:=1);simpa [Nat.shiftRight_eq_div_pow] using this
theorem z9h (a b:Nat):(a ^^^ b) % 2=(a % 2 + b % 2) % 2:=by
 have h:=Nat.testBit_xor a b 0;rw [Nat.testBit_zero,Nat.testBit_zero,Nat.testBit_zero] at h;have h1:=Nat.mod_two_eq_zero_or_one (a ^^^ b);rcases Nat.mod_two_eq_zero_or_one a with ha | ha <;> rcases Nat.mod_two_eq_zero_or_one b with hb | hb <;> rw [ha,hb] at h ⊢ <;> rcases h1 with h1 | h1 <;> rw [h1] at h ⊢ <;> simp at h ⊢
theorem xor4 (a b c d:Nat):(a ^^^ b) ^^^ (c ^^^ d)=(a ^^^ c) ^^^ (b ^^^ d):=by
 rw [Nat.xor_assoc,<- Nat.xor_assoc b,Nat.xor_comm b c,Nat.xor_assoc c,<- Nat.xor_assoc]
theorem z73 (a b:Nat):(a ^^^ b) ^^^ b=a:=by rw [Nat.xor_assoc,Nat.xor_self,Nat.xor_zero]
theorem zaz (a b:Nat):stp (a ^^^ b)=stp a ^^^ stp b:=by
 unfold stp;rw [z9g,z9h];rcases Nat.mod_two_eq_zero_or_one a with ha | ha <;> rcases Nat.mod_two_eq_zero_or_one b with hb | hb <;> rw [ha,hb]
 ·simp
 ·simp [Nat.xor_assoc]
 ·simp only [Nat.add_zero,Nat.one_mod,↓reduceIte,Nat.zero_ne_one,Nat.xor_zero];rw [Nat.xor_assoc,Nat.xor_comm (b / 2),<- Nat.xor_assoc]
 ·simp only [Nat.reduceAdd,Nat.mod_self,Nat.zero_ne_one,↓reduceIte,Nat.xor_zero];rw [xor4,Nat.xor_self,Nat.xor_zero]
theorem zf1 (n a b:Nat):stps n (a ^^^ b)=stps n a ^^^ stps n b:=by
 induction n generalizing a b with
 | zero=>rfl
 | succ n ih=>show stps n (stp _)=stps n (stp _) ^^^ stps n (stp _);rw [zaz,ih]
theorem zay (q:Nat):stp (2 * q)=q:=by
 unfold stp;rw [if_neg (by omega),Nat.xor_zero];omega
theorem zf0 (n q:Nat):stps n (2 ^ n * q)=q:=by
 induction n with
 | zero=>simp [stps]
 | succ n ih =>
  show stps n (stp _)=q;rw [Nat.pow_succ,Nat.mul_comm (2 ^ n) 2,Nat.mul_assoc,zay,ih]
theorem stp_lt {r:Nat} (h:r < 2 ^ 32):stp r < 2 ^ 32:=by
 unfold stp;refine Nat.xor_lt_two_pow (by omega) ?_;split
 ·exact P_lt
 ·decide
theorem z5o (n:Nat) {r:Nat} (h:r < 2 ^ 32):stps n r < 2 ^ 32:=by
 induction n generalizing r with
 | zero=>exact h
 | succ n ih=>exact ih (stp_lt h)
def inn (r x:Nat):Nat:=stps 8 (r ^^^ x)
def inns (r:Nat) (l:List Nat):Nat:=l.foldl inn r
def Bytes (l:List Nat):Prop:=∀ x ∈ l,x < 256
theorem inn_lt {r x:Nat} (hr:r < 2 ^ 32) (hx:x < 256):inn r x < 2 ^ 32:=z5o 8 (Nat.xor_lt_two_pow hr (by omega))
theorem Bytes.cons {x:Nat} {l:List Nat} (h:Bytes (x :: l)):x < 256 /\ Bytes l:=⟨h x (by simp),fun y hy=>h y (by simp [hy])⟩
theorem Bytes.take {l:List Nat} (h:Bytes l) (n:Nat):Bytes (l.take n):=fun x hx=>h x (List.mem_of_mem_take hx)
theorem z7a {r:Nat} {l:List Nat} (hr:r < 2 ^ 32) (hl:Bytes l):inns r l < 2 ^ 32:=by
 induction l generalizing r with
 | nil=>exact hr
 | cons x l ih=>exact ih (inn_lt hr hl.cons.1) hl.cons.2
theorem z3p (r:Nat) (a b:List Nat):inns r (a ++ b)=inns (inns r a) b:=by simp [inns]
theorem za0 {x q:Nat} (n:Nat) (h:x < 2 ^ n):x ^^^ (2 ^ n * q)=x + 2 ^ n * q:=by
 have h1:=Nat.two_pow_add_eq_or_of_lt h q;rw [Nat.add_comm x,h1];apply Nat.eq_of_testBit_eq;intro i;rw [Nat.testBit_xor,Nat.testBit_or,Nat.testBit_two_pow_mul];by_cases hi:n <= i
 ·rw [Nat.testBit_lt_two_pow (Nat.lt_of_lt_of_le h (Nat.pow_le_pow_right (by decide) hi))];simp
 ·simp [hi]
def cpl (r:Nat):Nat:=4294967295 - r
theorem zcf (r:Nat):cpl r < 2 ^ 32:=by unfold cpl;omega
def mor (s:Nat) (l:List Nat):Nat:=cpl (inns (cpl s) l)
theorem zcv (s:Nat) (l:List Nat):mor s l < 2 ^ 32:=zcf _
theorem zfm {r b:Nat} (hr:r < 2 ^ 32) (hb:b < 2):(if r % 2=b then r / 2 else (r / 2) ^^^ P)=stp (r ^^^ b):=by
 unfold stp;rw [z9g,z9h,show b / 2=0 by omega,Nat.xor_zero];rcases Nat.mod_two_eq_zero_or_one r with h | h <;> rcases (show b=0 \/ b=1 by omega) with rfl | rfl <;> simp [h]
theorem ze8 {r x i:Nat} (hi:i < 8):stps (i + 1) (r ^^^ x) ^^^ (x / 2 ^ (i + 1))=stp ((stps i (r ^^^ x) ^^^ (x / 2 ^ i)) ^^^ (x / 2 ^ i % 2)):=by
 have h1:x / 2 ^ i=(x / 2 ^ i % 2) ^^^ (2 ^ 1 * (x / 2 ^ i / 2)):=by rw [za0 1 (Nat.mod_lt _ (by decide))];omega
 have h2:x / 2 ^ i / 2=x / 2 ^ (i + 1):=by rw [Nat.div_div_eq_div_mul,Nat.pow_succ]
 rw [z88];rw [h2] at h1;have h3:x / 2 ^ i ^^^ (x / 2 ^ i % 2)=2 * (x / 2 ^ (i + 1)):=by
  have:x / 2 ^ i ^^^ (x / 2 ^ i % 2)=(x / 2 ^ i % 2 ^^^ 2 ^ 1 * (x / 2 ^ (i + 1))) ^^^ (x / 2 ^ i % 2):=by rw [<- h1]
  rw [this,Nat.xor_comm (x / 2 ^ i % 2),z73]
 rw [Nat.xor_assoc,h3,zaz,zay]
theorem in_end {r x:Nat} (hx:x < 256):stps 8 (r ^^^ x) ^^^ (x / 2 ^ 8)=inn r x:=by
 rw [show x / 2 ^ 8=0 by omega,Nat.xor_zero];rfl
theorem zg1 {r x:Nat}:inn r x=stps 8 ((r % 256) ^^^ x) ^^^ (r / 256):=by
 have h1:r=(r % 256) ^^^ (2 ^ 8 * (r / 256)):=by rw [za0 8 (Nat.mod_lt _ (by decide))];omega
 unfold inn
 conv=>lhs;rw [h1]
 rw [Nat.xor_assoc,Nat.xor_comm _ x,<- Nat.xor_assoc,zf1,zf0]
end Go.Crc
end
section
namespace Go.Log
open Go.Crc (mor zcv)
def be:Nat -> Nat -> List Nat
 | 0,_=>[]
 | k + 1,n=>n / 256 ^ k % 256 :: be k n
theorem zu (k n:Nat):(be k n).length=k:=by
 induction k with
 | zero=>rfl
 | succ k ih=>simp [be,ih]
theorem z18 (k n:Nat):∀ x ∈ be k n,x < 256:=by
 induction k with
 | zero=>intro x hx;cases hx
 | succ k ih =>
  intro x hx;rcases List.mem_cons.1 hx with rfl | hx
  ·exact Nat.mod_lt _ (by decide)
  ·exact ih x hx
theorem be_add (k n q:Nat):be k (n + 256 ^ k * q)=be k n:=by
 induction k generalizing q with
 | zero=>rfl
 | succ k ih =>
  have e:n + 256 ^ (k + 1) * q=n + 256 ^ k * (256 * q):=by rw [Nat.pow_succ,Nat.mul_assoc]
  rw [e];unfold be;rw [ih (256 * q),Nat.add_mul_div_left _ _ (Nat.pow_pos (by decide)),Nat.add_mul_mod_self_left]
def num (l:List Nat):Nat:=l.foldl (fun a x=>256 * a + x) 0
theorem zeh (l:List Nat) (a:Nat):l.foldl (fun a x=>256 * a + x) a=256 ^ l.length * a + num l:=by
 unfold num
 induction l generalizing a with
 | nil=>simp
 | cons x l ih =>
  rw [List.foldl_cons,List.foldl_cons,ih,ih (256 * 0 + x),List.length_cons,Nat.pow_succ];simp only [Nat.mul_zero,Nat.zero_add,Nat.mul_add];rw [Nat.mul_assoc];omega
theorem z4b (x:Nat) (l:List Nat):num (x :: l)=256 ^ l.length * x + num l:=by
 have:=zeh l (256 * 0 + x);simp only [Nat.mul_zero,Nat.zero_add] at this;rw [<- this];unfold num;simp
theorem z3y {l:List Nat} (h:∀ x ∈ l,x < 256):num l < 256 ^ l.length:=by
 induction l with
 | nil=>simp [num]
 | cons x l ih =>
  rw [z4b,List.length_cons,Nat.pow_succ];have h1:=ih (fun y hy=>h y (by simp [hy]));have h2:x <= 255:=by have:=h x (by simp);omega
  have h3:=Nat.mul_le_mul_left (256 ^ l.length) h2;omega
theorem z3x (k n:Nat):num (be k n)=n % 256 ^ k:=by
 induction k with
 | zero=>rw [Nat.pow_zero,Nat.mod_one];rfl
 | succ k ih =>
  unfold be;rw [z4b,zu,ih,Nat.pow_succ,Nat.mod_mul];omega
theorem zcd {l:List Nat} (h:∀ x ∈ l,x < 256):be l.length (num l)=l:=by
 induction l with
 | nil=>rfl
 | cons x l ih =>
  have h1:=z3y (fun y hy=>h y (List.mem_cons_of_mem _ hy));have hx:x < 256:=h x (by simp);rw [z4b,List.length_cons];unfold be;rw [Nat.add_comm,be_add,ih (fun y hy=>h y (by simp [hy])),Nat.add_mul_div_left _ _ (Nat.pow_pos (by decide)),Nat.div_eq_of_lt h1,Nat.zero_add,Nat.mod_eq_of_lt hx]
def csum (l:List Nat):Nat:=mor 0 l
theorem z3v (l:List Nat):csum l < 4294967296:=zcv _ _
def mxr:Nat:=1048576
def recd (b:List Nat):List Nat:=be 4 b.length ++ (be 4 (csum (be 4 b.length ++ b)) ++ b)
theorem zw (b:List Nat):(recd b).length=8 + b.length:=by simp [recd,zu];omega
theorem zbn {b:List Nat} (h:∀ x ∈ b,x < 256):∀ x ∈ recd b,x < 256:=by
 intro x hx;simp only [recd,List.mem_append] at hx;rcases hx with hx | hx | hx
 ·exact z18 _ _ x hx
 ·exact z18 _ _ x hx
 ·exact h x hx
def items:Nat -> Nat -> List Nat -> List (Int × List Nat)
 | 0,_,_=>[]
 | f + 1,at',b=>if b.length < 8 then [] else if b.length - 8 < num (b.take 4) then [] else
  if mxr < num (b.take 4) \/ csum (b.take 4 ++ (b.drop 8).take (num (b.take 4))) ≠ num ((b.drop 4).take 4) then [(-1,[])]
  else (((at' + 8 + num (b.take 4):Nat):Int),(b.drop 8).take (num (b.take 4))) :: items f (at' + 8 + num (b.take 4)) (b.drop (8 + num (b.take 4)))
theorem z2j:∀ (f at':Nat) (b:List Nat),(items f at' b).length * 8 <= b.length + 8
 | 0,_,_=>by simp [items]
 | f + 1,at',b=>by
  unfold items;split
  ·simp
  ·
   split
   ·simp
   ·
    split
    ·simp
    ·have:=z2j f (at' + 8 + num (b.take 4)) (b.drop (8 + num (b.take 4)));rw [List.length_drop] at this;rw [List.length_cons];omega
def good (l:List (Int × List Nat)):List (Int × List Nat):=l.takeWhile fun p=>decide (0 <= p.1)
def wholeI (l:List (Int × List Nat)):List (List Nat) × Nat × Bool:=((good l).map Prod.snd,(((good l).getLast?.map Prod.fst).getD 0).toNat,decide ((good l).length=l.length))
def whole (b:List Nat):List (List Nat) × Nat × Bool:=wholeI (items (b.length + 1) 0 b)
def enc (l:List (List Nat)):List Nat:=l.flatMap recd
theorem z1a (x:List Nat) (l:List (List Nat)):enc (x :: l)=recd x ++ enc l:=by simp [enc]
theorem z1e (a b:List (List Nat)):enc (a ++ b)=enc a ++ enc b:=by simp [enc]
def Recs (l:List (List Nat)):Prop:=∀ b ∈ l,b.length <= mxr /\ ∀ x ∈ b,x < 256
theorem Recs.tail {x:List Nat} {l:List (List Nat)} (h:Recs (x :: l)):Recs l:=fun b hb=>h b (by simp [hb])
theorem Recs.append {a b:List (List Nat)} (ha:Recs a) (hb:Recs b):Recs (a ++ b):=fun x hx=>(List.mem_append.1 hx).elim (ha x) (hb x)
theorem Recs.take {a:List (List Nat)} (h:Recs a) (n:Nat):Recs (a.take n):=fun x hx=>h x (List.mem_of_mem_take hx)
def ends:Nat -> List (List Nat) -> List (Int × List Nat)
 | _,[]=>[]
 | at',x :: l=>(((at' + 8 + x.length:Nat):Int),x) :: ends (at' + 8 + x.length) l
theorem zdz (at':Nat) (l:List (List Nat)):(ends at' l).map Prod.snd=l:=by
 induction l generalizing at' with
 | nil=>rfl
 | cons x l ih=>simp [ends,ih]
theorem zcj (at':Nat) (l:List (List Nat)):good (ends at' l)=ends at' l:=by
 unfold good
 induction l generalizing at' with
 | nil=>rfl
 | cons x l ih=>rw [ends,List.takeWhile_cons,if_pos (by simp;omega),ih]
theorem zck (at':Nat) (l:List (List Nat)):(((ends at' l).getLast?.map Prod.fst).getD (at':Int)).toNat=at' + (enc l).length:=by
 induction l generalizing at' with
 | nil=>simp [ends,enc]
 | cons x l ih =>
  have:=ih (at' + 8 + x.length);rw [z1a,List.length_append,zw,ends,List.getLast?_cons];cases h:(ends (at' + 8 + x.length) l).getLast? with
  | none=>rw [h] at this;simp at this ⊢;omega
  | some p=>rw [h] at this;simp at this ⊢;omega
theorem z9z (l:List (List Nat)):wholeI (ends 0 l)=(l,(enc l).length,true):=by
 unfold wholeI;rw [zcj,zdz];have:=zck 0 l;simp only [Nat.zero_add,Int.ofNat_zero,Int.natCast_zero] at this;simp [this]
theorem z7u:∀ (l:List (List Nat)),Recs l -> ∀ (f at' m:Nat),m <= (enc l).length -> m < f ->
  ∃ j,j <= l.length /\ items f at' ((enc l).take m)=ends at' (l.take j) /\ (enc (l.take j)).length <= m /\ (j < l.length -> m < (enc (l.take (j + 1))).length)
 | [],_,f,at',m,hm,hf=>by
  obtain ⟨f,rfl⟩:∃ g,f=g + 1:=⟨f - 1,by omega⟩
  refine ⟨0,Nat.le_refl _,?_,by simp [enc],fun h=>by simp at h⟩;have:m=0:=by simpa [enc] using hm
  subst this;simp [items,ends]
 | x :: l,h,f,at',m,hm,hf=>by
  obtain ⟨f,rfl⟩:∃ g,f=g + 1:=⟨f - 1,by omega⟩
  have hx:=h x (by simp);have hx1:x.length < 4294967296:=by have:=hx.1;unfold mxr at this;omega
  have hlen:((enc (x :: l)).take m).length=m:=by rw [List.length_take];omega
  rw [z1a,List.length_append,zw] at hm;have h4:8 <= m -> ((enc (x :: l)).take m).take 4=be 4 x.length:=fun h8=>by
   rw [List.take_take,Nat.min_eq_left (by omega),z1a,recd,List.append_assoc,List.take_left' (zu _ _)]
  have hn:8 <= m -> num (((enc (x :: l)).take m).take 4)=x.length:=fun h8=>by
   rw [h4 h8,z3x];exact Nat.mod_eq_of_lt hx1
  have zero:m < 8 + x.length -> ∃ j,j <= (x :: l).length /\ ([]:List (Int × List Nat))=ends at' ((x :: l).take j) /\ (enc ((x :: l).take j)).length <= m /\ (j < (x :: l).length -> m < (enc ((x :: l).take (j + 1))).length):=fun h8 =>
   ⟨0,Nat.zero_le _,rfl,by simp [enc],fun _=>by simp [enc,zw];omega⟩
  unfold items;rw [hlen];by_cases h8:m < 8
  ·rw [if_pos h8];exact zero (by omega)
  ·
   rw [if_neg h8,hn (by omega)];by_cases h9:m - 8 < x.length
   ·rw [if_pos h9];exact zero (by omega)
   ·
    rw [if_neg h9];have hd8:((enc (x :: l)).take m).drop 8=(x ++ enc l).take (m - 8):=by
     rw [List.drop_take,z1a,recd,<- List.append_assoc,List.append_assoc,List.drop_left' (by simp [zu])]
    have hd4:((enc (x :: l)).take m).drop 4=(be 4 (csum (be 4 x.length ++ x)) ++ (x ++ enc l)).take (m - 4):=by
     rw [List.drop_take,z1a,recd,List.append_assoc,List.drop_left' (zu _ _),List.append_assoc]
    have hx8:(((enc (x :: l)).take m).drop 8).take x.length=x:=by
     rw [hd8,List.take_take,Nat.min_eq_left (by omega),List.take_left' rfl]
    have hs4:num ((((enc (x :: l)).take m).drop 4).take 4)=csum (be 4 x.length ++ x):=by
     rw [hd4,List.take_take,Nat.min_eq_left (by omega),List.take_left' (zu _ _),z3x];exact Nat.mod_eq_of_lt (z3v _)
    rw [h4 (by omega),hx8,hs4,if_neg (by have:=hx.1;simp;omega)];have hdr:((enc (x :: l)).take m).drop (8 + x.length)=(enc l).take (m - (8 + x.length)):=by
     rw [List.drop_take,z1a,List.drop_left' (zw x)]
    obtain ⟨j,h1,h2,h3,h5⟩:=z7u l h.tail f (at' + 8 + x.length) (m - (8 + x.length)) (by omega) (by omega);refine ⟨j + 1,by simpa using h1,?_,?_,fun hj=>?_⟩
    ·rw [hdr,h2];rfl
    ·rw [List.take_succ_cons,z1a,List.length_append,zw];omega
    ·rw [List.take_succ_cons,z1a,List.length_append,zw];have:=h5 (by simpa using hj);omega
theorem z8b {l:List (List Nat)} (h:Recs l) {m:Nat} (hm:m <= (enc l).length) :
  ∃ j,j <= l.length /\ whole ((enc l).take m)=(l.take j,(enc (l.take j)).length,true) /\ (enc (l.take j)).length <= m /\ (j < l.length -> m < (enc (l.take (j + 1))).length):=by
 obtain ⟨j,h1,h2,h3,h4⟩:=z7u l h ((enc l).take m).length.succ 0 m hm (by rw [List.length_take];omega);exact ⟨j,h1,by rw [<- z9z,<- h2];rfl,h3,h4⟩
theorem z1b {l:List (List Nat)} {i j:Nat} (h:i <= j):(enc (l.take i)).length <= (enc (l.take j)).length:=by
 have e:l.take j=l.take i ++ (l.take j).drop i:=by
  have:=(List.take_append_drop i (l.take j)).symm
  rwa [List.take_take,Nat.min_eq_left h] at this
 rw [e,z1e,List.length_append];omega
theorem z5d {l:List (List Nat)} (h:Recs l):whole (enc l)=(l,(enc l).length,true):=by
 obtain ⟨j,h1,h2,h3,h4⟩:=z8b h (Nat.le_refl _);rw [List.take_of_length_le (Nat.le_refl _)] at h2;have hj:j=l.length:=by
  rcases Nat.lt_or_ge j l.length with hl | hl
  ·have:=h4 hl;have h5:=z1b (l:=l) (show j + 1 <= l.length from hl);rw [List.take_length] at h5;omega
  ·omega
 rw [hj,List.take_length] at h2;exact h2
end Go.Log
end
section
namespace Go.Proofs.YtpjomdmjohjheaaGreatDoor
open Go.RowKit Go.Lk Go.Crc
def Z38:Array Value:=Array.replicate 256 (.int .u32 0)
theorem zero38:(Tryz.prog.info? 151).map (·.zero)=some (some (.agg Z38)):=by kernel_rfl
theorem agg38:AggT Tryz.prog 151 256:=⟨by kernel_rfl,by kernel_rfl⟩
def Tab (f:Nat -> Nat) (k:Nat) (cs:Array Value):Prop:=cs.size=256 /\ (∀ v ∈ cs.toList,v.oneCell'=true) /\ ∀ i,i < k -> cs[i]?=some (.int .u32 (f i:Nat))
theorem Tab.set {f:Nat -> Nat} {k:Nat} {cs:Array Value} (h:Tab f k cs) (hk:k < 256):Tab f (k + 1) (cs.setIfInBounds k (.int .u32 (f k:Nat))):=by
 obtain ⟨h1,h2,h3⟩:=h;refine ⟨by simpa using h1,fun v hv=>?_,fun i hi=>?_⟩
 ·
  rw [Array.toList_setIfInBounds] at hv;rcases List.mem_or_eq_of_mem_set hv with h | rfl
  ·exact h2 v h
  ·rfl
 ·
  rw [Array.getElem?_setIfInBounds];split
  ·rename_i e;subst e;rw [if_pos (by omega)]
  ·exact h3 i (by omega)
theorem Tab.zero (f:Nat -> Nat):Tab f 0 Z38:=⟨by rw [Z38,Array.size_replicate],fun v hv=>by rw [Z38,Array.toList_replicate] at hv;rw [List.eq_of_mem_replicate hv];rfl,fun i hi=>by omega⟩
theorem xor32 {a b:Nat} (ha:a < 2 ^ 32) (hb:b < 2 ^ 32):bits .xor .u32 (a:Int) (b:Int)=((a ^^^ b:Nat):Int):=u32_xor_nat a b ha hb
theorem and1 {r:Nat} (hr:r < 2 ^ 32):bits .and .u32 (r:Int) 1=((r % 2:Nat):Int):=by
 rw [show (1:Int)=((1:Nat):Int) from rfl,u32_and_nat r 1 hr (by decide),Nat.and_one_is_mod]
theorem zez {r:Nat} (hr:r < 2 ^ 32) :
  bits .xor .u32 ((r:Int) / 2) (bits .and .u32 2197175160 (-bits .and .u32 (r:Int) 1 % 4294967296))=((stp r:Nat):Int):=by
 rw [and1 hr,show ((r:Int) / 2)=((r / 2:Nat):Int) by omega];rcases Nat.mod_two_eq_zero_or_one r with h | h
 ·rw [h,show (-((0:Nat):Int) % 4294967296)=((0:Nat):Int) by decide,show (2197175160:Int)=((2197175160:Nat):Int) from rfl,u32_and_nat _ _ (by decide) (by decide),Nat.and_zero,xor32 (by omega) (by decide),Nat.xor_zero];unfold stp;rw [if_neg (by omega),Nat.xor_zero]
 ·rw [h,show (-((1:Nat):Int) % 4294967296)=((4294967295:Nat):Int) by decide,show (2197175160:Int)=((2197175160:Nat):Int) from rfl,u32_and_nat _ _ (by decide) (by decide),show 2197175160 &&& 4294967295=2197175160 by decide,xor32 (by omega) (by decide)];unfold stp;rw [if_pos h];rfl
def IsTab (w:World) (e:Ending) (w':World):Prop:=∃ cs,Tab (stps 8) 256 cs /\ e=.returned (.agg cs) /\ Keeps Nb w w'
theorem zf5 (w:World):Calls Tryz.prog 141 #[] w (IsTab w):=by
 go_enter Tryz.func141,Tryz.ntmps141;go_wp2_with (refine z66 zero38 ?_)
 go_loopw [4] (fun i wr=>∃ (k:Nat) (cs:Array Value),k <= 256 /\ i=.int .i64 k /\ wr.heap[w.heap.size]?=some (.cells cs 151 (0,0)) /\ Tab (stps 8) k cs /\ Keeps Nb w wr) (fun i _=>256 - (intOf i).toNat)
 case atStart=>exact ⟨0,Z38,by omega,rfl,z2e _ _,Tab.zero _,(Keeps.refl _ _).alloc _⟩
 case round =>
  obtain ⟨k,cs,hk,rfl,hb,ht,K⟩:=hrel;by_cases hlt:k < 256
  ·
   obtain ⟨v0,hc⟩:∃ v,wr.cell? ⟨w.heap.size,k,none⟩=some v:=⟨_,by rw [cell_of_block hb,Array.getElem?_eq_getElem (by rw [ht.1];exact hlt)]⟩
   have hf:wr.frozen? ⟨w.heap.size,k,none⟩=false:=z4j hb;have HT:=qq ht;have HB:=qq hb;clear ht hb;go_wp2
   go_loop [2,9] (fun r i=>∃ j:Nat,j <= 8 /\ i=.int .i64 j /\ r=.int .u32 (stps j k:Nat)) (fun _ i=>8 - (intOf i).toNat)
   case atStart=>exact ⟨0,by omega,rfl,rfl⟩
   case round =>
    obtain ⟨j,hj,rfl,rfl⟩:=hrel;have hr:=z5o j (show k < 2 ^ 32 by omega);have HS:=qq (z88 j k);by_cases hlj:j < 8
    ·
     generalize stps j k=r at *;go_wp2;go_round
     case rel=>exact ⟨j + 1,by omega,by go_num,by rw [HS.out,zez hr]⟩
     case measure=>simp [intOf];omega
    ·
     obtain rfl:j=8:=by omega
     go_wp2;go_roundw
     case rel=>exact ⟨k + 1,_,by omega,by go_num,block_setCell HB.out _,HT.out.set hlt,K.setCell (p:=⟨w.heap.size,k,none⟩) (fun h=>absurd h (Nat.lt_irrefl _)) _⟩
     case measure=>simp [intOf];omega
  ·
   obtain rfl:k=256:=by omega
   go_wp2_with (first | (refine zbz agg38 rfl hb ht.1 ?_) | (refine z5t (ds:=cs) agg38.size rfl rfl hb ht.1 ht.1 ht.2.1 ?_))
   refine bodyPost_ret (z9t agg38 rfl _ rfl (setRow_heap wr w.heap.size cs cs 151 (0,0) hb) ht.1) rfl ⟨cs,ht,rfl,K.setRow (fun h=>absurd h (Nat.lt_irrefl _)) _⟩
theorem xor8 {a b:Nat} (ha:a < 256) (hb:b < 256):bits .xor .u8 (a:Int) (b:Int)=((a ^^^ b:Nat):Int):=u8_xor_nat a b ha hb
theorem in_at (r n cap:Nat) (a:Option Addr) (l:List Nat) (w:World) (hr:r < 2 ^ 32) (hn:n=l.length) (hl:ReadsN .u8 w a l) (hb:Bytes l) (hm:l.length <= 16777216) :
  Calls Tryz.prog 99 #[.int .u32 r,.slice a n cap] w fun e w'=>e=.returned (.int .u32 (inns r l:Nat)) /\ Keeps Nb w w':=by
 subst hn;go_enter Tryz.func99,Tryz.ntmps99;go_wp2_with fail;refine (zf5 _).mono ?_;rintro e w1 ⟨cs,ht,rfl,K⟩;have hb1:=z2e w1 (.cells Z38 151);go_wp2_with (first | (refine z66 zero38 ?_) | (refine z5t (ds:=cs) (g:=w1.heap.size) agg38.size rfl rfl hb1 ht.1 (Tab.zero (stps 8)).1 ht.2.1 ?_))
 have hb2:=setRow_heap (w1.alloc (.cells Z38 151)) w1.heap.size Z38 cs 151 (0,0) hb1;have K2:=(K.alloc (.cells Z38 151)).setRow (g:=w1.heap.size) (fun h=>absurd h (by have:=K.size;omega)) cs;generalize (w1.alloc (.cells Z38 151)).setRow w1.heap.size cs=w2 at *;generalize w1.heap.size=g at *;replace hl:=hl.nb K2;clear hb1 K
 go_loop [0,11] (fun x i=>∃ k:Nat,k <= l.length /\ i=.int .i64 k /\ x=.int .u32 (inns r (l.take k):Nat)) (fun _ i=>l.length - (intOf i).toNat)
 case atStart=>exact ⟨0,by omega,rfl,rfl⟩
 case round =>
  obtain ⟨k,hk,rfl,rfl⟩:=hrel;by_cases hlt:k < l.length
  ·
   have hr':=z7a hr (hb.take k);rcases hl with rfl | ⟨b,off,rfl,hc⟩
   ·simp at hlt
   have hck:=hc k hlt;have hx:ntn l k < 256:=hb _ (z1x hlt);have HS:Hid (inns r (l.take (k + 1))=inn (inns r (l.take k)) (ntn l k)):=by show _=_;rw [z2y hlt,z3p];rfl
   clear hc;generalize inns r (l.take k)=x at *;generalize ntn l k=c at *;have hj:x % 256 ^^^ c < 2 ^ 8:=Nat.xor_lt_two_pow (by omega) (by omega);have e1:bits .xor .u8 ((x:Int) % 256) (c:Int)=((x % 256 ^^^ c:Nat):Int):=by rw [<- xor8 (by omega) hx];congr 1
   have hcell:w2.cell? ⟨g,x % 256 ^^^ c,none⟩=some (.int .u32 (stps 8 (x % 256 ^^^ c):Nat)):=by rw [cell_of_block hb2];exact ht.2.2 _ hj
   have HI:=qq (zg1 (r:=x) (x:=c));have hs:=z5o 8 (show x % 256 ^^^ c < 2 ^ 32 by omega);have HT:=qq ht;have HB:=qq hb2;clear ht hb2;generalize x % 256 ^^^ c=j at *;go_wp2;go_round
   case rel =>
    refine ⟨k + 1,by omega,by go_num,z1o ?_⟩;rw [HS.out,HI.out,<- xor32 hs (by omega)];congr 1
   case measure=>simp [intOf];omega
  ·go_wp2;go_ret;exact ⟨z34 (by rw [List.take_of_length_le (by omega)]),K2⟩
theorem zfp {s:Nat} (hs:s < 2 ^ 32):4294967295 ^^^ s=cpl s:=by
 unfold cpl;rw [show 4294967295 - s=2 ^ 32 - (s + 1) by omega];apply Nat.eq_of_testBit_eq;intro i;rw [Nat.testBit_two_pow_sub_succ hs,Nat.testBit_xor,show 4294967295=2 ^ 32 - 1 by rfl,Nat.testBit_two_pow_sub_one];by_cases h:i < 32
 ·simp [h]
 ·rw [Nat.testBit_lt_two_pow (Nat.lt_of_lt_of_le hs (Nat.pow_le_pow_right (by decide) (by omega)))];simp [h]
theorem zdv {s:Nat} (hs:s < 2 ^ 32):bits .xor .u32 IntKind.u32.max (s:Int)=((cpl s:Nat):Int):=by
 rw [show IntKind.u32.max=((4294967295:Nat):Int) from rfl,u32_xor_nat _ _ (by decide) hs,zfp hs]
def nrow (ls:List (List Nat)) (i:Nat):List Nat:=ls.getD i []
theorem z7f {ls:List (List Nat)} {i:Nat} (h:i < ls.length):nrow ls i=ls[i]:=by simp [nrow,h]
def RowsN (w:World) (a:Option Addr) (ls:List (List Nat)):Prop :=
 ls=[] \/ ∃ b off,a=some ⟨b,off,none⟩ /\ ∀ i,i < ls.length -> ∃ (a':Option Addr) (c:Nat),w.cell? ⟨b,off + i,none⟩=some (.slice a' (nrow ls i).length c) /\ (nrow ls i).length <= c /\ ReadsN .u8 w a' (nrow ls i)
theorem RowsN.nb {w w':World} {a:Option Addr} {ls:List (List Nat)} (h:RowsN w a ls) (hk:Keeps Nb w w'):RowsN w' a ls:=by
 rcases h with h | ⟨b,off,ha,h⟩
 ·exact .inl h
 ·refine .inr ⟨b,off,ha,fun i hi=>?_⟩;obtain ⟨a',c,h1,h2,h3⟩:=h i hi;exact ⟨a',c,(hk.cell (p:=⟨b,off + i,none⟩) (lt_of_cell h1) (fun e=>e)).trans h1,h2,h3.nb hk⟩
def sums (r:Nat) (ls:List (List Nat)):Nat:=ls.foldl inns r
theorem z8a (r:Nat) (ls:List (List Nat)):sums r ls=inns r ls.flatten:=by
 induction ls generalizing r with
 | nil=>rfl
 | cons l ls ih=>show sums (inns r l) ls=_;rw [ih,List.flatten_cons,z3p]
theorem zb1 {r:Nat} {ls:List (List Nat)} (hr:r < 2 ^ 32) (h:∀ l ∈ ls,Bytes l):sums r ls < 2 ^ 32:=by
 rw [z8a];exact z7a hr (fun x hx=>by obtain ⟨l,h1,h2⟩:=List.mem_flatten.1 hx;exact h l h1 x h2)
theorem zbw {l:List (List Nat)} {k:Nat} (h:k < l.length):l.take (k + 1)=l.take k ++ [nrow l k]:=by
 rw [List.take_succ_eq_append_getElem h,z7f h]
theorem sum_at (n cap:Nat) (a:Option Addr) (ls:List (List Nat)) (w:World) (hn:n=ls.length) (hl:RowsN w a ls) (hb:∀ l ∈ ls,Bytes l) (hm:ls.length <= 1000) (hm2:∀ l ∈ ls,l.length <= 16777216) :
  Calls Tryz.prog 42 #[.slice a n cap] w fun e w'=>e=.returned (.int .u32 (mor 0 ls.flatten:Nat)) /\ Keeps Nb w w':=by
 subst hn;have e2:bits .xor .u32 IntKind.u32.max ((sums 4294967295 ls:Nat):Int)=((mor 0 ls.flatten:Nat):Int):=by
  rw [zdv (zb1 (by decide) hb),z8a];rfl
 have E2:=qq e2;clear e2;go_enter Tryz.func42,Tryz.ntmps42;go_wp2
 go_loopw [3,8] (fun x i wr=>∃ k:Nat,k <= ls.length /\ i=.int .i64 k /\ x=.int .u32 (sums 4294967295 (ls.take k):Nat) /\ Keeps Nb w wr) (fun _ i _=>ls.length - (intOf i).toNat)
 case atStart=>exact ⟨0,by omega,rfl,rfl,Keeps.refl _ _⟩
 case round =>
  obtain ⟨k,hk,rfl,rfl,K⟩:=hrel;have hr':=zb1 (show 4294967295 < 2 ^ 32 by decide) (fun l hl=>hb l (List.mem_of_mem_take hl)) (ls:=ls.take k);by_cases hlt:k < ls.length
  ·
   rcases hl.nb K with rfl | ⟨b,off,rfl,hc⟩
   ·simp at hlt
   obtain ⟨a',c,hck,hcc,hrd⟩:=hc k hlt;have hmem:nrow ls k ∈ ls:=by rw [z7f hlt];exact List.getElem_mem hlt
   have HS:Hid (sums 4294967295 (ls.take (k + 1))=inns (sums 4294967295 (ls.take k)) (nrow ls k)):=by show _=_;rw [zbw hlt];simp [sums]
   have C:=qq (in_at (sums 4294967295 (ls.take k)) (nrow ls k).length c a' (nrow ls k) wr hr' rfl hrd (hb _ hmem) (hm2 _ hmem));clear hc hrd hl;generalize sums 4294967295 (ls.take k)=x at *;generalize nrow ls k=row at *;go_wp2_with fail;refine C.out.mono ?_;rintro e w' ⟨rfl,K2⟩;go_wp2;go_roundw
   case rel=>exact ⟨k + 1,by omega,by go_num,by rw [HS.out],K.trans_nb K2⟩
   case measure=>simp [intOf];omega
  ·rw [List.take_of_length_le (by omega)];have e2:=E2.out;generalize sums 4294967295 ls=x at *;go_wp2;go_ret;exact ⟨rfl,K⟩
end Go.Proofs.YtpjomdmjohjheaaGreatDoor
end
section
namespace Go.Proofs
open Go.Shelf
def Tryz.lays103_ren:Go.Shelf.Ren:=⟨fun | 103=>146 | 210=>163 | 206=>189 | n=>n,fun | 9=>9 | 4=>4 | 24=>158 | 3=>3 | n=>n,fun | n=>n⟩
theorem Tryz.lays103:Go.Proofs.Lays.n103 Tryz.prog Tryz.lays103_ren:={
 mixed:=by kernel_rfl
 f103:=Tryz.func146.trans (congrArg some (by kernel_rfl))
 f206:=Tryz.func189.trans (congrArg some (by kernel_rfl))
 f210:=Tryz.func163.trans (congrArg some (by kernel_rfl))
 t3:=Tryz.underlying3
 a3:=Tryz.isAgg3
 z3:=Tryz.sizeOf3
 v3:=Tryz.zeroValue3
 t4:=Tryz.underlying4
 a4:=Tryz.isAgg4
 z4:=Tryz.sizeOf4
 v4:=Tryz.zeroValue4
 t9:=Tryz.underlying9
 a9:=Tryz.isAgg9
 z9:=Tryz.sizeOf9
 v9:=Tryz.zeroValue9
 t24:=Tryz.underlying158
 a24:=Tryz.isAgg158
 z24:=Tryz.sizeOf158
 v24:=Tryz.zeroValue158 }
def Tryz.laysM171_ren:Go.Shelf.Ren:=⟨fun | 171=>113 | 243=>148 | 246=>166 | 283=>195 | 284=>196 | 285=>197 | 286=>198 | 129=>177 | 317=>212 | 318=>213 | 319=>214 | 320=>215 | 337=>220 | 338=>221 | n=>n,fun | 3=>3 | 9=>9 | 2=>2 | 4=>4 | 171=>199 | 0=>0 | 53=>80 | 37=>22 | 5=>5 | 173=>201 | 212=>218 | 51=>81 | 20=>20 | 213=>219 | 46=>125 | 232=>229 | 233=>230 | n=>n,fun | 17=>3 | 18=>4 | 19=>5 | n=>n⟩
theorem Tryz.laysM171:Go.Proofs.LaysM.n171 Tryz.prog Tryz.laysM171_ren:={
 mixed:=by kernel_rfl
 f129:=Tryz.func177.trans (congrArg some (by kernel_rfl))
 f171:=Tryz.func113.trans (congrArg some (by kernel_rfl))
 f243:=Tryz.func148.trans (congrArg some (by kernel_rfl))
 f246:=Tryz.func166.trans (congrArg some (by kernel_rfl))
 f283:=Tryz.func195.trans (congrArg some (by kernel_rfl))
 f284:=Tryz.func196.trans (congrArg some (by kernel_rfl))
 f285:=Tryz.func197.trans (congrArg some (by kernel_rfl))
 f286:=Tryz.func198.trans (congrArg some (by kernel_rfl))
 f317:=Tryz.func212.trans (congrArg some (by kernel_rfl))
 f318:=Tryz.func213.trans (congrArg some (by kernel_rfl))
 f319:=Tryz.func214.trans (congrArg some (by kernel_rfl))
 f320:=Tryz.func215.trans (congrArg some (by kernel_rfl))
 f337:=Tryz.func220.trans (congrArg some (by kernel_rfl))
 f338:=Tryz.func221.trans (congrArg some (by kernel_rfl))
 t0:=Tryz.underlying0
 a0:=Tryz.isAgg0
 z0:=Tryz.sizeOf0
 v0:=Tryz.zeroValue0
 t2:=Tryz.underlying2
 a2:=Tryz.isAgg2
 z2:=Tryz.sizeOf2
 v2:=Tryz.zeroValue2
 t3:=Tryz.underlying3
 a3:=Tryz.isAgg3
 z3:=Tryz.sizeOf3
 v3:=Tryz.zeroValue3
 t4:=Tryz.underlying4
 a4:=Tryz.isAgg4
 z4:=Tryz.sizeOf4
 v4:=Tryz.zeroValue4
 t5:=Tryz.underlying5
 a5:=Tryz.isAgg5
 z5:=Tryz.sizeOf5
 v5:=Tryz.zeroValue5
 t9:=Tryz.underlying9
 a9:=Tryz.isAgg9
 z9:=Tryz.sizeOf9
 v9:=Tryz.zeroValue9
 t20:=Tryz.underlying20
 a20:=Tryz.isAgg20
 z20:=Tryz.sizeOf20
 v20:=Tryz.zeroValue20
 t37:=Tryz.underlying22
 a37:=Tryz.isAgg22
 z37:=Tryz.sizeOf22
 v37:=Tryz.zeroValue22
 t46:=Tryz.underlying125
 a46:=Tryz.isAgg125
 z46:=Tryz.sizeOf125
 v46:=Tryz.zeroValue125
 t51:=Tryz.underlying81
 a51:=Tryz.isAgg81
 z51:=Tryz.sizeOf81
 v51:=Tryz.zeroValue81
 t53:=Tryz.underlying80
 a53:=Tryz.isAgg80
 z53:=Tryz.sizeOf80
 v53:=Tryz.zeroValue80
 t171:=Tryz.underlying199
 a171:=Tryz.isAgg199
 z171:=Tryz.sizeOf199
 v171:=Tryz.zeroValue199
 t173:=Tryz.underlying201
 a173:=Tryz.isAgg201
 z173:=Tryz.sizeOf201
 v173:=Tryz.zeroValue201
 t212:=Tryz.underlying218
 a212:=Tryz.isAgg218
 z212:=Tryz.sizeOf218
 v212:=Tryz.zeroValue218
 t213:=Tryz.underlying219
 a213:=Tryz.isAgg219
 z213:=Tryz.sizeOf219
 t232:=Tryz.underlying229
 a232:=Tryz.isAgg229
 z232:=Tryz.sizeOf229
 v232:=Tryz.zeroValue229
 t233:=Tryz.underlying230
 a233:=Tryz.isAgg230
 z233:=Tryz.sizeOf230
 v233:=Tryz.zeroValue230
 g17:=by kernel_rfl
 g18:=by kernel_rfl
 g19:=by kernel_rfl
 i0:=by kernel_rfl
 i2:=by kernel_rfl
 i3:=by kernel_rfl
 i4:=by kernel_rfl
 i5:=by kernel_rfl
 i9:=by kernel_rfl
 i20:=by kernel_rfl
 i37:=by kernel_rfl
 i46:=by kernel_rfl
 i51:=by kernel_rfl
 i53:=by kernel_rfl
 i171:=by kernel_rfl
 i173:=by kernel_rfl
 i212:=by kernel_rfl
 i232:=by kernel_rfl
 i233:=by kernel_rfl
 m17:=by kernel_rfl
 m18:=by kernel_rfl
 m19:=by kernel_rfl }
def Tryz.laysC172_ren:Go.Shelf.Ren:=⟨fun | 172=>147 | 244=>164 | 245=>165 | 247=>190 | 279=>191 | 280=>192 | 281=>193 | 282=>194 | 287=>209 | 316=>210 | 171=>113 | 205=>211 | 321=>218 | 322=>219 | 243=>148 | 246=>166 | 283=>195 | 284=>196 | 285=>197 | 286=>198 | 129=>177 | 317=>212 | 318=>213 | 319=>214 | 320=>215 | 337=>220 | 338=>221 | n=>n,fun | 9=>9 | 3=>3 | 75=>161 | 76=>162 | 4=>4 | 5=>5 | 167=>193 | 37=>22 | 0=>0 | 85=>194 | 2=>2 | 168=>196 | 53=>80 | 175=>212 | 46=>125 | 210=>215 | 127=>225 | 145=>228 | 143=>226 | 21=>21 | 171=>199 | 173=>201 | 212=>218 | 51=>81 | 20=>20 | 213=>219 | 232=>229 | 233=>230 | 80=>231 | n=>n,fun | 15=>1 | 16=>2 | 17=>3 | 18=>4 | 19=>5 | n=>n⟩
theorem Tryz.laysC172:Go.Proofs.LaysC.n172 Tryz.prog Tryz.laysC172_ren:={
 mixed:=by kernel_rfl
 f129:=Tryz.func177.trans (congrArg some (by kernel_rfl))
 f171:=Tryz.func113.trans (congrArg some (by kernel_rfl))
 f172:=Tryz.func147.trans (congrArg some (by kernel_rfl))
 f205:=Tryz.func211.trans (congrArg some (by kernel_rfl))
 f243:=Tryz.func148.trans (congrArg some (by kernel_rfl))
 f244:=Tryz.func164.trans (congrArg some (by kernel_rfl))
 f245:=Tryz.func165.trans (congrArg some (by kernel_rfl))
 f246:=Tryz.func166.trans (congrArg some (by kernel_rfl))
 f247:=Tryz.func190.trans (congrArg some (by kernel_rfl))
 f279:=Tryz.func191.trans (congrArg some (by kernel_rfl))
 f280:=Tryz.func192.trans (congrArg some (by kernel_rfl))
 f281:=Tryz.func193.trans (congrArg some (by kernel_rfl))
 f282:=Tryz.func194.trans (congrArg some (by kernel_rfl))
 f283:=Tryz.func195.trans (congrArg some (by kernel_rfl))
 f284:=Tryz.func196.trans (congrArg some (by kernel_rfl))
 f285:=Tryz.func197.trans (congrArg some (by kernel_rfl))
 f286:=Tryz.func198.trans (congrArg some (by kernel_rfl))
 f287:=Tryz.func209.trans (congrArg some (by kernel_rfl))
 f316:=Tryz.func210.trans (congrArg some (by kernel_rfl))
 f317:=Tryz.func212.trans (congrArg some (by kernel_rfl))
 f318:=Tryz.func213.trans (congrArg some (by kernel_rfl))
 f319:=Tryz.func214.trans (congrArg some (by kernel_rfl))
 f320:=Tryz.func215.trans (congrArg some (by kernel_rfl))
 f321:=Tryz.func218.trans (congrArg some (by kernel_rfl))
 f322:=Tryz.func219.trans (congrArg some (by kernel_rfl))
 f337:=Tryz.func220.trans (congrArg some (by kernel_rfl))
 f338:=Tryz.func221.trans (congrArg some (by kernel_rfl))
 t0:=Tryz.underlying0
 a0:=Tryz.isAgg0
 z0:=Tryz.sizeOf0
 v0:=Tryz.zeroValue0
 t2:=Tryz.underlying2
 a2:=Tryz.isAgg2
 z2:=Tryz.sizeOf2
 v2:=Tryz.zeroValue2
 t3:=Tryz.underlying3
 a3:=Tryz.isAgg3
 z3:=Tryz.sizeOf3
 v3:=Tryz.zeroValue3
 t4:=Tryz.underlying4
 a4:=Tryz.isAgg4
 z4:=Tryz.sizeOf4
 v4:=Tryz.zeroValue4
 t5:=Tryz.underlying5
 a5:=Tryz.isAgg5
 z5:=Tryz.sizeOf5
 v5:=Tryz.zeroValue5
 t9:=Tryz.underlying9
 a9:=Tryz.isAgg9
 z9:=Tryz.sizeOf9
 v9:=Tryz.zeroValue9
 t20:=Tryz.underlying20
 a20:=Tryz.isAgg20
 z20:=Tryz.sizeOf20
 v20:=Tryz.zeroValue20
 t21:=Tryz.underlying21
 a21:=Tryz.isAgg21
 z21:=Tryz.sizeOf21
 v21:=Tryz.zeroValue21
 t37:=Tryz.underlying22
 a37:=Tryz.isAgg22
 z37:=Tryz.sizeOf22
 v37:=Tryz.zeroValue22
 t46:=Tryz.underlying125
 a46:=Tryz.isAgg125
 z46:=Tryz.sizeOf125
 v46:=Tryz.zeroValue125
 t51:=Tryz.underlying81
 a51:=Tryz.isAgg81
 z51:=Tryz.sizeOf81
 v51:=Tryz.zeroValue81
 t53:=Tryz.underlying80
 a53:=Tryz.isAgg80
 z53:=Tryz.sizeOf80
 v53:=Tryz.zeroValue80
 t75:=Tryz.underlying161
 a75:=Tryz.isAgg161
 z75:=Tryz.sizeOf161
 v75:=Tryz.zeroValue161
 t76:=Tryz.underlying162
 a76:=Tryz.isAgg162
 z76:=Tryz.sizeOf162
 v76:=Tryz.zeroValue162
 t85:=Tryz.underlying194
 a85:=Tryz.isAgg194
 z85:=Tryz.sizeOf194
 v85:=Tryz.zeroValue194
 t127:=Tryz.underlying225
 a127:=Tryz.isAgg225
 z127:=Tryz.sizeOf225
 v127:=Tryz.zeroValue225
 t143:=Tryz.underlying226
 a143:=Tryz.isAgg226
 z143:=Tryz.sizeOf226
 v143:=Tryz.zeroValue226
 t145:=Tryz.underlying228
 a145:=Tryz.isAgg228
 z145:=Tryz.sizeOf228
 v145:=Tryz.zeroValue228
 t167:=Tryz.underlying193
 a167:=Tryz.isAgg193
 z167:=Tryz.sizeOf193
 v167:=Tryz.zeroValue193
 t168:=Tryz.underlying196
 a168:=Tryz.isAgg196
 z168:=Tryz.sizeOf196
 v168:=Tryz.zeroValue196
 t171:=Tryz.underlying199
 a171:=Tryz.isAgg199
 z171:=Tryz.sizeOf199
 v171:=Tryz.zeroValue199
 t173:=Tryz.underlying201
 a173:=Tryz.isAgg201
 z173:=Tryz.sizeOf201
 v173:=Tryz.zeroValue201
 t175:=Tryz.underlying212
 a175:=Tryz.isAgg212
 z175:=Tryz.sizeOf212
 v175:=Tryz.zeroValue212
 t210:=Tryz.underlying215
 a210:=Tryz.isAgg215
 z210:=Tryz.sizeOf215
 v210:=Tryz.zeroValue215
 t212:=Tryz.underlying218
 a212:=Tryz.isAgg218
 z212:=Tryz.sizeOf218
 v212:=Tryz.zeroValue218
 t213:=Tryz.underlying219
 a213:=Tryz.isAgg219
 z213:=Tryz.sizeOf219
 t232:=Tryz.underlying229
 a232:=Tryz.isAgg229
 z232:=Tryz.sizeOf229
 v232:=Tryz.zeroValue229
 t233:=Tryz.underlying230
 a233:=Tryz.isAgg230
 z233:=Tryz.sizeOf230
 v233:=Tryz.zeroValue230
 g15:=by kernel_rfl
 g16:=by kernel_rfl
 g17:=by kernel_rfl
 g18:=by kernel_rfl
 g19:=by kernel_rfl
 t80:=Tryz.underlying231
 a80:=Tryz.isAgg231
 z80:=Tryz.sizeOf231
 v80:=Tryz.zeroValue231
 i0:=by kernel_rfl
 i2:=by kernel_rfl
 i3:=by kernel_rfl
 i4:=by kernel_rfl
 i5:=by kernel_rfl
 i9:=by kernel_rfl
 i20:=by kernel_rfl
 i21:=by kernel_rfl
 i37:=by kernel_rfl
 i46:=by kernel_rfl
 i51:=by kernel_rfl
 i53:=by kernel_rfl
 i75:=by kernel_rfl
 i76:=by kernel_rfl
 i80:=by kernel_rfl
 i85:=by kernel_rfl
 i127:=by kernel_rfl
 i143:=by kernel_rfl
 i145:=by kernel_rfl
 i167:=by kernel_rfl
 i168:=by kernel_rfl
 i171:=by kernel_rfl
 i173:=by kernel_rfl
 i175:=by kernel_rfl
 i210:=by kernel_rfl
 i212:=by kernel_rfl
 i232:=by kernel_rfl
 i233:=by kernel_rfl
 m15:=by kernel_rfl
 m16:=by kernel_rfl
 m17:=by kernel_rfl
 m18:=by kernel_rfl
 m19:=by kernel_rfl
 c0:=by kernel_rfl
 c2:=by kernel_rfl
 c3:=by kernel_rfl
 c4:=by kernel_rfl
 c5:=by kernel_rfl
 c9:=by kernel_rfl
 c20:=by kernel_rfl
 c21:=by kernel_rfl
 c37:=by kernel_rfl
 c46:=by kernel_rfl
 c51:=by kernel_rfl
 c53:=by kernel_rfl
 c75:=by kernel_rfl
 c76:=by kernel_rfl
 c80:=by kernel_rfl
 c85:=by kernel_rfl
 c127:=by kernel_rfl
 c143:=by kernel_rfl
 c145:=by kernel_rfl
 c167:=by kernel_rfl
 c168:=by kernel_rfl
 c171:=by kernel_rfl
 c173:=by kernel_rfl
 c175:=by kernel_rfl
 c210:=by kernel_rfl
 c212:=by kernel_rfl
 c213:=by kernel_rfl
 c232:=by kernel_rfl
 c233:=by kernel_rfl }
def Tryz.laysSlB13_ren:Go.Shelf.Ren:=⟨fun | 13=>98 | 24=>138 | 25=>139 | 12=>140 | 31=>156 | 19=>157 | 20=>158 | 21=>159 | 22=>160 | 23=>161 | 29=>187 | 30=>188 | n=>n,fun | 22=>22 | 3=>3 | 4=>4 | 0=>0 | 5=>5 | 9=>9 | 33=>125 | 40=>191 | 39=>81 | n=>n,fun | 0=>0 | n=>n⟩
theorem Tryz.laysSlB13:Go.Proofs.SlLaysB.n13 Tryz.prog Tryz.laysSlB13_ren:={
 mixed:=by kernel_rfl
 f13:=Tryz.func98.trans (congrArg some (by kernel_rfl))
 f25:=Tryz.func139.trans (congrArg some (by kernel_rfl))
 t0:=Tryz.underlying0
 a0:=Tryz.isAgg0
 z0:=Tryz.sizeOf0
 v0:=Tryz.zeroValue0
 t3:=Tryz.underlying3
 a3:=Tryz.isAgg3
 z3:=Tryz.sizeOf3
 v3:=Tryz.zeroValue3
 t4:=Tryz.underlying4
 a4:=Tryz.isAgg4
 z4:=Tryz.sizeOf4
 v4:=Tryz.zeroValue4
 t5:=Tryz.underlying5
 a5:=Tryz.isAgg5
 z5:=Tryz.sizeOf5
 v5:=Tryz.zeroValue5
 t22:=Tryz.underlying22
 a22:=Tryz.isAgg22
 z22:=Tryz.sizeOf22
 v22:=Tryz.zeroValue22 }
def Tryz.laysSlK4_ren:Go.Shelf.Ren:=⟨fun | 4=>143 | n=>n,fun | 22=>22 | 4=>4 | 5=>5 | n=>n,fun | n=>n⟩
theorem Tryz.laysSlK4:Go.Proofs.SlLaysK.n4 Tryz.prog Tryz.laysSlK4_ren:={
 mixed:=by kernel_rfl
 f4:=Tryz.func143.trans (congrArg some (by kernel_rfl))
 t4:=Tryz.underlying4
 a4:=Tryz.isAgg4
 z4:=Tryz.sizeOf4
 v4:=Tryz.zeroValue4
 t22:=Tryz.underlying22
 a22:=Tryz.isAgg22
 z22:=Tryz.sizeOf22
 v22:=Tryz.zeroValue22
 t5:=Tryz.underlying5
 i5:=by kernel_rfl }
def Tryz.laysSlJ14_ren:Go.Shelf.Ren:=⟨fun | 14=>100 | 15=>142 | n=>n,fun | 26=>27 | 22=>22 | 3=>3 | 4=>4 | 0=>0 | 9=>9 | 20=>20 | 5=>5 | n=>n,fun | n=>n⟩
theorem Tryz.laysSlJ14:Go.Proofs.SlLaysJ.n14 Tryz.prog Tryz.laysSlJ14_ren:={
 mixed:=by kernel_rfl
 f14:=Tryz.func100.trans (congrArg some (by kernel_rfl))
 f15:=Tryz.func142.trans (congrArg some (by kernel_rfl))
 t0:=Tryz.underlying0
 a0:=Tryz.isAgg0
 z0:=Tryz.sizeOf0
 v0:=Tryz.zeroValue0
 t3:=Tryz.underlying3
 a3:=Tryz.isAgg3
 z3:=Tryz.sizeOf3
 v3:=Tryz.zeroValue3
 t4:=Tryz.underlying4
 a4:=Tryz.isAgg4
 z4:=Tryz.sizeOf4
 v4:=Tryz.zeroValue4
 t9:=Tryz.underlying9
 a9:=Tryz.isAgg9
 z9:=Tryz.sizeOf9
 v9:=Tryz.zeroValue9
 t20:=Tryz.underlying20
 a20:=Tryz.isAgg20
 z20:=Tryz.sizeOf20
 v20:=Tryz.zeroValue20
 t22:=Tryz.underlying22
 a22:=Tryz.isAgg22
 z22:=Tryz.sizeOf22
 v22:=Tryz.zeroValue22
 t26:=Tryz.underlying27
 a26:=Tryz.isAgg27
 z26:=Tryz.sizeOf27
 v26:=Tryz.zeroValue27
 t5:=Tryz.underlying5
 z5:=Tryz.sizeOf5
 i5:=by kernel_rfl }
def Tryz.sort119_ren:Go.Shelf.Ren:=⟨fun | 5=>119 | 8=>152 | 7=>151 | 19=>176 | 20=>177 | 10=>167 | 11=>168 | 12=>169 | 13=>170 | 14=>171 | 15=>172 | 16=>173 | 17=>174 | 18=>175 | 30=>199 | 31=>200 | 32=>201 | 33=>202 | 34=>203 | 35=>204 | 40=>216 | n=>n,fun | 23=>35 | 25=>3 | 3=>3 | 32=>125 | 22=>35 | 0=>0 | 44=>81 | 46=>80 | 4=>4 | 36=>176 | 35=>175 | 41=>181 | 5=>5 | 9=>9 | 53=>203 | 57=>207 | 63=>220 | 64=>221 | n=>n,fun | n=>n⟩
theorem Tryz.sort119:Go.Proofs.SlLaysM.n5 Tryz.prog Tryz.sort119_ren:={
 mixed:=by kernel_rfl
 f5:=⟨Tryz.f119.name,by decide,Tryz.func119.trans (congrArg some (by kernel_rfl))⟩
 f7:=⟨Tryz.f151.name,by decide,Tryz.func151.trans (congrArg some (by kernel_rfl))⟩
 f8:=Tryz.func152.trans (congrArg some (by kernel_rfl))
 f10:=⟨Tryz.f167.name,by decide,Tryz.func167.trans (congrArg some (by kernel_rfl))⟩
 f11:=⟨Tryz.f168.name,by decide,Tryz.func168.trans (congrArg some (by kernel_rfl))⟩
 f12:=⟨Tryz.f169.name,by decide,Tryz.func169.trans (congrArg some (by kernel_rfl))⟩
 f13:=⟨Tryz.f170.name,by decide,Tryz.func170.trans (congrArg some (by kernel_rfl))⟩
 f14:=⟨Tryz.f171.name,by decide,Tryz.func171.trans (congrArg some (by kernel_rfl))⟩
 f15:=⟨Tryz.f172.name,by decide,Tryz.func172.trans (congrArg some (by kernel_rfl))⟩
 f16:=⟨Tryz.f173.name,by decide,Tryz.func173.trans (congrArg some (by kernel_rfl))⟩
 f17:=⟨Tryz.f174.name,by decide,Tryz.func174.trans (congrArg some (by kernel_rfl))⟩
 f18:=⟨Tryz.f175.name,by decide,Tryz.func175.trans (congrArg some (by kernel_rfl))⟩
 f19:=Tryz.func176.trans (congrArg some (by kernel_rfl))
 f20:=Tryz.func177.trans (congrArg some (by kernel_rfl))
 f30:=⟨Tryz.f199.name,by decide,Tryz.func199.trans (congrArg some (by kernel_rfl))⟩
 f31:=Tryz.func200.trans (congrArg some (by kernel_rfl))
 f32:=Tryz.func201.trans (congrArg some (by kernel_rfl))
 f33:=⟨Tryz.f202.name,by decide,Tryz.func202.trans (congrArg some (by kernel_rfl))⟩
 f34:=⟨Tryz.f203.name,by decide,Tryz.func203.trans (congrArg some (by kernel_rfl))⟩
 f35:=⟨Tryz.f204.name,by decide,Tryz.func204.trans (congrArg some (by kernel_rfl))⟩
 f40:=⟨Tryz.f216.name,by decide,Tryz.func216.trans (congrArg some (by kernel_rfl))⟩
 t0:=Tryz.underlying0
 a0:=Tryz.isAgg0
 z0:=Tryz.sizeOf0
 v0:=Tryz.zeroValue0
 t3:=Tryz.underlying3
 a3:=Tryz.isAgg3
 z3:=Tryz.sizeOf3
 v3:=Tryz.zeroValue3
 t4:=Tryz.underlying4
 a4:=Tryz.isAgg4
 z4:=Tryz.sizeOf4
 v4:=Tryz.zeroValue4
 t5:=Tryz.underlying5
 a5:=Tryz.isAgg5
 z5:=Tryz.sizeOf5
 v5:=Tryz.zeroValue5
 t9:=Tryz.underlying9
 a9:=Tryz.isAgg9
 z9:=Tryz.sizeOf9
 v9:=Tryz.zeroValue9
 t22:=Tryz.underlying35
 a22:=Tryz.isAgg35
 z22:=Tryz.sizeOf35
 v22:=Tryz.zeroValue35
 t23:=Tryz.underlying35
 a23:=Tryz.isAgg35
 z23:=Tryz.sizeOf35
 v23:=Tryz.zeroValue35
 t25:=Tryz.underlying3
 a25:=Tryz.isAgg3
 z25:=Tryz.sizeOf3
 v25:=Tryz.zeroValue3
 t32:=Tryz.underlying125
 a32:=Tryz.isAgg125
 z32:=Tryz.sizeOf125
 v32:=Tryz.zeroValue125
 t35:=Tryz.underlying175
 a35:=Tryz.isAgg175
 z35:=Tryz.sizeOf175
 v35:=Tryz.zeroValue175
 t36:=Tryz.underlying176
 a36:=Tryz.isAgg176
 z36:=Tryz.sizeOf176
 v36:=Tryz.zeroValue176
 t41:=Tryz.underlying181
 a41:=Tryz.isAgg181
 z41:=Tryz.sizeOf181
 v41:=Tryz.zeroValue181
 t44:=Tryz.underlying81
 a44:=Tryz.isAgg81
 z44:=Tryz.sizeOf81
 v44:=Tryz.zeroValue81
 t46:=Tryz.underlying80
 a46:=Tryz.isAgg80
 z46:=Tryz.sizeOf80
 v46:=Tryz.zeroValue80
 t53:=Tryz.underlying203
 a53:=Tryz.isAgg203
 z53:=Tryz.sizeOf203
 v53:=Tryz.zeroValue203
 t57:=Tryz.underlying207
 a57:=Tryz.isAgg207
 z57:=Tryz.sizeOf207
 v57:=Tryz.zeroValue207
 t63:=Tryz.underlying220
 a63:=Tryz.isAgg220
 z63:=Tryz.sizeOf220
 v63:=Tryz.zeroValue220
 t64:=Tryz.underlying221
 a64:=Tryz.isAgg221
 z64:=Tryz.sizeOf221
 v64:=Tryz.zeroValue221 }
def Tryz.lays110_ren:Go.Shelf.Ren:=⟨fun | 110=>131 | 109=>153 | n=>n,fun | 31=>109 | 9=>9 | 4=>4 | 3=>3 | 0=>0 | n=>n,fun | n=>n⟩
theorem Tryz.lays110:Go.Proofs.Lays.n110 Tryz.prog Tryz.lays110_ren:={
 mixed:=by kernel_rfl
 f109:=Tryz.func153.trans (congrArg some (by kernel_rfl))
 f110:=Tryz.func131.trans (congrArg some (by kernel_rfl))
 t0:=Tryz.underlying0
 a0:=Tryz.isAgg0
 z0:=Tryz.sizeOf0
 v0:=Tryz.zeroValue0
 t3:=Tryz.underlying3
 a3:=Tryz.isAgg3
 z3:=Tryz.sizeOf3
 v3:=Tryz.zeroValue3
 t4:=Tryz.underlying4
 a4:=Tryz.isAgg4
 z4:=Tryz.sizeOf4
 v4:=Tryz.zeroValue4
 t9:=Tryz.underlying9
 a9:=Tryz.isAgg9
 z9:=Tryz.sizeOf9
 v9:=Tryz.zeroValue9
 t31:=Tryz.underlying109
 a31:=Tryz.isAgg109
 z31:=Tryz.sizeOf109
 v31:=Tryz.zeroValue109 }
end Go.Proofs
end
section
namespace Go.Log
open Go.Lk Go.RowKit Go.Vfs
variable {w w':World} {S R R':Nat -> Prop}
def Since (w w':World):Nat -> Prop:=fun k=>w.heap.size <= k /\ k < w'.heap.size
theorem _root_.Go.Vfs.Bytes.takeD {a:Option Addr} {n c:Nat} {l:List Nat} (h:Bytes w R (.slice a n c) l) (k:Nat) (hk:k <= l.length):Bytes w R (.slice a k k) (l.take k):=by
 obtain ⟨a',c',h1,h2,h3,h4,h5,h6⟩:=h;cases h1;exact Bytes.take ⟨_,_,rfl,h2,h3,h4,h5,h6⟩ hk (Nat.le_refl _) (by omega)
theorem _root_.Go.Vfs.Bytes.dropD {a:Option Addr} {n c:Nat} {l:List Nat} (h:Bytes w R (.slice a n c) l) (k:Nat) (hk:k <= l.length) :
  (k=c -> Bytes w R (.slice a (n - k) (c - k)) (l.drop k)) /\ ∀ b off,a=some ⟨b,off,none⟩ -> Bytes w R (.slice (some ⟨b,off + k,none⟩) (n - k) (c - k)) (l.drop k):=by
 obtain ⟨a',c',h1,h2,h3,h4,h5,h6⟩:=h;cases h1;refine ⟨fun e=>⟨a,_,by rw [List.length_drop],by rw [List.length_drop];omega,by omega,.inl (by rw [List.drop_of_length_le (by omega)]),fun z hz=>h5 z (List.mem_of_mem_drop hz),fun b off _ hne=>absurd (by rw [List.drop_of_length_le (by omega)]) hne⟩,?_⟩;rintro b off rfl
 exact ⟨_,_,by rw [List.length_drop],by rw [List.length_drop];omega,by omega,h4.drop k,fun z hz=>h5 z (List.mem_of_mem_drop hz),fun b' off' e hz=>by
  cases e
  exact h6 b off rfl (fun e=>hz (by rw [e];simp))⟩
def SinceB (w w':World):Nat -> Prop:=fun k=>Since w w' k /\ IsT w' 5 k
theorem z0j {base:Nat} {v:Value} {l:List Nat} (h:w.ownsRow base 5 1 v l.length (l.map fun x=>.int .u8 (x:Nat))) (hl:∀ z ∈ l,z < 256):Bytes w (fun k=>(base <= k /\ k < w.heap.size) /\ IsT w 5 k) v l:=by
 obtain ⟨a,c,rfl,h2,h3,h4,h5,h6⟩:=z1p h hl;refine ⟨a,c,rfl,h2,h3,h4,h5,fun b off e hz=>⟨h6 b off e hz,?_⟩⟩;obtain ⟨a2,c2,e2,-,-,-,j⟩:=z05 h;cases e2;exact (j b off e).2.2.2
end Go.Log
namespace Go.Proofs.YtpjomdmjohjheaaGreatDoor
open Go.RowKit Go.Lk Go.Vfs Go.Log
theorem zca (v:Value) (l:List Nat) (R:Nat -> Prop) (w:World) (h:Bytes w R v l) (hl:l.length <= 100000000) :
  Calls Tryz.prog 143 #[v] w fun e w'=>∃ v',e=.returned v' /\ Bytes w' (SinceB w w') v' l /\ Keeps Nb w w':=by
 obtain ⟨a,c,rfl,h2,h3,h4,h5,h6⟩:=h;rcases a with _ | ⟨b,off,sp⟩
 ·
  have hnil:l=[]:=by rcases h4 with h | ⟨_,_,h,_⟩;exact h;cases h
  subst hnil;refine (Go.Proofs.Any.bytes_Clone_nil Tryz.laysSlK4 _ _ w).mono ?_;rintro e w' ⟨rfl,rfl⟩;exact ⟨_,rfl,Bytes.nil _ _,Keeps.refl _ _⟩
 ·
  refine (Go.Proofs.Any.bytes_Clone_at Tryz.laysSlK4 ⟨b,off,sp⟩ l.length c (l.map fun x:Nat=>(x:Int)) w (by simp) (by omega) (fun i hi=>?_)).mono ?_
  ·
   rcases h4 with h | ⟨b',off',e,hc⟩
   ·rw [h] at hi;simp at hi
   ·cases e;rw [Addr.add_lit,hc i hi];simp [ntn,List.getD_eq_getElem?_getD,List.getElem?_eq_getElem hi]
  ·rintro e w' ⟨v',rfl,ho,-,hb⟩;refine ⟨v',rfl,?_,z0v hb⟩;rw [List.map_map] at ho;exact z0j ho h5
def RdAt (w:World) (R:Nat -> Prop) (g:Nat) (l:List Nat):Prop:=∃ v,w.heap[g]?=some (.cells #[v,.bool true] 154 (0,0)) /\ Bytes w R v l /\ ¬ R g
def RdNo (w:World) (g:Nat):Prop:=w.heap[g]?=some (.cells #[.slice none 0 0,.bool false] 154 (0,0))
theorem read_at' (v:Value) (l:List Nat) (R:Nat -> Prop) (w:World) (h:Bytes w R v l) (hl:l.length <= 100000000) :
  Calls Tryz.prog 102 #[v] w fun e w'=>∃ g,e=.returned (.pointer (some ⟨g,0,none⟩)) /\ Keeps Nb w w' /\ RdAt w' (fun k=>SinceB w w' k /\ k ≠ g) g l /\ w.heap.size <= g:=by
 have hb154:∀ (W:World) (a:Option Addr) (n c:Nat),(Instr.build 154 #[(0,.slice a n c),(1,.bool true)]).run Tryz.prog W=.ok (.agg #[.slice a n c,.bool true]) W:=fun _ _ _ _=>by kernel_rfl
 have BC:=qq (zca v l R w h hl);clear h hl;go_enter Tryz.func102,Tryz.ntmps102;go_wp2_with fail;refine BC.out.mono ?_;rintro _ w1 ⟨v',rfl,hb,k1⟩;obtain ⟨a,c,rfl,hq⟩:=hb;have HB:Hid (Bytes w1 (SinceB w w1) (.slice a l.length c) l):=qq ⟨a,c,rfl,hq⟩;clear hq;go_wp2_with (first | go_skip | (with_reducible refine qv (by decide) ?_))
 refine za (vbox rfl ?_);intro g w2 n2;simp only [Nat.reduceAdd,qn];have hg:=n2.ge;have hgl:=n2.lt;have hR:RdAt w2 (fun k=>SinceB w w2 k /\ k ≠ g) g l:=⟨_,n2.blk,(HB.out.keeps n2.k (fun _ _ e=>e)).mono (fun k hk=>⟨⟨⟨hk.1.1,by have:=hk.1.2;omega⟩,hk.2.keeps n2.k (fun e=>e)⟩,by have:=hk.1.2;omega⟩),fun e=>e.2 rfl⟩
 have HR:=qq hR;have K2:=qq (k1.trans_nb n2.k);have HG:Hid (w.heap.size <= g):=qq (by have:=k1.size;omega);clear hR n2 k1 hg hgl;go_wp2;go_ret;exact ⟨g,rfl,K2.out,HR.out,HG.out⟩
theorem z7s (g:Nat) (w:World) (h:RdNo w g):Calls Tryz.prog 105 #[.pointer (some ⟨g,0,none⟩)] w fun e w'=>e=.returned (.bool true) /\ w=w':=by
 have c:w.cell? ⟨g,1,none⟩=some (.bool false):=(cell_of_block h).trans rfl;clear h;go_enter Tryz.func105,Tryz.ntmps105;go_wp2;go_ret;exact ⟨rfl,rfl⟩
theorem z4o (g:Nat) (R:Nat -> Prop) (l:List Nat) (w:World) (h:RdAt w R g l):Calls Tryz.prog 105 #[.pointer (some ⟨g,0,none⟩)] w fun e w'=>e=.returned (.bool false) /\ w=w':=by
 obtain ⟨v,h,-⟩:=h;have c:w.cell? ⟨g,1,none⟩=some (.bool true):=(cell_of_block h).trans rfl;clear h;go_enter Tryz.func105,Tryz.ntmps105;go_wp2;go_ret;exact ⟨rfl,rfl⟩
theorem end_no (g:Nat) (w:World) (h:RdNo w g):Calls Tryz.prog 111 #[.pointer (some ⟨g,0,none⟩)] w fun e w'=>e=.returned (.int .i64 4) /\ w=w':=by
 have c:w.cell? ⟨g,1,none⟩=some (.bool false):=(cell_of_block h).trans rfl;clear h;go_enter Tryz.func111,Tryz.ntmps111;go_wp2;go_ret;exact ⟨rfl,rfl⟩
theorem end_ok (g:Nat) (R:Nat -> Prop) (l:List Nat) (w:World) (h:RdAt w R g l):Calls Tryz.prog 111 #[.pointer (some ⟨g,0,none⟩)] w fun e w'=>e=.returned (.int .i64 (if l=[] then 0 else 4)) /\ w=w':=by
 obtain ⟨v,h,⟨a,cc,rfl,hlc,hcm,-⟩,-⟩:=h;have c:w.cell? ⟨g,1,none⟩=some (.bool true):=(cell_of_block h).trans rfl;have c0:w.cell? ⟨g,0,none⟩=some (.slice a l.length cc):=(cell_of_block h).trans rfl;unfold maxLen at hcm;clear h;cases l with
 | nil =>
  rw [if_pos rfl];simp only [List.length_nil] at c0 hlc;go_enter Tryz.func111,Tryz.ntmps111;go_wp2;go_ret;exact ⟨rfl,rfl⟩
 | cons x l =>
  rw [if_neg (by simp)];simp only [List.length_cons] at c0 hlc;go_enter Tryz.func111,Tryz.ntmps111;go_wp2;go_ret;exact ⟨rfl,rfl⟩
theorem z83 (g n:Nat) (R:Nat -> Prop) (l:List Nat) (w:World) (h:RdAt w R g l) (hn:n <= l.length) :
  Calls Tryz.prog 104 #[.pointer (some ⟨g,0,none⟩),.int .i64 n] w fun e w'=>∃ v,e=.returned v /\ Bytes w' R v (l.take n) /\ RdAt w' R g (l.drop n) /\ Keeps (·=g) w w':=by
 have FO:=qq (z4o g R l w h);obtain ⟨v,hb,hB,hg⟩:=h;obtain ⟨a,cc,rfl,hlc,hcm,-⟩:=id hB;have HB:=qq hB;have HG:=qq hg;have HBL:=qq hb;obtain ⟨m,hm⟩:∃ m,l.length=m:=⟨_,rfl⟩
 rw [hm] at hb hlc hn;have HM:=qq hm;have c0:w.cell? ⟨g,0,none⟩=some (.slice a m cc):=(cell_of_block hb).trans rfl;have hB2:=hB.takeD n (by rw [HM.out];exact hn);have hB3:=hB.dropD n (by rw [HM.out];exact hn);rw [HM.out] at hB3;have HB2:=qq hB2;have HB3:=qq hB3;unfold maxLen at hcm;clear hB hg hb hm hB2 hB3;have ncc:n <= cc:=by omega
 have fin:∀ (v2:Value) (w':World),SetAt w w' g (.cells #[v2,.bool true] 154 (0,0)) -> Bytes w R v2 (l.drop n) -> (Bytes w' R (.slice a n n) (l.take n) /\ RdAt w' R g (l.drop n) /\ Keeps (·=g) w w'):=fun v2 w' s hv =>
  ⟨HB2.out.keeps s.k (fun k hk e=>HG.out (e ▸ hk)),⟨v2,s.blk,hv.keeps s.k (fun k hk e=>HG.out (e ▸ hk)),HG.out⟩,s.k⟩
 have FIN:=qq fin;clear fin;by_cases hc:cc=n
 ·
  have HV:=qq (HB3.out.1 hc.symm);obtain rfl:m=n:=by omega
  subst hc;rw [Nat.sub_self] at HV;clear HB3 ncc hn hlc;go_enter Tryz.func104,Tryz.ntmps104;go_wp2_with fail;refine FO.out.mono ?_;rintro _ _ ⟨rfl,rfl⟩;go_wp2_with (first | go_skip | (with_reducible refine qv (by decide) ?_))
  refine za (zc rfl (zd (v:=.slice a 0 0) (n:=1) (by kernel_rfl) (by rfl) (by rfl) HBL.out (by rfl) (by simp) (by simp [Value.cells,Value.oneCell'])) ?_);intro w2 s2;simp only [Nat.reduceAdd,qn];have F:=qq (FIN.out _ w2 s2 HV.out);clear s2;go_wp2;go_ret;exact ⟨_,rfl,F.out⟩
 ·
  rcases a with _ | ⟨b,off,sp⟩
  ·
   have hl0:l=[]:=by
    obtain ⟨_,_,e,_,_,h4,_⟩:=HB.out;cases e;rcases h4 with h | ⟨_,_,h,_⟩
    ·exact h
    ·cases h
   have hm0:m=0:=by rw [<- HM.out,hl0];rfl
   subst hm0;obtain rfl:n=0:=by omega
   have HV:Hid (Bytes w R (.slice none 0 cc) (l.drop 0)):=by rw [List.drop_zero];have:=HB.out;rw [HM.out] at this;exact qq this
   clear HB3 ncc hn hlc hl0;go_enter Tryz.func104,Tryz.ntmps104;go_wp2_with fail;refine FO.out.mono ?_;rintro _ _ ⟨rfl,rfl⟩;go_wp2_with (first | go_skip | (with_reducible refine qv (by decide) ?_))
   refine za (zc rfl (zd (v:=.slice none 0 cc) (n:=1) (by kernel_rfl) (by rfl) (by rfl) HBL.out (by rfl) (by simp) (by simp [Value.cells,Value.oneCell'])) ?_);intro w2 s2;simp only [Nat.reduceAdd,qn];have F:=qq (FIN.out _ w2 s2 HV.out);clear s2;go_wp2;go_ret;exact ⟨_,rfl,F.out⟩
  ·
   have hsp:m ≠ 0 -> sp=none:=fun h0=>by
    obtain ⟨_,_,e,_,_,h4,_⟩:=HB.out;cases e;rcases h4 with h | ⟨_,_,h,_⟩
    ·exact absurd (by rw [<- HM.out,h];rfl) h0
    ·cases h;rfl
   by_cases h0:n=0
   ·
    subst h0;have HV:Hid (Bytes w R (.slice (some ⟨b,off,sp⟩) m cc) (l.drop 0)):=by rw [List.drop_zero];have:=HB.out;rw [HM.out] at this;exact qq this
    clear HB3 hlc;go_enter Tryz.func104,Tryz.ntmps104;go_wp2_with fail;refine FO.out.mono ?_;rintro _ _ ⟨rfl,rfl⟩;go_wp2_with (first | go_skip | (with_reducible refine qv (by decide) ?_))
    refine za (zc rfl (zd (v:=.slice (some ⟨b,off,sp⟩) m cc) (n:=1) (by kernel_rfl) (by rfl) (by rfl) HBL.out (by rfl) (by simp) (by simp [Value.cells,Value.oneCell'])) ?_);intro w2 s2;simp only [Nat.reduceAdd,qn];have F:=qq (FIN.out _ w2 s2 HV.out);clear s2;go_wp2;go_ret;exact ⟨_,rfl,F.out⟩
   ·
    have hs0:sp=none:=hsp (by omega);subst hs0;have HV:=qq (HB3.out.2 b off rfl);clear HB3 hsp;go_enter Tryz.func104,Tryz.ntmps104;go_wp2_with fail;refine FO.out.mono ?_;rintro _ _ ⟨rfl,rfl⟩;go_wp2_with (first | go_skip | (with_reducible refine qv (by decide) ?_))
    refine za (zc rfl (zd (v:=.slice (some ⟨b,off + n,none⟩) (m - n) (cc - n)) (n:=1) (by kernel_rfl) (by rfl) (by rfl) HBL.out (by rfl) (by simp) (by simp [Value.cells,Value.oneCell'])) ?_);intro w2 s2;simp only [Nat.reduceAdd,qn];have F:=qq (FIN.out _ w2 s2 HV.out);clear s2;go_wp2;go_ret;exact ⟨_,rfl,F.out⟩
theorem zd7 (g:Nat) (n:Int) (w:World) (h:RdNo w g):Calls Tryz.prog 104 #[.pointer (some ⟨g,0,none⟩),.int .i64 n] w fun e w'=>e=.returned (.slice none 0 0) /\ w=w':=by
 have FO:=qq (z7s g w h);clear h;go_enter Tryz.func104,Tryz.ntmps104;go_wp2_with fail;refine FO.out.mono ?_;rintro _ _ ⟨rfl,rfl⟩;go_wp2;go_ret;exact ⟨rfl,rfl⟩
theorem z54 (g:Nat) (n:Int) (R:Nat -> Prop) (l:List Nat) (w:World) (h:RdAt w R g l) (hn:n < 0 \/ (l.length:Int) < n) :
  Calls Tryz.prog 104 #[.pointer (some ⟨g,0,none⟩),.int .i64 n] w fun e w'=>e=.returned (.slice none 0 0) /\ RdNo w' g /\ Keeps (·=g) w w':=by
 have hb154:∀ (W:World),(Instr.build 154 #[]).run Tryz.prog W=.ok (.agg #[.slice none 0 0,.bool false]) W:=fun _=>by kernel_rfl
 have FO:=qq (z4o g R l w h);obtain ⟨v,hb,hB,hg⟩:=h;obtain ⟨a,cc,rfl,hlc,hcm,-⟩:=id hB;have HBL:=qq hb;obtain ⟨m,hm⟩:∃ m,l.length=m:=⟨_,rfl⟩
 rw [hm] at hb hlc hn;have c0:w.cell? ⟨g,0,none⟩=some (.slice a m cc):=(cell_of_block hb).trans rfl;unfold maxLen at hcm;clear hB hb hm hg;by_cases h0:n < 0
 ·
  clear hn;go_enter Tryz.func104,Tryz.ntmps104;go_wp2_with fail;refine FO.out.mono ?_;rintro _ _ ⟨rfl,rfl⟩;go_wp2_with (first | go_skip | (with_reducible refine qv (by decide) ?_))
  refine za (zc rfl (zd (v:=.agg #[.slice none 0 0,.bool false]) (n:=2) (by kernel_rfl) (by rfl) (by rfl) HBL.out (by rfl) (by simp [Value.cells]) (by simp [Value.cells,Value.oneCell'])) ?_);intro w2 s2;simp only [Nat.reduceAdd,qn];have F:Hid (RdNo w2 g /\ Keeps (·=g) w w2):=qq ⟨s2.blk,s2.k⟩;clear s2;go_wp2;go_ret;exact ⟨rfl,F.out⟩
 ·
  have h1:(m:Int) < n:=by omega
  clear hn;go_enter Tryz.func104,Tryz.ntmps104;go_wp2_with fail;refine FO.out.mono ?_;rintro _ _ ⟨rfl,rfl⟩;go_wp2_with (first | go_skip | (with_reducible refine qv (by decide) ?_))
  refine za (zc rfl (zd (v:=.agg #[.slice none 0 0,.bool false]) (n:=2) (by kernel_rfl) (by rfl) (by rfl) HBL.out (by rfl) (by simp [Value.cells]) (by simp [Value.cells,Value.oneCell'])) ?_);intro w2 s2;simp only [Nat.reduceAdd,qn];have F:Hid (RdNo w2 g /\ Keeps (·=g) w w2):=qq ⟨s2.blk,s2.k⟩;clear s2;go_wp2;go_ret;exact ⟨rfl,F.out⟩
theorem zgf (y x i:Nat) (hi:i <= 7) (hy:y < 256 ^ i) (hx:x < 256):bits .or .u64 (y:Int) (IntKind.u64.wrap (IntKind.u64.wrap (x:Int) * 2 ^ (8 * i)))=((256 ^ i * x + y:Nat):Int):=by
 rw [IntWalk.u64_in (x:Int) ⟨by omega,by omega⟩];have hc:i=0 \/ i=1 \/ i=2 \/ i=3 \/ i=4 \/ i=5 \/ i=6 \/ i=7:=by omega
 rcases hc with rfl | rfl | rfl | rfl | rfl | rfl | rfl | rfl
 ·rw [show (2:Int) ^ (8 * 0)=1 by decide,IntWalk.u64_in _ ⟨by omega,by omega⟩,u64_orv0 (y:=(y:Int)) (x:=(x:Int) * 1) (by omega) (by omega) (by omega) (by omega) (by omega)];simp;omega
 ·rw [show (2:Int) ^ (8 * 1)=256 by decide,IntWalk.u64_in _ ⟨by omega,by omega⟩,u64_or8 (y:=(y:Int)) (x:=(x:Int) * 256) (by omega) (by omega) (by omega) (by omega) (by omega)];simp;omega
 ·rw [show (2:Int) ^ (8 * 2)=65536 by decide,IntWalk.u64_in _ ⟨by omega,by omega⟩,u64_or16 (y:=(y:Int)) (x:=(x:Int) * 65536) (by omega) (by omega) (by omega) (by omega) (by omega)];simp;omega
 ·rw [show (2:Int) ^ (8 * 3)=16777216 by decide,IntWalk.u64_in _ ⟨by omega,by omega⟩,u64_or24 (y:=(y:Int)) (x:=(x:Int) * 16777216) (by omega) (by omega) (by omega) (by omega) (by omega)];simp;omega
 ·rw [show (2:Int) ^ (8 * 4)=4294967296 by decide,IntWalk.u64_in _ ⟨by omega,by omega⟩,u64_or32 (y:=(y:Int)) (x:=(x:Int) * 4294967296) (by omega) (by omega) (by omega) (by omega) (by omega)];simp;omega
 ·rw [show (2:Int) ^ (8 * 5)=1099511627776 by decide,IntWalk.u64_in _ ⟨by omega,by omega⟩,u64_or40 (y:=(y:Int)) (x:=(x:Int) * 1099511627776) (by omega) (by omega) (by omega) (by omega) (by omega)];simp;omega
 ·rw [show (2:Int) ^ (8 * 6)=281474976710656 by decide,IntWalk.u64_in _ ⟨by omega,by omega⟩,u64_or48 (y:=(y:Int)) (x:=(x:Int) * 281474976710656) (by omega) (by omega) (by omega) (by omega) (by omega)];simp;omega
 ·rw [show (2:Int) ^ (8 * 7)=72057594037927936 by decide,IntWalk.u64_in _ ⟨by omega,by omega⟩,u64_or56 (y:=(y:Int)) (x:=(x:Int) * 72057594037927936) (by omega) (by omega) (by omega) (by omega) (by omega)];simp;omega
theorem z8s (w:World):Calls Tryz.prog 144 #[.slice none 0 0] w fun e w'=>e=.returned (.tuple #[.int .u64 0,.int .i64 2]) /\ w=w':=by
 go_enter Tryz.func144,Tryz.ntmps144;go_wp2;go_ret2;exact ⟨rfl,rfl⟩
theorem get_at (v:Value) (l:List Nat) (R:Nat -> Prop) (w:World) (h:Bytes w R v l) (h1:1 <= l.length) (h8:l.length <= 8):Calls Tryz.prog 144 #[v] w fun e w'=>e=.returned (.tuple #[.int .u64 (num l:Nat),.int .i64 0]) /\ w=w':=by
 obtain ⟨a,c,rfl,h2,h3,h4,h5,h6⟩:=h;obtain ⟨m,hm⟩:∃ m,l.length=m:=⟨_,rfl⟩
 rw [hm] at h1 h8 h2 ⊢;have HM:=qq hm;obtain ⟨b,off,rfl,hc⟩:∃ b off,a=some ⟨b,off,none⟩ /\ ∀ i,i < m -> w.cell? ⟨b,off + i,none⟩=some (.int .u8 (ntn l i:Nat)):=by
  rcases h4 with h | ⟨b,off,e,hc⟩
  ·rw [h] at hm;simp at hm;omega
  ·exact ⟨b,off,e,by rw [<- hm];exact hc⟩
 have HC:=qq hc;have H5:=qq h5;unfold maxLen at h3;clear h4 h5 h6 hm hc;have t1:((m:Int) == 0)=false:=by simp;omega
 go_enter Tryz.func144,Tryz.ntmps144;go_wp2
 go_loop [0,2,4] (fun s x sh=>∃ i:Nat,i <= m /\ s=.slice (some ⟨b,off,none⟩) (m - i) c /\ x=.int .u64 (num (l.drop (m - i)):Nat) /\ sh=.int .i64 (8 * i:Nat)) (fun s _ _=>match s with | .slice _ n _=>n | _=>0)
 case atStart=>exact ⟨0,Nat.zero_le _,rfl,by rw [Nat.sub_zero,List.drop_of_length_le (by rw [HM.out];exact Nat.le_refl _)];rfl,rfl⟩
 case round =>
  obtain ⟨i,hi,rfl,rfl,rfl⟩:=hrel;by_cases hlt:i < m
  ·
   have ck:=HC.out (m - i - 1) (by omega);have hd:=zb8 (l:=l) (k:=m - i - 1) (by rw [HM.out];omega);have hx:ntn l (m - i - 1) < 256:=H5.out _ (z1x (by rw [HM.out];omega));have hy:num (l.drop (m - i)) < 256 ^ i:=by
    have:=z3y (l:=l.drop (m - i)) (fun z hz=>H5.out z (List.mem_of_mem_drop hz))
    rwa [List.length_drop,HM.out,show m - (m - i)=i by omega] at this
   have hn:num (l.drop (m - (i + 1)))=256 ^ i * ntn l (m - i - 1) + num (l.drop (m - i)):=by
    rw [show m - (i + 1)=m - i - 1 by omega,hd,z4b,List.length_drop,HM.out,show m - i - 1 + 1=m - i by omega,show m - (m - i)=i by omega]
   have HO:=qq (zgf _ _ i (by omega) hy hx);have HN:=qq hn;clear hd hx hy hn;generalize ntn l (m - i - 1)=x at *;generalize num (l.drop (m - i))=y at *;go_wp2;refine ⟨⟨i + 1,by omega,by rw [show m - i - 1=m - (i + 1) by omega],by rw [HN.out,HO.out],z1o (by omega)⟩,by show m - i - 1 < m - i;omega⟩
  ·
   have hi2:i=m:=by omega
   subst hi2;rw [Nat.sub_self,List.drop_zero];go_wp2;go_ret2;exact ⟨rfl,rfl⟩
theorem z4w (g k:Nat) (hk:k=4 \/ k=8) (R:Nat -> Prop) (l:List Nat) (w:World) (h:RdAt w R g l) (hl:k <= l.length) :
  Calls Tryz.prog 103 #[.pointer (some ⟨g,0,none⟩),.int .i64 k] w fun e w'=>e=.returned (.int .u64 (num (l.take k):Nat)) /\ RdAt w' R g (l.drop k) /\ Keeps (·=g) w w':=by
 have RB:=qq (z83 g k R l w h hl);have HL:=qq hl;have b1:1 <= k:=by omega
 have b8:k <= 8:=by omega
 clear h hl hk;go_enter Tryz.func103,Tryz.ntmps103;go_wp2_with fail;refine RB.out.mono ?_;rintro _ w1 ⟨v,rfl,hB,hr,k1⟩;have GA:=qq (get_at v (l.take k) R w1 hB (by rw [List.length_take];have:=HL.out;omega) (by rw [List.length_take];omega));have HR:=qq hr;have K1:=qq k1;clear hB hr k1 RB;go_wp2_with fail;refine GA.out.mono ?_;rintro _ _ ⟨rfl,rfl⟩;go_wp2;go_ret;exact ⟨rfl,HR.out,K1.out⟩
theorem z8x (g k:Nat) (hk:k=4 \/ k=8) (R:Nat -> Prop) (l:List Nat) (w:World) (h:RdAt w R g l) (hl:l.length < k) :
  Calls Tryz.prog 103 #[.pointer (some ⟨g,0,none⟩),.int .i64 k] w fun e w'=>e=.returned (.int .u64 0) /\ RdNo w' g /\ Keeps (·=g) w w':=by
 have RB:=qq (z54 g k R l w h (.inr (by omega)));have b1:1 <= k:=by omega
 have b8:k <= 8:=by omega
 clear h hl hk;go_enter Tryz.func103,Tryz.ntmps103;go_wp2_with fail;refine RB.out.mono ?_;rintro _ w1 ⟨rfl,hr,k1⟩;have HR:=qq hr;have K1:=qq k1;clear hr k1 RB;go_wp2_with fail;refine (z8s w1).mono ?_;rintro _ _ ⟨rfl,rfl⟩;go_wp2;go_ret;exact ⟨rfl,HR.out,K1.out⟩
theorem zcy (g k:Nat) (hk:k=4 \/ k=8) (w:World) (h:RdNo w g) :
  Calls Tryz.prog 103 #[.pointer (some ⟨g,0,none⟩),.int .i64 k] w fun e w'=>e=.returned (.int .u64 0) /\ w=w':=by
 have RB:=qq (zd7 g k w h);have b1:1 <= k:=by omega
 have b8:k <= 8:=by omega
 clear h hk;go_enter Tryz.func103,Tryz.ntmps103;go_wp2_with fail;refine RB.out.mono ?_;rintro _ _ ⟨rfl,rfl⟩;clear RB;go_wp2_with fail;refine (z8s w).mono ?_;rintro _ _ ⟨rfl,rfl⟩;go_wp2;go_ret;exact ⟨rfl,rfl⟩
end Go.Proofs.YtpjomdmjohjheaaGreatDoor
end
section
namespace Go.Log
open Go.Lk Go.RowKit Go.Vfs
theorem zdp (a b n:Nat):be (a + b) n=be a (n / 256 ^ b) ++ be b n:=by
 induction a with
 | zero=>simp [be]
 | succ a ih =>
  rw [show a + 1 + b=(a + b) + 1 by omega];show n / 256 ^ (a + b) % 256 :: be (a + b) n=(n / 256 ^ b / 256 ^ a % 256 :: be a (n / 256 ^ b)) ++ be b n;rw [ih,List.cons_append,Nat.div_div_eq_div_mul,<- Nat.pow_add,Nat.add_comm b a]
theorem zfl (k:Nat):be k 0=List.replicate k 0:=by
 induction k with
 | zero=>rfl
 | succ k ih=>rw [be,ih,List.replicate_succ];simp
theorem be_low {n:Nat} (h:n < 256 ^ 4):be 8 n=List.replicate 4 0 ++ be 4 n:=by
 rw [show (8:Nat)=4 + 4 from rfl,zdp,Nat.div_eq_of_lt h,zfl]
theorem zh3 (i y:Nat) (l:List Nat):(List.replicate (i + 1) 0 ++ l).set i y=List.replicate i 0 ++ y :: l:=by
 induction i with
 | zero=>rfl
 | succ i ih=>rw [List.replicate_succ,List.cons_append,List.set_cons_succ,ih];rfl
theorem low0 {n i:Nat} (h:n < 256 ^ 4) (hi:i < 4):((ntn (be 8 n) i:Nat):Int)=(List.replicate 4 (0:Int)).getD i 0:=by
 rw [be_low h];have:i=0 \/ i=1 \/ i=2 \/ i=3:=by omega
 rcases this with rfl | rfl | rfl | rfl <;> rfl
end Go.Log
namespace Go.Proofs.YtpjomdmjohjheaaGreatDoor
open Go.RowKit Go.Lk Go.Vfs Go.Log
theorem zero124:(Tryz.prog.info? 124).map (·.zero)=some (some (.agg (arrV .u8 (List.replicate 8 0)))):=by kernel_rfl
theorem z6l (n k:Nat) (hk:k=4 \/ k=8) (hn:n < 256 ^ k) (w:World) :
  Calls Tryz.prog 41 #[.int .u64 n,.int .i64 k] w fun e w'=>∃ v,e=.returned (.tuple #[v,.int .i64 0]) /\ Bytes w' (Since w w') v (be k n) /\ Keeps Nb w w':=by
 have hn64:n < 18446744073709551616:=by rcases hk with rfl | rfl <;> omega
 have HK:=qq hk;have HN:=qq hn;clear hn;go_enter Tryz.func41,Tryz.ntmps41;go_wp2_with (first | go_skip | (with_reducible refine qv (by decide) ?_))
 refine za (valloc zero124 ?_);intro g w1 n1;simp only [Nat.reduceAdd,qn];have hg1:ArrB .u8 124 w1 g (List.replicate (8 - 0) 0 ++ be 0 n):=by unfold ArrB;exact n1.blk
 have HB1:=qq hg1;have K1:=qq n1.k;have HG:=qq n1.ge;have hdiv:∀ j,n / 256 ^ j <= n:=fun j=>Nat.div_le_self _ _;have HD:=qq hdiv;clear hg1 n1 hdiv;go_wp2
 go_loopw [0,7] (fun x i wr=>∃ j:Nat,j <= 8 /\ i=.int .i64 ((8 - j:Nat):Int) /\ x=.int .u64 (n / 256 ^ j:Nat) /\ ArrB .u8 124 wr g (List.replicate (8 - j) 0 ++ be j n) /\ Keeps Nb w wr) (fun _ i _=>(intOf i).toNat)
 case atStart=>exact ⟨0,by omega,rfl,by simp,HB1.out,K1.out⟩
 case round =>
  obtain ⟨j,hj,rfl,rfl,hb,kr⟩:=hrel;have HB:=qq hb;have KR:=qq kr;clear hb kr;by_cases hlt:j < 8
  ·
   obtain ⟨i,hi⟩:∃ i,8 - j=i + 1:=⟨8 - j - 1,by omega⟩
   have hx:=HD.out j;have HS:Hid (n / 256 ^ (j + 1)=n / 256 ^ j / 256):=qq (by rw [Nat.pow_succ,Nat.div_div_eq_div_mul]);have HC:Hid (be (j + 1) n=(n / 256 ^ j % 256) :: be j n):=qq rfl;rw [hi] at HB ⊢;obtain ⟨u,hc⟩:∃ u,wr.cell? ⟨g,i,none⟩=some u:=⟨_,HB.out.own.cell (i:=i) (by simp;omega)⟩
   have hf:wr.frozen? ⟨g,i,none⟩=false:=HB.out.own.free i;generalize n / 256 ^ j=x at *;go_wp2;have hb:=HB.out.set i (x % 256);rw [zh3,<- HC.out] at hb;refine ⟨⟨j + 1,by omega,z1o (by omega),z1o (by rw [HS.out];omega),?_,KR.out.setCell (p:=⟨g,i,none⟩) (fun h=>absurd h (by have:=HG.out;show ¬ g < _;omega)) _⟩,by simp [intOf]⟩;rw [show 8 - (j + 1)=i by omega];exact hb
  ·
   obtain rfl:j=8:=by omega
   have hB8:ArrB .u8 124 wr g (be 8 n):=by have:=HB.out;simpa using this
   have H8:=qq hB8;clear hB8 HB;rcases HK.out with rfl | rfl
   ·
    go_wp2
    go_quiet (fail)
    obtain ⟨W,hW⟩:∃ W,W=wr.drewN nq:=⟨_,rfl⟩
    have HBW:Hid (ArrB .u8 124 W g (be 8 n)):=by rw [hW];exact qq H8.out
    have KW:Hid (Keeps Nb w W):=by rw [hW];exact qq (KR.out.drewN nq)
    rw [<- hW];clear hW H8 KR;go_wp2_with (first | go_skip | (with_reducible refine qv (by decide) ?_))
    refine za (zh rfl (zl el31 [.int .u8 0] rfl (by simp [List.range'_succ];first | done | rfl | exact ⟨rfl,rfl⟩) (by simp [Value.cells]) (by simp)) ?_);rintro _ w3 ⟨b2,rfl,n3⟩;simp only [Nat.reduceAdd,qn];have hc2:w3.cell? ⟨b2,0,none⟩=some (.int .u8 0):=(cell_of_block n3.blk).trans rfl;have HB3:=qq (HBW.out.keeps n3.k (fun e=>e));have K3:=qq (KW.out.trans_nb n3.k)
    have CO:=qq (Go.Proofs.Any.bytes_Count_one_at Tryz.laysSlB13 ⟨g,0,none⟩ 4 8 b2 0 1 (List.replicate 4 0) 0 w3 (by simp) (fun i hi=>by
     rw [Addr.add_lit,Nat.zero_add,HB3.out.own.cell (by rw [zu];omega)]
     rw [low0 HN.out hi]) hc2)
    clear n3 hc2;go_wp2_with fail;refine CO.out.mono ?_;rintro _ _ ⟨rfl,rfl⟩;rw [show (Lib.countByte (Lib.bytesOf (List.replicate 4 0)) (Int.toNat 0).toUInt8:Int)=4 by decide];go_wp2_with (first | go_skip | (with_reducible refine qv (by decide) ?_))
    refine za (zdn el31 w.heap.size 0 [] ((be 4 n).map fun x=>Value.int .u8 (x:Nat)) (World.ownsRow_nil _ _ _ _) rfl rfl (HB3.out.own.readsFrom 4).has (by simp [zu]) z1y (by unfold maxLen;omega) (by omega) K3.out.size ?_);intro v' w4 ho hgr _;simp only [Nat.reduceAdd,qn];rw [Nat.zero_add,List.nil_append] at ho;have hbl:((be 4 n).map fun x=>Value.int .u8 (x:Nat)).length=4:=by simp [zu]
    have hB4:Bytes w4 (Since w w4) v' (be 4 n):=z1p (base:=w.heap.size) (by rw [zu];exact ho) (z18 _ _);have F:Hid (Bytes w4 (Since w w4) v' (be 4 n) /\ Keeps Nb w w4):=qq ⟨hB4,K3.out.grown hgr (fun k h=>by cases h)⟩;clear ho hgr hB4 hbl;go_wp2;go_ret2;exact ⟨v',rfl,F.out⟩
   ·
    go_wp2
    go_quiet (fail)
    obtain ⟨W,hW⟩:∃ W,W=wr.drewN nq:=⟨_,rfl⟩
    have HBW:Hid (ArrB .u8 124 W g (be 8 n)):=by rw [hW];exact qq H8.out
    have KW:Hid (Keeps Nb w W):=by rw [hW];exact qq (KR.out.drewN nq)
    rw [<- hW];clear hW H8 KR;go_wp2_with (first | go_skip | (with_reducible refine qv (by decide) ?_))
    refine za (zh rfl (zl el31 [.int .u8 0] rfl (by simp [List.range'_succ];first | done | rfl | exact ⟨rfl,rfl⟩) (by simp [Value.cells]) (by simp)) ?_);rintro _ w3 ⟨b2,rfl,n3⟩;simp only [Nat.reduceAdd,qn];have hc2:w3.cell? ⟨b2,0,none⟩=some (.int .u8 0):=(cell_of_block n3.blk).trans rfl;have HB3:=qq (HBW.out.keeps n3.k (fun e=>e));have K3:=qq (KW.out.trans_nb n3.k)
    have CO:=qq (Go.Proofs.Any.bytes_Count_one_at Tryz.laysSlB13 ⟨g,0,none⟩ 0 8 b2 0 1 (List.replicate 0 0) 0 w3 (by simp) (fun i hi=>by
     rw [Addr.add_lit,Nat.zero_add,HB3.out.own.cell (by rw [zu];omega)]
     omega) hc2)
    clear n3 hc2;go_wp2_with fail;refine CO.out.mono ?_;rintro _ _ ⟨rfl,rfl⟩;rw [show (Lib.countByte (Lib.bytesOf (List.replicate 0 0)) (Int.toNat 0).toUInt8:Int)=0 by decide];go_wp2_with (first | go_skip | (with_reducible refine qv (by decide) ?_))
    refine za (zdn el31 w.heap.size 0 [] ((be 8 n).map fun x=>Value.int .u8 (x:Nat)) (World.ownsRow_nil _ _ _ _) rfl rfl HB3.out.own.reads.has (by simp [zu]) z1y (by unfold maxLen;omega) (by omega) K3.out.size ?_);intro v' w4 ho hgr _;simp only [Nat.reduceAdd,qn];rw [Nat.zero_add,List.nil_append] at ho;have hbl:((be 8 n).map fun x=>Value.int .u8 (x:Nat)).length=8:=by simp [zu]
    have hB4:Bytes w4 (Since w w4) v' (be 8 n):=z1p (base:=w.heap.size) (by rw [zu];exact ho) (z18 _ _);have F:Hid (Bytes w4 (Since w w4) v' (be 8 n) /\ Keeps Nb w w4):=qq ⟨hB4,K3.out.grown hgr (fun k h=>by cases h)⟩;clear ho hgr hB4 hbl;go_wp2;go_ret2;exact ⟨v',rfl,F.out⟩
end Go.Proofs.YtpjomdmjohjheaaGreatDoor
end
section
namespace Go.Log
open Go.Lk Go.RowKit Go.Vfs
variable {w w':World} {S R R':Nat -> Prop}
def u8s (l:List Nat):List UInt8:=l.map Nat.toUInt8
theorem z5p (l:List Nat):(u8s l).length=l.length:=by simp [u8s]
theorem z9y (ls:List (List Nat)):u8s ls.flatten=(ls.map u8s).flatten:=by
 unfold u8s;rw [List.map_flatten]
theorem toU8 {x:Nat} (h:x < 256):(Nat.toUInt8 x).toNat=x:=by
 rw [Nat.toUInt8,UInt8.toNat_ofNat'];omega
theorem z9i {v:Value} {l:List Nat} (h:Bytes w R v l):Lib.HoldsBytes w v (u8s l):=by
 obtain ⟨a,c,rfl,h2,h3,h4,h5,h6⟩:=h;refine ⟨a,c,by rw [z5p],fun e=>?_,fun b e i x hx=>?_⟩
 ·
  rcases h4 with h | ⟨_,_,e2,_⟩
  ·rw [h];rfl
  ·rw [e] at e2;cases e2
 ·
  have hi:i < l.length:=by have:=(List.getElem?_eq_some_iff.1 hx).1;rwa [z5p] at this
  rcases h4 with h | ⟨b',off,e2,hc⟩
  ·rw [h] at hi;simp at hi
  ·rw [e] at e2;cases e2;rw [Addr.add_lit,hc i hi];unfold u8s at hx;rw [List.getElem?_map,List.getElem?_eq_getElem hi] at hx;simp only [Option.map_some,Option.some.injEq] at hx;rw [<- hx,toU8 (h5 _ (List.getElem_mem hi)),z0o hi]
theorem z9m {B:Nat} {v:Value} {l:List Nat} (h:Lib.FreshBytes B w v (u8s l)) (hl:∀ z ∈ l,z < 256):Bytes w (fun k=>B <= k /\ k < w.heap.size) v l:=by
 obtain ⟨g,cap,zs,rfl,hB,hlc,hcm,hz,hzr,hb,hc,-⟩:=h;rw [z5p] at hlc hb ⊢;have key:∀ i (hi:i < l.length),zs.getD i 0=((ntn l i:Nat):Int):=fun i hi=>by
  have h1:(Lib.bytesOf (zs.take l.length))[i]?=(u8s l)[i]?:=by rw [hb]
  have hiz:i < zs.length:=by omega
  unfold Lib.bytesOf u8s at h1;rw [List.getElem?_map,List.getElem?_map,List.getElem?_take,if_pos hi,List.getElem?_eq_getElem hiz,List.getElem?_eq_getElem hi] at h1;simp only [Option.map_some,Option.some.injEq] at h1;have h2:=congrArg UInt8.toNat h1;have h3:=hzr _ (List.getElem_mem hiz);rw [toU8 (hl _ (List.getElem_mem hi)),toU8 (by omega)] at h2;rw [List.getD_eq_getElem?_getD,List.getElem?_eq_getElem hiz,z0o hi];simp only [Option.getD_some];omega
 refine ⟨_,cap,rfl,hlc,hcm,?_,hl,fun b off e hne=>?_⟩
 ·exact .inr ⟨g,0,rfl,fun i hi=>by rw [Nat.zero_add,hc i (by omega),key i hi]⟩
 ·cases e;have h0:0 < l.length:=List.length_pos_iff.2 hne;exact ⟨hB,lt_of_cell (p:=⟨g,0,none⟩) (hc 0 (by omega))⟩
theorem zcq (xs:List (List UInt8)):Lib.join xs []=xs.flatten:=by
 cases xs with
 | nil=>rfl
 | cons x r =>
  rw [Lib.join_cons];unfold Lib.joinTail;simp
def BytesL (w:World) (R:Nat -> Prop) (vs:List Value) (ls:List (List Nat)):Prop:=vs.length=ls.length /\ ∀ (i:Nat) v l,vs[i]?=some v -> ls[i]?=some l -> Bytes w R v l
theorem BytesL.keeps {vs:List Value} {ls:List (List Nat)} (h:BytesL w R vs ls) (hk:Keeps S w w') (hn:∀ k,R k -> ¬ S k):BytesL w' R vs ls:=⟨h.1,fun i v l h1 h2=>(h.2 i v l h1 h2).keeps hk hn⟩
theorem BytesL.mono {vs:List Value} {ls:List (List Nat)} (h:BytesL w R vs ls) (hn:∀ k,R k -> R' k):BytesL w R' vs ls:=⟨h.1,fun i v l h1 h2=>(h.2 i v l h1 h2).mono hn⟩
theorem BytesL.nil (w:World) (R:Nat -> Prop):BytesL w R [] []:=⟨rfl,fun i v l h=>by simp at h⟩
theorem BytesL.cons {v:Value} {l:List Nat} {vs:List Value} {ls:List (List Nat)} (h:Bytes w R v l) (hs:BytesL w R vs ls):BytesL w R (v :: vs) (l :: ls) :=
 ⟨by simp [hs.1],fun i v' l' h1 h2=>by
  cases i with
  | zero=>simp at h1 h2;subst h1 h2;exact h
  | succ i=>exact hs.2 i v' l' (by simpa using h1) (by simpa using h2)⟩
theorem BytesL.append {vs vs':List Value} {ls ls':List (List Nat)} (h:BytesL w R vs ls) (h':BytesL w R vs' ls'):BytesL w R (vs ++ vs') (ls ++ ls') :=
 ⟨by simp [h.1,h'.1],fun i v l h1 h2=>by
  rcases Nat.lt_or_ge i vs.length with hi | hi
  ·rw [List.getElem?_append_left hi] at h1;rw [List.getElem?_append_left (by rw [<- h.1];exact hi)] at h2;exact h.2 i v l h1 h2
  ·
   rw [List.getElem?_append_right hi] at h1;rw [List.getElem?_append_right (by rw [<- h.1];exact hi),<- h.1] at h2
   exact h'.2 _ v l h1 h2⟩
theorem BytesL.bytes {vs:List Value} {ls:List (List Nat)} (h:BytesL w R vs ls):∀ l ∈ ls,∀ z ∈ l,z < 256:=fun l hl z hz=>by
 obtain ⟨i,hi,rfl⟩:=List.getElem_of_mem hl;have hi':i < vs.length:=by rw [h.1];exact hi
 obtain ⟨_,_,_,_,_,_,h5,_⟩:=h.2 i vs[i] ls[i] (List.getElem?_eq_getElem hi') (List.getElem?_eq_getElem hi);exact h5 z hz
end Go.Log
namespace Go.Proofs.YtpjomdmjohjheaaGreatDoor
open Go.RowKit Go.Lk Go.Vfs Go.Log
theorem zab (b n:Nat) (vs:List Value) (ls:List (List Nat)) (R:Nat -> Prop) (w:World) (hb:w.heap[b]?=some (.cells vs.toArray 22 (0,0))) (hv:BytesL w R vs ls) (hn:ls.length=n) (h2:2 <= n) (h9:n <= 1000) (hl:ls.flatten.length <= 100000000) :
  Calls Tryz.prog 43 #[.slice (some ⟨b,0,none⟩) n n] w fun e w'=>∃ v,e=.returned v /\ Bytes w' (Since w w') v ls.flatten /\ Keeps Nb w w':=by
 have JM:=qq (Go.Proofs.Any.bytes_Join_many Tryz.laysSlJ14 b 0 n n vs (ls.map u8s) (.slice none 0 0) [] w (by simpa using hn) h2 ⟨by rw [List.length_map];exact hv.1,fun i v h=>by
   rw [Addr.add_lit,Nat.zero_add,cell_of_block hb];simpa using h,fun i v l h1 h2=>by
   rw [List.getElem?_map] at h2;obtain ⟨l',h3,rfl⟩:=Option.map_eq_some_iff.1 h2;exact z9i (hv.2 i v l' h1 h3)⟩ (Nat.le_refl _) ⟨none,0,rfl,fun _=>rfl,fun a e=>by cases e⟩ (by omega) (by
   have:Lib.lens (ls.map u8s)=ls.flatten.length:=by
    unfold Lib.lens;rw [List.map_map,List.length_flatten]
    congr 1
    exact List.map_congr_left fun l _=>z5p l
   rw [this,List.length_nil,Nat.zero_mul];omega))
 have HB:Hid (∀ l ∈ ls.flatten,l < 256):=qq (fun z hz=>by obtain ⟨l,h1,h2⟩:=List.mem_flatten.1 hz;exact hv.bytes l h1 z h2);clear hb hv hn h2 hl h9;go_enter Tryz.func43,Tryz.ntmps43;go_wp2_with fail;refine JM.out.mono ?_;rintro _ w1 ⟨v,rfl,hf,hb⟩;rw [zcq,<- z9y] at hf;have F:Hid (Bytes w1 (Since w w1) v ls.flatten /\ Keeps Nb w w1):=qq ⟨z9m hf HB.out,z0v hb⟩;clear hf hb;go_wp2;go_ret;exact ⟨v,rfl,F.out⟩
theorem zeu {w:World} {R:Nat -> Prop} {b:Nat} {vs:List Value} {ls:List (List Nat)} (hb:w.heap[b]?=some (.cells vs.toArray 22 (0,0))) (hv:BytesL w R vs ls):RowsN w (some ⟨b,0,none⟩) ls :=
 .inr ⟨b,0,rfl,fun i hi=>by
  have hi':i < vs.length:=by rw [hv.1];exact hi
  obtain ⟨a,c,e,h2,h3,h4,-⟩:=hv.2 i vs[i] ls[i] (List.getElem?_eq_getElem hi') (List.getElem?_eq_getElem hi);rw [z7f hi];refine ⟨a,c,?_,h2,h4⟩
  rw [Nat.zero_add,cell_of_block hb,<- e];simp [hi']⟩
theorem zb0 (b:Nat) (v1 v2:Value) (l1 l2:List Nat) (R:Nat -> Prop) (w:World) (hb:w.heap[b]?=some (.cells #[v1,v2] 22 (0,0))) (h1:Bytes w R v1 l1) (h2:Bytes w R v2 l2) (z1:l1.length <= 16777216) (z2:l2.length <= 16777216) :
  Calls Tryz.prog 42 #[.slice (some ⟨b,0,none⟩) 2 2] w fun e w'=>e=.returned (.int .u32 (csum (l1 ++ l2):Nat)) /\ Keeps Nb w w':=by
 have hv:BytesL w R [v1,v2] [l1,l2]:=.cons h1 (.cons h2 (.nil _ _));refine (sum_at 2 2 (some ⟨b,0,none⟩) [l1,l2] w rfl (zeu (by simpa using hb) hv) hv.bytes (by simp) (by simp [z1,z2])).mono ?_;rintro e w' ⟨rfl,hk⟩;exact ⟨by simp [csum],hk⟩
theorem z55 (v:Value) (b:List Nat) (R:Nat -> Prop) (w:World) (h:Bytes w R v b) (hR:∀ k,R k -> k < w.heap.size) (hl:b.length <= mxr) :
  Calls Tryz.prog 11 #[v] w fun e w'=>∃ v',e=.returned (.tuple #[v',.int .i64 0]) /\ Bytes w' (Since w w') v' (recd b) /\ Keeps Nb w w':=by
 obtain ⟨a,c,rfl,h2,h3,hq⟩:=id h;have H:=qq h;have HRK:=qq hR;obtain ⟨m,hm⟩:∃ m,b.length=m:=⟨_,rfl⟩
 rw [hm] at hl h2 ⊢;have HM:=qq hm;unfold maxLen at h3;unfold mxr at hl;have P1:=qq (z6l m 4 (.inl rfl) (by omega));clear hm h hq hR;go_enter Tryz.func11,Tryz.ntmps11;go_wp2_with fail;refine (P1.out w).mono ?_;rintro _ w1 ⟨v1,rfl,hb1,k1⟩;obtain ⟨a1,c1,rfl,z1,z2,z3⟩:=id hb1;rw [zu] at z1;have HB1:=qq hb1;have K1:=qq k1;clear hb1 k1 z3;simp only [zu];go_wp2_with (first | go_skip | (with_reducible refine qv (by decide) ?_))
 refine za (zh rfl (zl el27 [.slice a1 4 c1,.slice a m c] rfl (by simp [List.range'_succ];first | done | rfl | exact ⟨rfl,rfl⟩ | exact ⟨rfl,rfl,rfl⟩ | exact ⟨rfl,rfl,rfl,rfl⟩ | exact ⟨rfl,rfl,rfl,rfl,rfl⟩ | exact ⟨rfl,rfl,rfl,rfl,rfl,rfl⟩) (by simp [Value.cells]) (by simp)) ?_);rintro _ w2 ⟨b2,rfl,n2⟩;simp only [Nat.reduceAdd,qn];have hb2:w2.heap[b2]?=some (.cells #[.slice a1 4 c1,.slice a m c] 22 (0,0)):=n2.blk;have hbA:Bytes w2 (fun k=>R k \/ Since w w2 k) (.slice a1 4 c1) (be 4 m):=by
  have:=(HB1.out.keeps n2.k (fun _ _ e=>e)).mono (R':=fun k=>R k \/ Since w w2 k) (fun k hk=>.inr ⟨hk.1,by have:=hk.2;have:=n2.k.size;omega⟩)
  rwa [zu] at this
 have hbB:Bytes w2 (fun k=>R k \/ Since w w2 k) (.slice a m c) b:=by
  have:=(H.out.keeps (K1.out.trans_nb n2.k) (fun _ _ e=>e)).mono (R':=fun k=>R k \/ Since w w2 k) (fun k hk=>.inl hk)
  rwa [HM.out] at this
 have S2:=qq (zb0 b2 _ _ (be 4 m) b _ w2 hb2 hbA hbB (by rw [zu];omega) (by rw [HM.out];omega));have HA2:=qq hbA;have HB2:=qq hbB;have K2:=qq (K1.out.trans_nb n2.k);clear hb2 hbA hbB n2 HB1 K1;go_wp2_with fail;refine S2.out.mono ?_;rintro _ w3 ⟨rfl,k3⟩;have hcs:=z3v (be 4 m ++ b);have HA3:=qq (HA2.out.keeps k3 (fun _ _ e=>e));have HB3:=qq (HB2.out.keeps k3 (fun _ _ e=>e));have K3:=qq (K2.out.trans_nb k3);have HCS:Hid (recd b=be 4 m ++ (be 4 (csum (be 4 m ++ b)) ++ b)):=by unfold recd;rw [HM.out];exact qq rfl
 have HLN:Hid ((recd b).length=8 + m):=by rw [zw,HM.out];exact qq rfl
 have z2k:=K2.out.size;have z3k:=k3.size;clear k3 S2 K2 HA2 HB2;generalize csum (be 4 m ++ b)=q at *;have P2:=qq (z6l q 4 (.inl rfl) (by omega));go_wp2_with fail;refine (P2.out w3).mono ?_;rintro _ w4 ⟨v4,rfl,hb4,k4⟩;obtain ⟨a4,c4,rfl,y1,y2,y3⟩:=id hb4;rw [zu] at y1;have HB4:=qq hb4;have K4:=qq k4;clear hb4 k4 y3;simp only [zu];go_wp2_with (first | go_skip | (with_reducible refine qv (by decide) ?_))
 refine za (zh rfl (zl el27 [.slice a1 4 c1,.slice a4 4 c4,.slice a m c] rfl (by simp [List.range'_succ];first | done | rfl | exact ⟨rfl,rfl⟩ | exact ⟨rfl,rfl,rfl⟩ | exact ⟨rfl,rfl,rfl,rfl⟩ | exact ⟨rfl,rfl,rfl,rfl,rfl⟩ | exact ⟨rfl,rfl,rfl,rfl,rfl,rfl⟩) (by simp [Value.cells]) (by simp)) ?_);rintro _ w5 ⟨b5,rfl,n5⟩;simp only [Nat.reduceAdd,qn];have hb5:w5.heap[b5]?=some (.cells [Value.slice a1 4 c1,.slice a4 4 c4,.slice a m c].toArray 22 (0,0)):=n5.blk;have k45:=K4.out.trans_nb n5.k;have hL:BytesL w5 (fun k=>R k \/ Since w w5 k) [.slice a1 4 c1,.slice a4 4 c4,.slice a m c] [be 4 m,be 4 q,b]:=by
  have zz:=k45.size;have z5:=n5.k.size;refine .cons ?_ (.cons ?_ (.cons ?_ (.nil _ _)))
  ·exact (HA3.out.keeps k45 (fun _ _ e=>e)).mono (fun k hk=>hk.imp id fun h=>⟨h.1,by have:=h.2;omega⟩)
  ·
   have:=(HB4.out.keeps n5.k (fun _ _ e=>e)).mono (R':=fun k=>R k \/ Since w w5 k) (fun k hk=>.inr ⟨by have:=hk.1;have:=K3.out.size;omega,by have:=hk.2;omega⟩)
   rwa [zu] at this
  ·exact (HB3.out.keeps k45 (fun _ _ e=>e)).mono (fun k hk=>hk.imp id fun h=>⟨h.1,by have:=h.2;omega⟩)
 have hfl:[be 4 m,be 4 q,b].flatten=recd b:=by rw [HCS.out];simp
 have JA:=qq (zab b5 3 _ _ _ w5 hb5 hL rfl (by omega) (by omega) (by rw [hfl,HLN.out];omega));rw [hfl] at JA;have K5:=qq (K3.out.trans_nb k45);clear hb5 hL hfl n5 k45;go_wp2_with fail;refine JA.out.mono ?_;rintro _ w6 ⟨v6,rfl,hb6,k6⟩;have F:Hid (Bytes w6 (Since w w6) v6 (recd b) /\ Keeps Nb w w6):=qq ⟨hb6.mono (fun k hk=>⟨by have:=hk.1;have:=K5.out.size;omega,hk.2⟩),K5.out.trans_nb k6⟩;clear hb6 k6;go_wp2;go_ret2;exact ⟨v6,rfl,F.out⟩
end Go.Proofs.YtpjomdmjohjheaaGreatDoor
end
section
namespace Go.Proofs.YtpjomdmjohjheaaGreatDoor
open Go.RowKit Go.Lk Go.Vfs Go.Log
theorem zgg (ad:Option Addr) (n c:Nat) (w:World):Calls Tryz.prog 44 #[.slice ad n c] w fun e w'=>∃ a,e=.returned (.func (.func 101) #[] #[.pointer (some ⟨a,0,none⟩)]) /\ NewAt w w' a (.cells #[.slice ad n c] 22):=by
 go_enter Tryz.func44,Tryz.ntmps44;go_wp2_with (first | go_skip | (with_reducible refine zn (t:=22) ?_))
 refine za (vbox1 (v:=.slice ad n c) (by rfl) rfl ?_);intro a w1 n1;simp only [Nat.reduceAdd,qn];have N1:=qq n1;clear n1;go_wp2;go_ret;exact ⟨a,rfl,N1.out⟩
attribute [local go_sem] Oper.semAt_some
def Over (w:World) (its:List (Int × List Nat)) (i:Nat) (args:Array Value) (W:World):Prop :=
 ∃ p v,its[i]?=some p /\ args=#[.int .i64 p.1,v] /\ Bytes W (fun k=>(w.heap.size + 2 <= k /\ k < W.heap.size) /\ IsT W 5 k) v p.2
theorem zd2 (n:Nat) (hn:1 <= n) (a:Nat) (v:Value) (b:List Nat) (R S:Nat -> Prop) (w:World) (ha:w.heap[a]?=some (.cells #[v] 22 (0,0))) (hb:Bytes w R v b) (hl:b.length <= 16777216) (hSa:¬ S a) (hSR:∀ k,R k -> ¬ S k) :
  Iter Tryz.prog n 101 #[.pointer (some ⟨a,0,none⟩)] (items (b.length + 1) 0 b).length (Over w (items (b.length + 1) 0 b)) S w:=by
 intro l J Jx W kW hW2 hJ hJx hY h0;obtain ⟨its,hits⟩:∃ its,items (b.length + 1) 0 b=its:=⟨_,rfl⟩
 have HI:=qq hits;rw [hits] at hY ⊢;obtain ⟨va,vc,rfl,hlc,hcm,hq⟩:=id hb;obtain ⟨m,hm⟩:∃ m,b.length=m:=⟨_,rfl⟩
 have HM:=qq hm;have HA:=qq ha;have HB:=qq hb;have HSA:=qq hSa;have HSR:=qq hSR;have HJ:=qq hJ;have HJX:=qq hJx;have HY:=qq hY;have H0:=qq h0;have HKW:=qq kW;have c0:W.cell? ⟨a,0,none⟩=some (.slice va m vc):=by rw [<- hm];exact (cell_of_block (kW.nb ha)).trans rfl
 rw [hm] at hlc hl;unfold maxLen at hcm;clear ha hb hSa hSR hJ hJx hY h0 hq kW hm hits;refine callsIn_of_wp Tryz.func101 rfl trivial ?_ rfl;simp only [Tryz.ntmps101,List.size_toArray,List.length_cons,List.length_nil,Nat.reduceAdd,Nat.reduceSub,Array.replicate_succ,Array.replicate_zero,List.push_toArray,List.append_toArray,List.nil_append,List.cons_append]
 gi_wp2
 clear c0
 gi_loopw [3] (fun i wr=>∃ (k p f:Nat),k <= its.length /\ p <= m /\ i=.int .i64 p /\ Hid (items f p (b.drop p)=its.drop k /\ m - p < f) /\ J k wr /\ Keeps S W wr) (fun i _=>m - (intOf i).toNat)
 case atStart=>exact ⟨0,0,_,Nat.zero_le _,Nat.zero_le _,rfl,qq ⟨by rw [List.drop_zero,List.drop_zero];exact HI.out,by rw [HM.out];omega⟩,H0.out,Keeps.refl _ _⟩
 case round =>
  obtain ⟨k,p,f,hk,hp,rfl,HIT,hj,kw⟩:=hrel;have HJJ:=qq hj;have KW:=qq kw;have kwHold:=qq kw;have c0:wr.cell? ⟨a,0,none⟩=some (.slice va m vc):=by rw [<- HM.out];exact (cell_of_block (kw.at (HKW.out.nb HA.out) HSA.out)).trans rfl
  have HBW:Hid (Bytes wr R (.slice va m vc) b):=by rw [<- HM.out];exact qq ((HB.out.keeps HKW.out (fun _ _ e=>e)).keeps kw HSR.out)
  obtain ⟨f',hf'⟩:∃ f',f=f' + 1:=⟨f - 1,by have:=HIT.out.2;omega⟩
  subst hf';have hrl:(b.drop p).length=m - p:=by rw [List.length_drop,HM.out]
  have HRL:=qq hrl;clear hj kw hrl;by_cases h8:p + 8 <= m
  ·
   obtain ⟨bb,off,rfl⟩:∃ bb off,va=some ⟨bb,off,none⟩:=by
    obtain ⟨a',c',e,_,_,h4,_⟩:=HBW.out;cases e;rcases h4 with h | ⟨bb,off,h,_⟩
    ·rw [h] at h8;simp at h8
    ·exact ⟨bb,off,h⟩
   have i8:(p:Int) + 8 <= (m:Int):=by omega
   have ncc:¬ vc=p:=by omega
   have hBD:=(Go.Vfs.Bytes.dropD HBW.out p (by rw [HM.out];omega)).2 bb off rfl;have RA:=qq (read_at' _ (b.drop p) R wr hBD (by rw [HRL.out];omega));clear hBD;obtain ⟨rem,hrem⟩:∃ rem,b.drop p=rem:=⟨_,rfl⟩
   have HREM:=qq hrem;rw [hrem] at HIT HRL RA;clear hrem
   repeat (first | (with_reducible refine zg ?_) | (with_reducible refine stop_range ?_) | gi_step)
   refine za (wpIn_wide.2 ?_);go_wp2
   repeat (first | (with_reducible refine zg ?_) | (with_reducible refine stop_range ?_) | gi_step)
   refine za (wpIn_wide.2 ?_);go_wp2_with fail;refine RA.out.mono ?_;rintro _ w2 ⟨g,rfl,k2,hr2,hg2⟩;have K2:=qq k2;have HG2:=qq hg2;have N4:=qq (z4w g 4 (.inl rfl) _ rem w2 hr2 (by rw [HRL.out];omega));clear k2 hr2 hg2 RA;go_wp2
   repeat (first | (with_reducible refine zg ?_) | (with_reducible refine stop_range ?_) | gi_step)
   refine za (wpIn_wide.2 ?_);go_wp2_with fail;refine N4.out.mono ?_;rintro _ w3 ⟨rfl,hr3,k3⟩;have hn1:num (rem.take 4) < 4294967296:=by
    have:=z3y (l:=rem.take 4) (fun z hz=>HB.out.choose_spec.choose_spec.2.2.2.2.1 z (by rw [<- HREM.out] at hz;exact List.mem_of_mem_drop (List.mem_of_mem_take hz)));rw [List.length_take,HRL.out,Nat.min_eq_left (by omega)] at this;omega
   have N5:=qq (z4w g 4 (.inl rfl) _ (rem.drop 4) w3 hr3 (by rw [List.length_drop,HRL.out];omega));have K3:=qq k3;clear hr3 k3 N4;obtain ⟨nn,hnn⟩:∃ nn,num (rem.take 4)=nn:=⟨_,rfl⟩
   obtain ⟨cc,hcc⟩:∃ cc,num ((rem.drop 4).take 4)=cc:=⟨_,rfl⟩
   have HNN:=qq hnn;have HCC:=qq hcc;rw [hnn] at hn1;rw [hnn];rw [hcc] at N5;clear hnn hcc;go_wp2_with fail;refine N5.out.mono ?_;rintro _ w4 ⟨rfl,hr4,k4⟩;rw [List.drop_drop] at hr4;have hl8:(rem.drop (4 + 4)).length=m - p - 8:=by rw [List.length_drop,HRL.out]
   have HL8:=qq hl8;have K4:Hid (Keeps Nb wr w4):=qq ((K2.out.own HG2.out K3.out).own HG2.out k4);have HR4:=qq hr4;have Z4:Hid (w2.heap.size <= w4.heap.size):=qq (Nat.le_trans K3.out.size k4.size);have ZW:=qq (Nat.le_trans hW2 kwHold.out.size);have ZT:Hid (∀ k,k ≠ g -> IsT w2 5 k -> IsT w4 5 k):=qq (fun k hk ht=>(ht.keeps K3.out (fun e=>hk e)).keeps k4 (fun e=>hk e));clear k4 N5 hl8 hr4;go_wp2
   repeat (first | (with_reducible refine zg ?_) | (with_reducible refine stop_range ?_) | gi_step)
   refine za (wpIn_wide.2 ?_);by_cases hB1:m - p - 8 < nn
   ·
    have RB:=qq (z54 g nn _ _ w4 HR4.out (.inr (by rw [HL8.out];omega)));go_wp2_with fail;refine RB.out.mono ?_;rintro _ w5 ⟨rfl,hno,k5⟩;have K5:=qq (K4.out.own HG2.out k5);have FN:=qq (z7s g w5 hno);clear RB k5 hno;go_wp2
    repeat (first | (with_reducible refine zg ?_) | (with_reducible refine stop_range ?_) | gi_step)
    refine za (wpIn_wide.2 ?_);go_wp2_with fail;refine FN.out.mono ?_;rintro _ _ ⟨rfl,rfl⟩;have hend:its.drop k=[]:=by
     rw [<- HIT.out.1,items,if_neg (by rw [HRL.out];omega),HNN.out,if_pos (by rw [HRL.out];omega)]
    have hkl:k=its.length:=by have:=List.drop_eq_nil_iff.1 hend;omega
    have HF:Hid (J its.length w5):=by rw [<- hkl];exact qq (HJ.out _ _ _ HJJ.out K5.out)
    clear hend hkl;go_wp2
    gi_wp2
    refine bodyPost_ret (results_none rfl _ _ _) rfl ?_;exact ⟨⟨_,rfl⟩,.inl HF.out⟩
   ·
    have RB:=qq (z83 g nn _ _ w4 HR4.out (by rw [HL8.out];omega));go_wp2_with fail;refine RB.out.mono ?_;rintro _ w5 ⟨vx,rfl,hx,hr5,k5⟩;have K5:=qq (K4.out.own HG2.out k5);have FN:=qq (z4o g _ _ w5 hr5);obtain ⟨x,hxe⟩:∃ x,(rem.drop (4 + 4)).take nn=x:=⟨_,rfl⟩
    have HX:Hid ((rem.drop 8).take nn=x):=qq hxe;rw [hxe] at hx;have hxl:x.length=nn:=by rw [<- hxe,List.length_take,HL8.out];omega
    have HXL:=qq hxl;obtain ⟨xa,xc,rfl,-⟩:=id hx;rw [hxl] at hx ⊢;have HXB:Hid (Bytes w5 (fun k=>(w.heap.size + 2 <= k /\ k < w5.heap.size) /\ IsT w5 5 k) (.slice xa nn xc) x):=qq (hx.mono (fun k hk=>⟨⟨by have h1:=hk.1.1.1;have h2:=ZW.out;omega,by have h1:=hk.1.1.2;have h2:=Z4.out;have h3:=k5.size;omega⟩,(ZT.out k hk.2 hk.1.2).keeps k5 (fun e=>hk.2 e)⟩));clear RB k5 hr5 hxe hx hxl;go_wp2
    repeat (first | (with_reducible refine zg ?_) | (with_reducible refine stop_range ?_) | gi_step)
    refine za (wpIn_wide.2 ?_);go_wp2_with fail;refine FN.out.mono ?_;rintro _ _ ⟨rfl,rfl⟩;go_wp2
    repeat (first | (with_reducible refine zg ?_) | (with_reducible refine stop_range ?_) | gi_step)
    refine za (wpIn_wide.2 ?_);by_cases hbig:mxr < nn
    ·
     have i9:(1048576:Int) < (nn:Int):=by unfold mxr at hbig;omega
     have hbad:its.drop k=[(-1,[])]:=by rw [<- HIT.out.1,items,if_neg (by rw [HRL.out];omega),HNN.out,if_neg (by rw [HRL.out];omega),if_pos (by rw [HCC.out,HX.out];exact .inl hbig)]
     have hNk:its.length=k + 1:=by have:=congrArg List.length hbad;rw [List.length_drop] at this;simp at this;omega
     have hik:its[k]?=some (-1,[]):=by have:=congrArg (fun l=>l[0]?) hbad;simpa using this
     obtain ⟨fn,tmps,assign,body,hy,hR⟩:=HY.out k #[.int .i64 (-1),.slice none 0 0] w5 (HJ.out _ _ _ HJJ.out K5.out) (by omega) ⟨_,_,hik,rfl,Bytes.nil _ _⟩;have HR:=qq hR;have HNK:=qq hNk;clear hbad hNk hik hR;go_wp2
     repeat (first | (with_reducible refine zg ?_) | (with_reducible refine stop_range ?_) | gi_step)
     refine za ?_
     gi_wp2
     refine HR.out.mono ?_;rintro e W3 (⟨rfl,hJ3,hk3⟩ | ⟨rfl,hJx3⟩)
     ·
      have HF:Hid (J its.length W3):=by rw [HNK.out];exact qq hJ3
      clear hJ3 hk3
      gi_wp2
      refine bodyPost_ret (results_none rfl _ _ _) rfl ?_;exact ⟨⟨_,rfl⟩,.inl HF.out⟩
     ·
      have HF:=qq hJx3;clear hJx3
      gi_wp2
      refine bodyPost_ret (results_none rfl _ _ _) rfl ?_;exact ⟨⟨_,rfl⟩,.inr HF.out⟩
    ·
     have i9:¬ (1048576:Int) < (nn:Int):=by unfold mxr at hbig;omega
     have c5:w5.cell? ⟨a,0,none⟩=some (.slice (some ⟨bb,off,none⟩) m vc):=by rw [<- HM.out];exact (cell_of_block (K5.out.nb (kwHold.out.at (HKW.out.nb HA.out) HSA.out))).trans rfl
     have HB5:Hid (Bytes w5 (fun _=>True) (.slice (some ⟨bb,off + p,none⟩) 4 (vc - p)) (rem.take 4)):=by
      have h1:=(Go.Vfs.Bytes.dropD HBW.out p (by rw [HM.out];omega)).2 bb off rfl;rw [HREM.out] at h1;have h2:=Go.Vfs.Bytes.take (R:=R) (c':=vc - p) (k:=4) h1 (by rw [HRL.out];omega) (by omega) (by unfold maxLen;omega);exact qq ((h2.keeps K5.out (fun _ _ e=>e)).mono (fun _ _=>trivial))
     go_wp2_with (first | go_skip | (with_reducible refine qv (by decide) ?_))
     refine za (zh rfl (zl el27 [.slice (some ⟨bb,off + p,none⟩) 4 (vc - p),.slice xa nn xc] rfl (by simp [List.range'_succ];first | done | rfl | exact ⟨rfl,rfl⟩ | exact ⟨rfl,rfl,rfl⟩ | exact ⟨rfl,rfl,rfl,rfl⟩ | exact ⟨rfl,rfl,rfl,rfl,rfl⟩ | exact ⟨rfl,rfl,rfl,rfl,rfl,rfl⟩) (by simp [Value.cells]) (by simp)) ?_);rintro _ w6 ⟨b6,rfl,n6⟩;simp only [Nat.reduceAdd,qn];have S2:=qq (zb0 b6 _ _ (rem.take 4) x _ w6 n6.blk (HB5.out.keeps n6.k (fun _ _ e=>e)) (HXB.out.keeps n6.k (fun _ _ e=>e) |>.mono (fun _ _=>trivial)) (by rw [List.length_take];omega) (by rw [HXL.out];unfold mxr at hbig;omega));have K6:=qq (K5.out.trans_nb n6.k);have n6K:=qq n6.k;clear n6 HB5 c5;go_wp2_with fail;refine S2.out.mono ?_;rintro _ w7 ⟨rfl,k7⟩;have K7:=qq (K6.out.trans_nb k7);have HXB7:Hid (Bytes w7 (fun k=>(w.heap.size + 2 <= k /\ k < w7.heap.size) /\ IsT w7 5 k) (.slice xa nn xc) x):=by
      have h67:=qq k7.size;exact qq ((HXB.out.keeps n6K.out (fun _ _ e=>e) |>.keeps k7 (fun _ _ e=>e)).mono (fun k hk=>⟨⟨hk.1.1,by have h1:=hk.1.2;have h2:=n6K.out.size;have h3:=h67.out;omega⟩,(hk.2.keeps n6K.out (fun e=>e)).keeps k7 (fun e=>e)⟩))
     have hsl:=z3v (rem.take 4 ++ x);obtain ⟨q,hq⟩:∃ q,csum (rem.take 4 ++ x)=q:=⟨_,rfl⟩
     have HQ:=qq hq;rw [hq] at hsl;rw [hq];clear hq k7 S2 HXB;by_cases hne:q=cc
     ·
      have t1:((q:Int) != (cc:Int))=false:=by simp;omega
      have hgd:its.drop k=(((p + 8 + nn:Nat):Int),x) :: items f' (p + 8 + nn) (rem.drop (8 + nn)):=by
       rw [<- HIT.out.1,items,if_neg (by rw [HRL.out];omega),HNN.out,if_neg (by rw [HRL.out];omega),HX.out,HCC.out,HQ.out,if_neg (by simp;omega)]
      have hkN:k < its.length:=by
       rcases Nat.lt_or_ge k its.length with h | h
       ·exact h
       ·rw [List.drop_of_length_le h] at hgd;cases hgd
      have hik:its[k]?=some (((p + 8 + nn:Nat):Int),x):=by have:=congrArg (fun l=>l[0]?) hgd;simpa using this
      have hnx:items f' (p + 8 + nn) (b.drop (p + 8 + nn))=its.drop (k + 1):=by
       have:=congrArg (List.drop 1) hgd;rw [List.drop_drop] at this;rw [this,<- HREM.out,List.drop_drop,List.drop_one,List.tail_cons,Nat.add_assoc]
      obtain ⟨fn,tmps,assign,body,hy,hR⟩:=HY.out k #[.int .i64 ((p + 8 + nn:Nat):Int),.slice xa nn xc] w7 (HJ.out _ _ _ HJJ.out K7.out) hkN ⟨_,_,hik,rfl,HXB7.out⟩;have hpn:(((p + 8 + nn:Nat):Int))=(p:Int) + (8 + (nn:Int)):=by omega
      rw [hpn] at hy;have HR:=qq hR;have HNX:=qq hnx;have HKN:=qq hkN;clear hgd hkN hik hR hnx hpn;go_wp2
      repeat (first | (with_reducible refine zg ?_) | (with_reducible refine stop_range ?_) | gi_step)
      refine za (wpIn_wide.2 ?_);go_wp2
      repeat (first | (with_reducible refine zg ?_) | (with_reducible refine stop_range ?_) | gi_step)
      refine za ?_
      gi_wp2
      refine HR.out.mono ?_;rintro e W3 (⟨rfl,hJ3,hk3⟩ | ⟨rfl,hJx3⟩)
      ·
       have HF:=qq hJ3;have KF:Hid (Keeps S W W3):=qq ((kwHold.out.trans_nb K7.out).trans hk3 (fun i _ e=>e));have HKN1:=HKN.out;have HFU:Hid (items f' (p + 8 + nn) (b.drop (p + 8 + nn))=its.drop (k + 1) /\ m - (p + 8 + nn) < f'):=qq ⟨HNX.out,by have:=HIT.out.2;omega⟩;clear hJ3 hk3
       gi_wp2
       go_roundw
       case rel=>exact ⟨k + 1,p + 8 + nn,f',by omega,by omega,by go_num,HFU,HF.out,KF.out⟩
       case measure=>simp [intOf];omega
      ·
       have HF:=qq hJx3;clear hJx3
       gi_wp2
       refine bodyPost_ret (results_none rfl _ _ _) rfl ?_;exact ⟨⟨_,rfl⟩,.inr HF.out⟩
     ·
      have t1:((q:Int) != (cc:Int))=true:=by simp;omega
      have hbad:its.drop k=[(-1,[])]:=by rw [<- HIT.out.1,items,if_neg (by rw [HRL.out];omega),HNN.out,if_neg (by rw [HRL.out];omega),if_pos (by rw [HCC.out,HX.out];rw [HQ.out];exact .inr hne)]
      have hNk:its.length=k + 1:=by have:=congrArg List.length hbad;rw [List.length_drop] at this;simp at this;omega
      have hik:its[k]?=some (-1,[]):=by have:=congrArg (fun l=>l[0]?) hbad;simpa using this
      obtain ⟨fn,tmps,assign,body,hy,hR⟩:=HY.out k #[.int .i64 (-1),.slice none 0 0] w7 (HJ.out _ _ _ HJJ.out K7.out) (by omega) ⟨_,_,hik,rfl,Bytes.nil _ _⟩;have HR:=qq hR;have HNK:=qq hNk;clear hbad hNk hik hR;go_wp2
      repeat (first | (with_reducible refine zg ?_) | (with_reducible refine stop_range ?_) | gi_step)
      refine za ?_
      gi_wp2
      refine HR.out.mono ?_;rintro e W3 (⟨rfl,hJ3,hk3⟩ | ⟨rfl,hJx3⟩)
      ·
       have HF:Hid (J its.length W3):=by rw [HNK.out];exact qq hJ3
       clear hJ3 hk3
       gi_wp2
       refine bodyPost_ret (results_none rfl _ _ _) rfl ?_;exact ⟨⟨_,rfl⟩,.inl HF.out⟩
      ·
       have HF:=qq hJx3;clear hJx3
       gi_wp2
       refine bodyPost_ret (results_none rfl _ _ _) rfl ?_;exact ⟨⟨_,rfl⟩,.inr HF.out⟩
  ·
   have hend:its.drop k=[]:=by
    rw [<- HIT.out.1,items,if_pos (by rw [HRL.out];omega)]
   have hkl:k=its.length:=by have:=List.drop_eq_nil_iff.1 hend;omega
   have HKL:=qq hkl;clear hend hkl
   gi_wp2
   go_end0;exact ⟨⟨_,rfl⟩,.inl (HKL.out ▸ HJJ.out)⟩
end Go.Proofs.YtpjomdmjohjheaaGreatDoor
end
