import Derived.Test.YtpjomdmjohjheaaGreatDoorN3
set_option linter.unusedVariables false
set_option linter.unusedSimpArgs false
set_option maxRecDepth 100000
set_option maxHeartbeats 8000000
section
namespace Go.Proofs.YtpjomdmjohjheaaGreatDoor
open Go.RowKit Go.Lk Go.Vfs Go.Log
theorem z6g (D:Dk) (fc:Nat -> Fl) (s:ByteArray):(readOf D fc s).2 ≠ 1:=by
 rcases z04 D s with ⟨q1,q2⟩ | ⟨q1,q2,q3⟩ | ⟨b,q1,q2,q3⟩
 ·unfold readOf;rw [q2];simp
 ·unfold readOf;rw [q3];simp
 ·unfold readOf;rw [q3];simp
def OpenD (w:World) (d:Nat) (Fd Rd:Nat -> Prop) (er:Int) (L:Lg) (Y:Ds) (e:Ending) (w':World):Prop :=
 (er=0 /\ ∃ l Fd' Rd' FL RL,e=.returned (.tuple #[.pointer (some ⟨l,0,none⟩),.int .i64 0]) /\ LgAt w' l d Fd' Rd' FL RL L Y /\ (∀ k,Fd' k -> Fd k \/ w.heap.size <= k) /\ (∀ k,Rd' k -> Rd k \/ w.heap.size <= k) /\ (∀ k,FL k -> w.heap.size <= k) /\ (∀ k,RL k -> w.heap.size <= k) /\ Keeps Fd w w') \/
 (er ≠ 0 /\ e=.returned (.tuple #[.pointer none,.int .i64 er]) /\ Now w w' d Fd Rd Y.D Y.fc)
theorem z8s {w u w':World} {l d:Nat} {Fd Rd FL RL:Nat -> Prop} {L:Lg} {Y:Ds} (h:LNow u w' l d Fd Rd FL RL L Y) (hk:Keeps Fd w u) (hF:∀ k,FL k -> w.heap.size <= k) (hR:∀ k,RL k -> w.heap.size <= k) :
  ∃ Fd' Rd' FL' RL',LgAt w' l d Fd' Rd' FL' RL' L Y /\ (∀ k,Fd' k -> Fd k \/ w.heap.size <= k) /\ (∀ k,Rd' k -> Rd k \/ w.heap.size <= k) /\ (∀ k,FL' k -> w.heap.size <= k) /\ (∀ k,RL' k -> w.heap.size <= k) /\ Keeps Fd w w':=by
 obtain ⟨Fd',Rd',FL',RL',h1,h2,h3,h4,h5,h6⟩:=h;have hz:=hk.size;exact ⟨Fd',Rd',FL',RL',h1,fun k e=>(h2 k e).imp id (fun e=>by omega),fun k e=>(h3 k e).imp id (fun e=>by omega),fun k e=>(h4 k e).elim (hF k) (fun e=>by omega),fun k e=>(h5 k e).elim (hR k) (fun e=>by omega),hk.trans h6 (fun j hj e=>e.elim id (fun e=>by have:=hF j e;omega))⟩
theorem z9v {f:Int} (hf:f ≠ 0) {l l':List Log.Op} {X Y:Ds} {e:Int} (h:askO (erO f :: l) X e Y):askO (erO f :: l') X e Y /\ e=f:=by
 obtain ⟨e1,Z,⟨h1,h2⟩,h3⟩:=h;subst h1 h2;rcases h3 with ⟨h3,h4,h5⟩ | ⟨h3,-⟩
 ·exact ⟨⟨e1,Z,⟨rfl,rfl⟩,.inl ⟨h3,h4,h5⟩⟩,h4⟩
 ·exact absurd h3 hf
def OpP1 (d l n b3 b10 b15 b16:Nat) (f:Int):World -> (Nat -> Prop) -> (Nat -> Prop) -> Prop:=fun w a b=>EB b16 f w a b /\ (DB b3 d w a b /\ LB b10 l w a b /\ NB b15 n w a b)
theorem z9g (d l n b3 b10 b15 b16:Nat) (f:Int):Stable (OpP1 d l n b3 b10 b15 b16 f):=(zr _ _).and ((zr _ _).and ((zr _ _).and (zr _ _)))
def opF1 (b3 b10 b15 b16:Nat):List Fv:=[⟨54,#[],#[.pointer (some ⟨b16,0,none⟩)]⟩,⟨55,#[],#[.pointer (some ⟨b3,0,none⟩),.pointer (some ⟨b10,0,none⟩),.pointer (some ⟨b15,0,none⟩)]⟩,⟨57,#[],#[.pointer (some ⟨b10,0,none⟩),.pointer (some ⟨b15,0,none⟩)]⟩]
theorem op1_l (d l n b3 b10 b15 b16:Nat) (f:Int) (L:Lg) (hn:n <= 4294967296):OpL l d L (OpP1 d l n b3 b10 b15 b16 f) (opF1 b3 b10 b15 b16) [erO f,mkO (sgf L.name n),manO L.name 0 n] [0,3,9] :=
 ⟨(zg2 l d b16 f L).mono (fun _ _ _ h=>h.1),enters_of Tryz.func54 (by kernel_rfl) rfl,by omega,(mk55_c l d b3 b10 b15 n L (by omega)).mono (fun _ _ _ h=>h.2),enters_of Tryz.func55 (by kernel_rfl) rfl,by omega,(zge l d b10 b15 n L hn).mono (fun _ _ _ h=>h.2.2),enters_of Tryz.func57 (by kernel_rfl) rfl,by omega,trivial⟩
theorem z7k:∀ (f at':Nat) (b:List Nat),∀ q ∈ items f at' b,q.1 <= (at' + b.length:Nat)
 | 0,_,_,q,hq=>by simp [items] at hq
 | f + 1,at',b,q,hq=>by
  unfold items at hq;split at hq
  ·simp at hq
  ·
   split at hq
   ·simp at hq
   ·
    split at hq
    ·rw [List.mem_singleton] at hq;subst hq;simp only;omega
    ·
     rename_i h1 h2 h3;rcases List.mem_cons.1 hq with rfl | hq
     ·simp only;omega
     ·have:=z7k f _ _ q hq;rw [List.length_drop] at this;omega
theorem zfa (b:List Nat):(whole b).2.1 <= b.length:=by
 unfold whole wholeI;simp only;cases h:(good (items (b.length + 1) 0 b)).getLast? with
 | none=>simp
 | some q =>
  have h1:=(tw_p _ _ q (List.mem_of_getLast? h)).2;have:=z7k _ _ _ q h1;simp only [Option.map_some,Option.getD_some];omega
theorem zah {X:Ds} (hX:∀ s,(readOf X.D X.fc s).1.length <= 16777216):∀ (ns:List Nat) (L L':Lg) (e e':Nat),rdl X ns L e=some (L',e') -> e <= 16777216 -> e' <= 16777216
 | [],L,L',e,e',h,he=>by simp only [rdl,Option.some.injEq,Prod.mk.injEq] at h;omega
 | n :: ns,L,L',e,e',h,he=>by
  rw [z5n] at h;split at h
  ·exact zah hX ns _ _ _ _ h (Nat.le_trans (zfa _) (hX _))
  ·cases h
theorem zeo {X:Ds} (hX:∀ s,(readOf X.D X.fc s).1.length <= 16777216) {L L':Lg} {s e:Nat} (h:readR X L s (some (L',e))):e <= 16777216:=by
 unfold readR at h;split at h
 ·cases h
 ·
  obtain ⟨ns,-,h⟩:=h;split at h
  ·cases h
  ·
   rename_i L1 _ _;cases hr:rdl X ns L1 0 with
   | none=>rw [hr] at h;cases h
   | some p =>
    rw [hr] at h;obtain ⟨La,ea⟩:=p;simp only [Option.map_some,Option.some.injEq,Prod.mk.injEq] at h;have:=zah hX ns L1 La 0 ea hr (by omega);omega
def OpP2 (d l en b3 b10 b17:Nat):World -> (Nat -> Prop) -> (Nat -> Prop) -> Prop:=fun w a b=>LB b10 l w a b /\ NB b17 en w a b /\ DB b3 d w a b
theorem z9h (d l en b3 b10 b17:Nat):Stable (OpP2 d l en b3 b10 b17):=(zr _ _).and ((zr _ _).and (zr _ _))
def opF2 (d b3 b10 b17:Nat):List Fv:=[⟨60,#[],#[.pointer (some ⟨b10,0,none⟩),.pointer (some ⟨b17,0,none⟩),.pointer (some ⟨b3,0,none⟩)]⟩,⟨62,#[],#[.pointer (some ⟨b3,0,none⟩),.pointer (some ⟨b10,0,none⟩)]⟩,⟨64,#[.pointer (some ⟨d,0,none⟩)],#[]⟩]
theorem op2_l (d l en b3 b10 b17:Nat) (L:Lg) (hen:en <= 33554432):OpL l d L (OpP2 d l en b3 b10 b17) (opF2 d b3 b10 b17) [if L.size=en then nop else cuO L.seg en,syO L.seg,sdO] [1,1,1] :=
 ⟨zfy l d b3 b10 b17 en L hen,enters_of Tryz.func60 (by kernel_rfl) rfl,by omega,(sy62_c l d b3 b10 L).mono (fun _ _ _ h=>⟨h.2.2,h.1⟩),enters_of Tryz.func62 (by kernel_rfl) rfl,by omega,z6k l d L _,enters_of Tryz.func64 (by kernel_rfl) rfl,by omega,trivial⟩
theorem zgj (d:Nat) (Fd Rd:Nat -> Prop) (X:Ds) (nm:ByteArray) (m:Nat) (w:World) (h:DiskAt w d Fd Rd X.D X.fc) (hv:Vars w) (hlow:∀ k,Fd k -> 6 <= k) (hm1:mnB nm=true) (h16:nm.size <= 16) (hs1:1 <= m) (hs2:m <= 1048576) (hp:pot X + 12 <= 999999) :
  Calls Tryz.prog 19 #[.pointer (some ⟨d,0,none⟩),.string nm,.int .i64 m] w fun e w'=>∃ er L Y,openR nm m X er L Y /\ pot Y <= pot X + 12 /\ OpenD w d Fd Rd er L Y e w':=by
 have hb78:∀ (W:World),(Instr.build 78 #[(0,.pointer (some ⟨d,0,none⟩)),(1,.string nm),(2,.int .i64 m)]).run Tryz.prog W=.ok (.agg (lcs d (.slice none 0 0) (.slice none 0 0) (lg0 nm m))) W:=fun _=>by kernel_rfl
 have HB78:=qq hb78;have H:=qq h;have HV:=qq hv;have HLOW:=qq hlow;have HM1:=qq hm1;have hz6:Hid (6 <= w.heap.size):=qq (by have:=hlow d h.fd;have:=h.ltF d h.fd;omega);have hne:=z6g X.D X.fc nm;clear h hv hlow hm1 hb78;go_enter Tryz.func19,Tryz.ntmps19;go_wp2_with (first | go_skip | (with_reducible refine zm (t:=37) ?_))
 refine za (vbox1 (v:=.pointer (some ⟨d,0,none⟩)) (by rfl) rfl ?_);intro b3 w1 n1;simp only [Nat.reduceAdd,qn];have B3:=qq n1.blk;have G3:Hid (w.heap.size <= b3 /\ b3 < w1.heap.size):=qq ⟨n1.ge,n1.lt⟩;have K1:=qq n1.k;clear n1;have c3:w1.cell? ⟨b3,0,none⟩=some (.pointer (some ⟨d,0,none⟩)):=(cell_of_block B3.out).trans rfl;have RA:=qq (z3o d nm X.D Fd Rd X.fc w1 (H.out.nb K1.out) (by unfold maxLen;omega));generalize hro:readOf X.D X.fc nm=ro at RA hne;obtain ⟨bs,er⟩:=ro;clear hro;go_wp2_with fail;refine RA.out.mono ?_;rintro _ w2 ⟨v,rfl,ho,k2⟩;obtain ⟨va,vc,hva,-⟩:=z05 ho;have t1:¬ er=1:=hne;have t2:(er == 1)=false:=by simpa using hne
 have K2:=qq (K1.out.trans_nb k2);have B32:=qq (k2.nb B3.out);have NA:=qq (z56 nm (by unfold maxLen;omega) w2);rw [HM1.out] at NA;subst hva;clear ho k2 RA hne c3;go_wp2_with fail;refine NA.out.mono ?_;rintro _ w3 ⟨rfl,k3⟩;have K3:=qq (K2.out.trans_nb k3);have B33:=qq (k3.nb B32.out);have c33:w3.cell? ⟨b3,0,none⟩=some (.pointer (some ⟨d,0,none⟩)):=(cell_of_block B33.out).trans rfl;clear k3 NA;go_wp2_with (first | go_skip | (with_reducible refine zbk (t:=78) ?_) | (with_reducible refine zm (t:=78) ?_))
 refine za (zw rfl (zfk (by rfl) (by rfl) (by rfl) (HB78.out _)) ?_);simp only [Nat.reduceAdd,qn];go_wp2_with (first | go_skip | (with_reducible refine qv (by decide) ?_))
 refine za (vbox rfl ?_);intro l w4 n4;simp only [Nat.reduceAdd,qn];go_wp2_with (first | go_skip | (with_reducible refine qv (by decide) ?_))
 refine za (valloc (z:=.pointer none) (by kernel_rfl) ?_);intro b10 w5 n5;simp only [Nat.reduceAdd,qn];go_wp2_with (first | go_skip | (with_reducible refine qv (by decide) ?_))
 refine za (zc rfl (zd (v:=.pointer (some ⟨l,0,none⟩)) (n:=1) (by kernel_rfl) (by rfl) (by rfl) n5.blk (by rfl) (by simp [Value.cells]) (by simp [Value.cells,Value.oneCell'])) ?_);intro w6 s6;simp only [Nat.reduceAdd,qn];have B10:=qq s6.blk;have hl10:l < b10:=by have:=n4.lt;have:=n5.ge;omega
 have BL:=qq (s6.k.at (n5.k.nb n4.blk) (fun e=>by omega));have G10:Hid (w3.heap.size <= l /\ l < b10 /\ b10 < w6.heap.size):=qq ⟨n4.ge,hl10,lt_of_block s6.blk⟩;have K36:Hid (Keeps Nb w3 w6):=qq ((n4.k.trans_nb n5.k).own (k:=b10) (by have:=n4.ge;omega) s6.k);have K6:=qq (K3.out.trans_nb K36.out);have B36:=qq (K36.out.nb B33.out);clear n4 n5 s6 hl10 c33;have FND:=qq (ze1 l d nm X Fd Rd w6 (H.out.nb K6.out) ((cell_of_block BL.out).trans rfl) ((cell_of_block BL.out).trans rfl) h16 HM1.out);have c10:w6.cell? ⟨b10,0,none⟩=some (.pointer (some ⟨l,0,none⟩)):=(cell_of_block B10.out).trans rfl;generalize hfr:fndR nm X=fr at FND;obtain ⟨⟨fs,ff⟩,fi,fe⟩:=fr;have HFR:=qq hfr;clear hfr;go_wp2_with fail;refine FND.out.mono ?_;rintro _ w7 ⟨rfl,k7⟩;have K67:=qq k7;have K7:=qq (K6.out.trans_nb k7);clear k7 FND c10;have hfe:(fe=0 \/ fe=10):=by
  have h1:=HFR.out;unfold fndR at h1;split at h1
  ·have:=congrArg (fun p=>p.2.2) h1;simp at this;exact .inl this.symm
  ·
   split at h1
   ·have:=congrArg (fun p=>p.2.2) h1;simp at this;exact .inr this.symm
   ·have:=congrArg (fun p=>p.2.2) h1;simp at this;exact .inl this.symm
 rcases hfe with rfl | rfl
 ·
  have hsz:w.heap.size <= w3.heap.size:=K3.out.size
  have HL0:Hid (LgAt w7 l d Fd Rd (fun k=>k=l) (fun _=>False) (lg0 nm m) X):=qq (by
   have hz3:=G10.out;refine ⟨H.out.nb K7.out,⟨.slice none 0 0,.slice none 0 0,[],K67.out.nb BL.out,Bytes.nil _ _,RowS.nil _ _ _ _ _,BytesL.nil _ _⟩,rfl,?_,fun _ e=>e.elim,?_,fun _ e=>e.elim,?_,?_⟩
   ·rintro k rfl;exact ⟨fun e=>by have:=H.out.ltF k e;omega,fun e=>by have:=H.out.ltR k e;omega⟩
   ·rintro k rfl;have:=K67.out.size;omega
   ·exact ⟨HM1.out,h16,hs2,Nat.zero_le _,Nat.zero_le _,Nat.zero_le _,Nat.zero_le _,fun b hb=>by simp [lg0] at hb,Nat.zero_le _,Nat.zero_le _⟩
   ·
    rintro k (e | e)
    ·exact HLOW.out k e
    ·have:=hz6.out;omega)
  cases fi
  ·
   have HV7:Hid (Vars w7):=qq (HV.out.nb K7.out);have hfn:flook X.D.files (manf nm)=none:=by
    have h1:=HFR.out;unfold fndR at h1;split at h1
    ·assumption
    ·
     split at h1
     ·have:=congrArg (fun p=>p.2.1) h1;simp at this
     ·have:=congrArg (fun p=>p.2.1) h1;simp at this
   have HFN:=qq hfn;have NX:=qq (z6w l d Fd Rd (fun k=>k=l) (fun _=>False) (lg0 nm m) X w7 HL0.out HV7.out);have c10:w7.cell? ⟨b10,0,none⟩=some (.pointer (some ⟨l,0,none⟩)):=(cell_of_block (K67.out.nb B10.out)).trans rfl;have hnxb:nxN nm X <= 2147483647 /\ (nxE nm X=0 -> nxN nm X=nx nm X + 1) /\ (nxE nm X=0 \/ nxE nm X=5):=by
    unfold nxN nxE mxn;split
    ·exact ⟨by omega,by simp,.inr rfl⟩
    ·exact ⟨by omega,by simp,.inl rfl⟩
   have hnm0:(lg0 nm m).name=nm:=rfl;rw [hnm0] at NX;generalize hn:nxN nm X=n at NX hnxb;generalize hf:nxE nm X=f at NX hnxb;have HF:=qq hf;have HNX:=qq hnxb;have hn31:=hnxb.1;clear hfn hn hf hnxb hnm0;go_wp2_with fail;refine NX.out.mono ?_;rintro _ w8 ⟨rfl,k8⟩;go_wp2_with (first | go_skip | (with_reducible refine qv (by decide) ?_))
   refine za (valloc (z:=.int .i64 0) (by kernel_rfl) ?_);intro b15 w9 n9;simp only [Nat.reduceAdd,qn];go_wp2_with (first | go_skip | (with_reducible refine qv (by decide) ?_))
   refine za (valloc (z:=.int .i64 0) (by kernel_rfl) ?_);intro b16 w10 n10;simp only [Nat.reduceAdd,qn];go_wp2_with (first | go_skip | (with_reducible refine qv (by decide) ?_))
   refine za (zc rfl (zd (v:=.int .i64 (n:Nat)) (n:=1) (by kernel_rfl) (by rfl) (by rfl) (n10.k.nb n9.blk) (by rfl) (by simp [Value.cells]) (by simp [Value.cells,Value.oneCell'])) ?_);intro w11 s11;simp only [Nat.reduceAdd,qn];go_wp2_with (first | go_skip | (with_reducible refine qv (by decide) ?_))
   refine za (zc rfl (zd (v:=.int .i64 f) (n:=1) (by kernel_rfl) (by rfl) (by rfl) (s11.k.at n10.blk (fun e=>by have:=n9.lt;have:=n10.ge;omega)) (by rfl) (by simp [Value.cells]) (by simp [Value.cells,Value.oneCell'])) ?_);intro w12 s12;simp only [Nat.reduceAdd,qn];have h1516:b15 < b16:=by have:=n9.lt;have:=n10.ge;omega
   have B16:=qq s12.blk;have B15:=qq (s12.k.at s11.blk (fun e=>by omega));have hz8:=k8.size;have G15:Hid (w7.heap.size <= b15 /\ b15 < b16 /\ b16 < w12.heap.size):=qq ⟨by have:=n9.ge;omega,h1516,lt_of_block s12.blk⟩;have K712:Hid (Keeps Nb w7 w12):=qq ((((k8.trans_nb n9.k).trans_nb n10.k).own (k:=b15) (by have:=n9.ge;omega) s11.k).own (k:=b16) (by have:=n9.ge;omega) s12.k);have K12:=qq (K7.out.trans_nb K712.out);have B310:=qq (K712.out.nb (K67.out.nb B36.out));have B1012:=qq (K712.out.nb (K67.out.nb B10.out));have BL12:=qq (K712.out.nb (K67.out.nb BL.out));have HL12:=qq (HL0.out.nb K712.out);clear k8 n9 n10 s11 s12 NX c10 hz8 h1516;go_wp2;have hlb:b10 ≠ l /\ b15 ≠ l /\ b16 ≠ l /\ b3 ≠ l:=by have:=G10.out;have:=G15.out;have:=K67.out.size;have:=G3.out;have h1:=lt_of_block B33.out;refine ⟨?_,?_,?_,?_⟩ <;> omega
   have c1012:w12.cell? ⟨b10,0,none⟩=some (.pointer (some ⟨l,0,none⟩)):=(cell_of_block B1012.out).trans rfl;have c1512:w12.cell? ⟨b15,0,none⟩=some (.int .i64 (n:Nat)):=(cell_of_block B15.out).trans rfl;refine WT.region (fun u=>u.cell? ⟨b10,0,none⟩=some (.pointer (some ⟨l,0,none⟩)) /\ u.cell? ⟨b15,0,none⟩=some (.int .i64 (n:Nat))) 11 14 [0,1,2,3,4,5,6,7,8,9,10,11,12,13] (by kernel_rfl) rfl ?_;have HS:Hid ((fun u:World=>u.cell? ⟨b10,0,none⟩=some (.pointer (some ⟨l,0,none⟩)) /\ u.cell? ⟨b15,0,none⟩=some (.int .i64 (n:Nat))) w12.drew):=qq ⟨c1012,c1512⟩;refine WT.t 0 (v:=.pointer (some ⟨l,0,none⟩)) (y:=by rintro w ⟨C1,C2⟩;exact zb (by kernel_rfl) (by rfl) C1) (s:=HS.out) (h:=?_);refine WT.t 1 (v:=.pointer (some ⟨l,0,none⟩)) (y:=by rintro w ⟨C1,C2⟩;exact zb (by kernel_rfl) (by rfl) C1) (s:=HS.out) (h:=?_);refine WT.t 2 (v:=.pointer (some ⟨l,0,none⟩)) (y:=by rintro w ⟨C1,C2⟩;exact zb (by kernel_rfl) (by rfl) C1) (s:=HS.out) (h:=?_);refine WT.t 3 (v:=.int .i64 (n:Nat)) (y:=by rintro w ⟨C1,C2⟩;exact zb (by kernel_rfl) (by rfl) C2) (s:=HS.out) (h:=?_);refine WT.t 4 (v:=.int .i64 (n:Nat)) (y:=by rintro w ⟨C1,C2⟩;exact zb (by kernel_rfl) (by rfl) C2) (s:=HS.out) (h:=?_);refine WT.t 5 (v:=_) (y:=by rintro w ⟨C1,C2⟩;go_simp;with_reducible rfl) (s:=HS.out) (h:=?_);refine WT.t 6 (v:=_) (y:=by rintro w ⟨C1,C2⟩;go_simp;with_reducible rfl) (s:=HS.out) (h:=?_);refine WT.onlySkipE 7 (by simp only [qi];rfl) (by kernel_rfl) (by rfl) (zd (w:=w12.drew) (v:=.int .i64 (n:Nat)) (n:=1) (by kernel_rfl) (by rfl) (by rfl) BL12.out (by rfl) (by simp [Value.cells,lcs]) (by simp [Value.cells,Value.oneCell'])) ?_;intro w13 s13;replace HS:Hid ((fun u:World=>u.cell? ⟨b10,0,none⟩=some (.pointer (some ⟨l,0,none⟩)) /\ u.cell? ⟨b15,0,none⟩=some (.int .i64 (n:Nat))) w13):=qq ⟨(s13.k.cell (p:=⟨b10,0,none⟩) (lt_of_cell (w:=w12.drew) c1012) hlb.1).trans c1012,(s13.k.cell (p:=⟨b15,0,none⟩) (lt_of_cell (w:=w12.drew) c1512) hlb.2.1).trans c1512⟩;refine ⟨HS.out,?_⟩;simp only [Nat.reduceAdd,qn];refine WT.t 8 (v:=_) (y:=by rintro w ⟨C1,C2⟩;go_simp;with_reducible rfl) (s:=HS.out) (h:=?_);refine WT.t 9 (v:=_) (y:=by rintro w ⟨C1,C2⟩;go_simp;with_reducible rfl) (s:=HS.out) (h:=?_);refine WT.onlySkipE 10 (by simp only [qi];rfl) (by kernel_rfl) (by rfl) (zd (v:=.int .i64 (n:Nat)) (n:=1) (by kernel_rfl) (by rfl) (by rfl) s13.blk (by rfl) (by simp [Value.cells,lcs,splice]) (by simp [Value.cells,Value.oneCell'])) ?_;intro w14 s14;have HS2:=HS.out;replace HS:Hid ((fun u:World=>u.cell? ⟨b10,0,none⟩=some (.pointer (some ⟨l,0,none⟩)) /\ u.cell? ⟨b15,0,none⟩=some (.int .i64 (n:Nat))) w14):=qq ⟨(s14.k.cell (p:=⟨b10,0,none⟩) (lt_of_cell HS2.1) hlb.1).trans HS2.1,(s14.k.cell (p:=⟨b15,0,none⟩) (lt_of_cell HS2.2) hlb.2.1).trans HS2.2⟩;clear HS2;refine ⟨HS.out,?_⟩;simp only [Nat.reduceAdd,qn];refine WT.stop (by kernel_rfl) ?_;refine WP.o 11 (v:=_) (y:=by go_simp;first | with_reducible rfl | exact ⟨rfl,rfl⟩) (h:=?_);refine WP.o 12 (v:=_) (y:=by go_simp;first | with_reducible rfl | exact ⟨rfl,rfl⟩) (h:=?_);refine WP.onlySkipE 13 (by simp only [qi];rfl) (by kernel_rfl) (by rfl) (zd (v:=.int .i64 1) (n:=1) (by kernel_rfl) (by rfl) (by rfl) s14.blk (by rfl) (by simp [Value.cells,lcs,splice]) (by simp [Value.cells,Value.oneCell'])) ?_;intro w15 s15;simp only [Nat.reduceAdd,qn];refine WP.done (by kernel_rfl) ?_;have S15:SetAt w12 w15 l (.cells (lcs d (.slice none 0 0) (.slice none 0 0) { lg0 nm m with first:=n,segment:=n,segments:=1 }) 78 (0,0)):=⟨s15.blk,(((Keeps.refl (·=l) w12).drew.trans s13.k (fun _ _ e=>e)).trans s14.k (fun _ _ e=>e)).trans s15.k (fun _ _ e=>e)⟩
   have hL15:LgAt w15 l d Fd Rd (fun k=>k=l) (fun _=>False) { lg0 nm m with first:=n,segment:=n,segments:=1 } X :=
    HL12.out.setL (sv:=.slice none 0 0) (lv:=.slice none 0 0) BL12.out S15 rfl rfl rfl ⟨HM1.out,h16,hs2,(by show n <= _;omega),(by show n <= _;omega),(by show 1 <= _;omega),Nat.zero_le _,fun b hb=>by simp [lg0] at hb,Nat.zero_le _,Nat.zero_le _⟩
   have HL15:=qq hL15;have HV15:Hid (Vars w15):=qq ((HV.out.nb K12.out).keeps S15.k (fun k hk e=>by have:=hL15.low k (.inr e);omega));have B315:=qq (S15.k.at B310.out hlb.2.2.2);have B1015:=qq (S15.k.at B1012.out hlb.1);have B1515:=qq (S15.k.at B15.out hlb.2.1);have B1615:=qq (S15.k.at B16.out hlb.2.2.1);have hlw:w.heap.size <= l:=by have:=G10.out;omega
   have K15:Hid (Keeps Fd w w15):=qq ((K12.out.of_nb).trans S15.k (fun j hj e=>by have e:j=l:=e;omega));have HLB:=qq hlb;have HLW:=qq hlw;have HZ:=qq S15.k.size;clear s13 s14 s15 S15 hL15 HS c1012 c1512 hlb hlw;have c1015:w15.cell? ⟨b10,0,none⟩=some (.pointer (some ⟨l,0,none⟩)):=(cell_of_block B1015.out).trans rfl;go_wp2_with (first | go_skip | (with_reducible refine qv (by decide) ?_))
   refine za (zi rfl (zl el138 ((opF1 b3 b10 b15 b16).map Fv.v) rfl (by simp [List.range'_succ];first | done | rfl | exact ⟨rfl,rfl⟩ | exact ⟨rfl,rfl,rfl⟩ | exact ⟨rfl,rfl,rfl,rfl⟩ | exact ⟨rfl,rfl,rfl,rfl,rfl⟩ | exact ⟨rfl,rfl,rfl,rfl,rfl,rfl⟩) (by simp [Value.cells,opF1,Fv.v]) (by simp [opF1])) ?_);rintro _ w16 ⟨b20,rfl,n16⟩;simp only [Nat.reduceAdd,qn];have K1516:=qq n16.k;have nof:∀ k,w.heap.size <= k -> k ≠ l -> ¬ Fd k /\ ¬ k=l:=fun k h1 h2=>⟨fun e=>by have:=H.out.ltF k e;omega,h2⟩
   have hP:OpP1 d l n b3 b10 b15 b16 f w16 Fd (fun k=>k=l):=by
    have:=G3.out;have:=G10.out;have:=G15.out;have:=HLB.out;have hk7:=K7.out.size;exact ⟨⟨n16.k.nb B1615.out,nof b16 (by omega) this.2.2.1⟩,⟨n16.k.nb B315.out,nof b3 (by omega) this.2.2.2⟩,⟨n16.k.nb B1015.out,nof b10 (by omega) this.1⟩,⟨n16.k.nb B1515.out,nof b15 (by omega) this.2.1⟩⟩
   have hrow:Has w16 (some ⟨b20,0,none⟩) ((opF1 b3 b10 b15 b16).map Fv.v):=zt n16.blk;have AR:=qq (z16 (n:=3) (z9g d l n b3 b10 b15 b16 f) (op1_l d l n b3 b10 b15 b16 f { lg0 nm m with first:=n,segment:=n,segments:=1 } (by omega)) (HL15.out.nb n16.k) (HV15.out.nb n16.k) hP rfl (by omega) (by simpa using hp) hrow (by have h1:=n16.ge;have h2:=HZ.out;have h3:=K12.out.size;have h4:=BL12.out;have h5:=lt_of_block h4;exact nof b20 (by omega) (by omega)));have NOF:=qq nof;clear hP hrow n16 nof c1015;go_wp2_with fail;refine AR.out.mono ?_;rintro e w17 ⟨er2,Y,L',rfl,hnow,hask,hL',hpot⟩;have hb17:w17.cell? ⟨b10,0,none⟩=some (.pointer (some ⟨l,0,none⟩)):=by
    obtain ⟨_,_,_,_,_,_,_,_,_,hk⟩:=hnow;have h1:=NOF.out b10 (by have:=G10.out;have:=K3.out.size;omega) HLB.out.1;exact (cell_of_block (hk.at (K1516.out.nb B1015.out) (fun e=>e.elim h1.1 h1.2))).trans rfl
   have hfin:=z8s hnow (K15.out.trans_nb K1516.out) (fun k e=>by have:=HLW.out;omega) (fun k e=>e.elim)
   have HOR:Hid (∃ L2,openR nm m X er2 L2 Y /\ (er2=0 -> L2=L')):=qq (by
    rcases HNX.out.2.2 with h0 | h0
    ·
     have hn:=HNX.out.2.1 h0;subst h0;refine ⟨{ lg0 nm m with first:=nx nm X + 1,segment:=nx nm X + 1,segments:=1 },.inl ⟨HFN.out,?_,rfl⟩,fun h=>?_⟩
     ·rw [HF.out,<- hn];exact hask
     ·rw [hL',if_pos h,<- hn]
    ·
     subst h0;have h1:=z9v (l':=[mkO (sgf nm (nx nm X + 1)),manO nm 0 (nx nm X + 1)]) (by decide) hask
     refine ⟨_,.inl ⟨HFN.out,by rw [HF.out];exact h1.1,rfl⟩,fun h=>by rw [h1.2] at h;cases h⟩)
   have HFI:=qq hfin;have HPO:=qq hpot;clear hnow hask hL' hpot hfin AR;have hpo:pot Y <= pot X + 12:=by have:=HPO.out;simpa using this
   have HPO2:=qq hpo;clear hpo HPO;by_cases he:er2=0
   ·subst he;go_wp2;go_ret2;obtain ⟨L2,h1,h2⟩:=HOR.out;obtain ⟨Fd',Rd',FL',RL',g1,g2,g3,g4,g5,g6⟩:=HFI.out;rw [<- h2 (by simp)] at g1;exact ⟨0,L2,Y,h1,HPO2.out,.inl ⟨rfl,l,Fd',Rd',FL',RL',rfl,g1,g2,g3,g4,g5,g6⟩⟩
   ·
    have HE:=qq he;have t9:(er2 != 0)=true:=by simpa using he
    clear he;go_wp2;go_ret2;obtain ⟨L2,h1,h2⟩:=HOR.out;obtain ⟨Fd',Rd',FL',RL',g1,g2,g3,g4,g5,g6⟩:=HFI.out;exact ⟨er2,L2,Y,h1,HPO2.out,.inr ⟨HE.out,rfl,Fd',Rd',g1.disk,g2,g3,g6⟩⟩
  ·
   obtain ⟨fb,hfb,hbi⟩:∃ fb,flook X.D.files (manf nm)=some fb /\ (oneR X (manf nm)).bind manN=some (fs,ff):=by
    have h1:=HFR.out;unfold fndR at h1;split at h1
    ·have:=congrArg (fun p=>p.2.1) h1;simp at this
    ·
     rename_i b hb;split at h1
     ·have:=congrArg (fun p=>p.2.2) h1;simp at this
     ·rename_i p hp';have h2:=congrArg (fun p=>p.1) h1;simp only at h2;subst h2;exact ⟨b,hb,hp'⟩
   have hfs:fs <= mxn /\ 1 <= ff /\ ff <= mxn:=by
    cases ho:oneR X (manf nm) with
    | none=>rw [ho] at hbi;cases hbi
    | some b =>
     rw [ho] at hbi;have hbi:manN b=some (fs,ff):=hbi;unfold manN at hbi;split at hbi
     ·rename_i hc;simp only [Option.some.injEq,Prod.mk.injEq] at hbi;obtain ⟨rfl,rfl⟩:=hbi;exact hc.2
     ·cases hbi
   have HFB:=qq hfb;have HBI:=qq hbi;have HFS:=qq hfs;have hff:ff <= 4294967296:=by have:=hfs.2.2;unfold mxn at this;omega
   clear hfb hbi hfs;have BL7:=qq (K67.out.nb BL.out);have B107:=qq (K67.out.nb B10.out);have B37:=qq (K67.out.nb B36.out);have hlb:b10 ≠ l /\ b3 ≠ l:=by have:=G10.out;have:=G3.out;have h1:=lt_of_block B33.out;refine ⟨?_,?_⟩ <;> omega
   have c107:w7.cell? ⟨b10,0,none⟩=some (.pointer (some ⟨l,0,none⟩)):=(cell_of_block B107.out).trans rfl;go_wp2_with (first | go_skip | (with_reducible refine qv (by decide) ?_))
   refine za (zc rfl (zd (v:=.int .i64 (ff:Nat)) (n:=1) (by kernel_rfl) (by rfl) (by rfl) BL7.out (by rfl) (by simp [Value.cells,lcs]) (by simp [Value.cells,Value.oneCell'])) ?_);intro w8 s8;simp only [Nat.reduceAdd,qn]
   have hL8:LgAt w8 l d Fd Rd (fun k=>k=l) (fun _=>False) { lg0 nm m with first:=ff } X :=
    HL0.out.setL (sv:=.slice none 0 0) (lv:=.slice none 0 0) BL7.out s8 rfl rfl rfl ⟨HM1.out,h16,hs2,hff,Nat.zero_le _,Nat.zero_le _,Nat.zero_le _,fun b hb=>by simp [lg0] at hb,Nat.zero_le _,Nat.zero_le _⟩
   have HV8:Hid (Vars w8):=qq ((HV.out.nb K7.out).keeps s8.k (fun k hk e=>by have:=hL8.low k (.inr e);omega));have RD:=qq (zea l d fs Fd Rd (fun k=>k=l) (fun _=>False) _ X w8 hL8 HV8.out HFS.out.1 rfl);have hlw:w.heap.size <= l:=by have:=G10.out;omega
   have K8:Hid (Keeps Fd w w8):=qq ((K7.out.of_nb).trans s8.k (fun j hj e=>by have e:j=l:=e;omega));have B108:=qq (s8.k.at B107.out hlb.1);have B38:=qq (s8.k.at B37.out hlb.2);have HL8:=qq hL8;have HLB:=qq hlb;have HLW:=qq hlw;have G8:Hid (w7.heap.size <= w8.heap.size):=qq s8.k.size;have c108:w8.cell? ⟨b10,0,none⟩=some (.pointer (some ⟨l,0,none⟩)):=(cell_of_block B108.out).trans rfl;clear s8 hL8 hlb hlw c107;go_wp2_with fail;refine RD.out.mono ?_;rintro e9 w9 ⟨r,hrr,hrd⟩;have HRR:=qq hrr;cases r with
   | none =>
    obtain ⟨rfl,hda,hkk⟩:=hrd;have NW:Hid (Now w w9 d Fd Rd X.D X.fc):=qq (Now.of hda (K8.out.trans hkk (fun j hj e=>by have e:j=l:=e;have:=HLW.out;omega)));clear hda hkk RD hrr;go_wp2_with (first | go_skip | (with_reducible refine qv (by decide) ?_))
    refine za (valloc (z:=.int .i64 0) (by kernel_rfl) ?_);intro b17 w10 n10;simp only [Nat.reduceAdd,qn];go_wp2_with (first | go_skip | (with_reducible refine qv (by decide) ?_))
    refine za (zc rfl (zd (v:=.int .i64 0) (n:=1) (by kernel_rfl) (by rfl) (by rfl) n10.blk (by rfl) (by simp [Value.cells]) (by simp [Value.cells,Value.oneCell'])) ?_);intro w11 s11;simp only [Nat.reduceAdd,qn];have NW2:=qq (NW.out.nb (n10.k.own (k:=b17) n10.ge s11.k));clear n10 s11;go_wp2;go_ret2;exact ⟨10,lg0 nm m,X,.inr (.inr ⟨fb,fs,ff,none,HFB.out,HBI.out,HRR.out,.inl ⟨rfl,rfl,rfl⟩⟩),by omega,.inr ⟨by decide,rfl,NW2.out⟩⟩
   | some p =>
    obtain ⟨L1,en⟩:=p;obtain ⟨rfl,hup⟩:=hrd;have hen:en <= 16777216:=zeo (fun s=>(z18 H.out s).1) hrr;have HUP:=qq hup;clear RD hrr hup c108;go_wp2_with (first | go_skip | (with_reducible refine qv (by decide) ?_))
    refine za (valloc (z:=.int .i64 0) (by kernel_rfl) ?_);intro b17 w10 n10;simp only [Nat.reduceAdd,qn];go_wp2_with (first | go_skip | (with_reducible refine qv (by decide) ?_))
    refine za (zc rfl (zd (v:=.int .i64 (en:Nat)) (n:=1) (by kernel_rfl) (by rfl) (by rfl) n10.blk (by rfl) (by simp [Value.cells]) (by simp [Value.cells,Value.oneCell'])) ?_);intro w11 s11;simp only [Nat.reduceAdd,qn];have K911:Hid (Keeps Nb w9 w11):=qq (n10.k.own (k:=b17) n10.ge s11.k);have B17:=qq s11.blk;obtain ⟨FL1,RL1,hg9,hf1,hr1,hk1⟩:=HUP.out;have hg9s:=hg9.ltF;have hz89:=hk1.size;have HG11:=qq (hg9.nb K911.out);have B1011:=qq (K911.out.nb (hk1.at B108.out HLB.out.1));have B311:=qq (K911.out.nb (hk1.at B38.out HLB.out.2));have HV11:Hid (Vars w11):=qq ((HV8.out.keeps hk1 (fun k hk e=>by have:=HL8.out.low k (.inr e);omega)).nb K911.out);have K11:Hid (Keeps Fd w w11):=qq ((K8.out.trans hk1 (fun j hj e=>by have e:j=l:=e;have:=HLW.out;omega)).trans_nb K911.out);have hb17:=n10.ge
    have NOF:Hid ((¬ Fd b17 /\ ¬ FL1 b17) /\ (¬ Fd b10 /\ ¬ FL1 b10) /\ (¬ Fd b3 /\ ¬ FL1 b3) /\ b17 ≠ l /\ w9.heap.size <= b17 /\ w8.heap.size <= w9.heap.size):=qq (by
     have h1:=lt_of_block B108.out;have h2:=lt_of_block B38.out;have h3:=G3.out;have h4:=G10.out;have h5:=K3.out.size;have h6:=K8.out.size;have hd:∀ k,w.heap.size <= k -> ¬ Fd k:=fun k hk e=>by have:=H.out.ltF k e;omega
     refine ⟨⟨hd _ (by omega),fun e=>by have:=hg9s b17 e;omega⟩,⟨hd _ (by omega),fun e=>(hf1 b10 e).elim HLB.out.1 (fun e=>by omega)⟩,⟨hd _ (by omega),fun e=>(hf1 b3 e).elim HLB.out.2 (fun e=>by omega)⟩,fun e=>by have:=lt_of_block B108.out;have:=hg9s l hg9.fl;omega,hb17,hz89⟩)
    have HF1:=qq hf1;have HR1:=qq hr1;have hen2:en <= 33554432:=by omega
    clear n10 s11 hg9 hf1 hr1 hk1 hg9s hz89 hb17 HUP;have c1011:w11.cell? ⟨b10,0,none⟩=some (.pointer (some ⟨l,0,none⟩)):=(cell_of_block B1011.out).trans rfl;have c311:w11.cell? ⟨b3,0,none⟩=some (.pointer (some ⟨d,0,none⟩)):=(cell_of_block B311.out).trans rfl;go_wp2_with (first | go_skip | (with_reducible refine qv (by decide) ?_))
    refine za (zi rfl (zl el138 ((opF2 d b3 b10 b17).map Fv.v) rfl (by simp [List.range'_succ];first | done | rfl | exact ⟨rfl,rfl⟩ | exact ⟨rfl,rfl,rfl⟩ | exact ⟨rfl,rfl,rfl,rfl⟩ | exact ⟨rfl,rfl,rfl,rfl,rfl⟩ | exact ⟨rfl,rfl,rfl,rfl,rfl,rfl⟩) (by simp [Value.cells,opF2,Fv.v]) (by simp [opF2])) ?_);rintro _ w12 ⟨b20,rfl,n12⟩;simp only [Nat.reduceAdd,qn];have K1112:=qq n12.k;have hP:OpP2 d l en b3 b10 b17 w12 Fd FL1:=⟨⟨n12.k.nb B1011.out,NOF.out.2.1⟩,⟨n12.k.nb B17.out,NOF.out.1⟩,⟨n12.k.nb B311.out,NOF.out.2.2.1⟩⟩
    have hrow:Has w12 (some ⟨b20,0,none⟩) ((opF2 d b3 b10 b17).map Fv.v):=zt n12.blk;have AR:=qq (z16 (n:=3) (z9h d l en b3 b10 b17) (op2_l d l en b3 b10 b17 L1 hen2) (HG11.out.nb n12.k) (HV11.out.nb n12.k) hP rfl (by omega) (by simp;omega) hrow (zq HG11.out n12.ge));clear hP hrow n12 c1011 c311;go_wp2_with fail;refine AR.out.mono ?_;rintro e w13 ⟨er2,Y,L',rfl,hnow,hask,hL',hpot⟩;obtain ⟨Fd',Rd',FL',RL',g1,g2,g3,g4,g5,g6⟩:=hnow;have B1013:=qq (g6.at (K1112.out.nb B1011.out) (fun e=>e.elim NOF.out.2.1.1 NOF.out.2.1.2));have B1713:=qq (g6.at (K1112.out.nb B17.out) (fun e=>e.elim NOF.out.1.1 NOF.out.1.2));obtain ⟨sv,lv,vs,e1,e2,e3,e4⟩:=g1.ex;have hlr:L'.recs=L1.recs /\ L'.name=L1.name:=by rw [hL'];split <;> exact ⟨rfl,rfl⟩
    have E1:=qq e1;obtain ⟨-,-,la,lc,rfl,-⟩:=id e3;rw [hlr.1] at E1 e3;have HLR:=qq hlr;have G1:=qq g1;have G2:=qq g2;have G3':=qq g3;have G4:=qq g4;have G5:=qq g5;have G6:=qq g6;have HASK:=qq hask;have HL':=qq hL';have HPO:=qq hpot;clear g1 g2 g3 g4 g5 g6 e1 e2 e3 e4 hlr hask hL' hpot AR;have c1013:w13.cell? ⟨b10,0,none⟩=some (.pointer (some ⟨l,0,none⟩)):=(cell_of_block B1013.out).trans rfl;go_wp2;refine WT.region (fun u=>u.cell? ⟨b10,0,none⟩=some (.pointer (some ⟨l,0,none⟩)) /\ u.cell? ⟨b17,0,none⟩=some (.int .i64 (en:Nat)) /\ u.cell? ⟨l,9,none⟩=some (.slice la L1.recs.length lc)) 11 14 [0,1,2,3,4,5,6,7,8,9,10,11,12,13] (by kernel_rfl) rfl ?_;have c17:w13.cell? ⟨b17,0,none⟩=some (.int .i64 (en:Nat)):=(cell_of_block B1713.out).trans rfl;have c9:w13.cell? ⟨l,9,none⟩=some (.slice la L1.recs.length lc):=(cell_of_block E1.out).trans rfl;have HS:Hid ((fun u:World=>u.cell? ⟨b10,0,none⟩=some (.pointer (some ⟨l,0,none⟩)) /\ u.cell? ⟨b17,0,none⟩=some (.int .i64 (en:Nat)) /\ u.cell? ⟨l,9,none⟩=some (.slice la L1.recs.length lc)) w13.drew):=qq ⟨c1013,c17,c9⟩;refine WT.t 0 (v:=.pointer (some ⟨l,0,none⟩)) (y:=by rintro w ⟨C1,C2,C3⟩;exact zb (by kernel_rfl) (by rfl) C1) (s:=HS.out) (h:=?_);refine WT.t 1 (v:=.pointer (some ⟨l,0,none⟩)) (y:=by rintro w ⟨C1,C2,C3⟩;exact zb (by kernel_rfl) (by rfl) C1) (s:=HS.out) (h:=?_);refine WT.t 2 (v:=.int .i64 (en:Nat)) (y:=by rintro w ⟨C1,C2,C3⟩;exact zb (by kernel_rfl) (by rfl) C2) (s:=HS.out) (h:=?_);refine WT.t 3 (v:=.pointer (some ⟨l,0,none⟩)) (y:=by rintro w ⟨C1,C2,C3⟩;exact zb (by kernel_rfl) (by rfl) C1) (s:=HS.out) (h:=?_);refine WT.t 4 (v:=_) (y:=by rintro w ⟨C1,C2,C3⟩;go_simp;with_reducible rfl) (s:=HS.out) (h:=?_);refine WT.t 5 (v:=_) (y:=by rintro w ⟨C1,C2,C3⟩;go_simp;with_reducible rfl) (s:=HS.out) (h:=?_);refine WT.t 6 (v:=.slice la L1.recs.length lc) (y:=by rintro w ⟨C1,C2,C3⟩;exact zb (by kernel_rfl) (by rfl) C3) (s:=HS.out) (h:=?_);refine WT.t 7 (v:=_) (y:=by rintro w ⟨C1,C2,C3⟩;go_simp;with_reducible rfl) (s:=HS.out) (h:=?_);refine WT.t 8 (v:=_) (y:=by rintro w ⟨C1,C2,C3⟩;go_simp;with_reducible rfl) (s:=HS.out) (h:=?_);refine WT.t 9 (v:=_) (y:=by rintro w ⟨C1,C2,C3⟩;go_simp;with_reducible rfl) (s:=HS.out) (h:=?_);refine WT.onlySkipE 10 (by simp only [qi];rfl) (by kernel_rfl) (by rfl) (zd (w:=w13.drew) (v:=.int .i64 (en:Nat)) (n:=1) (by kernel_rfl) (by rfl) (by rfl) E1.out (by rfl) (by simp [Value.cells,lcs]) (by simp [Value.cells,Value.oneCell'])) ?_;intro w14 s14
    have hS14:w14.cell? ⟨b10,0,none⟩=some (.pointer (some ⟨l,0,none⟩)) /\ w14.cell? ⟨b17,0,none⟩=some (.int .i64 (en:Nat)) /\ w14.cell? ⟨l,9,none⟩=some (.slice la L1.recs.length lc) :=
     ⟨(s14.k.cell (p:=⟨b10,0,none⟩) (lt_of_cell (w:=w13.drew) c1013) HLB.out.1).trans c1013,(s14.k.cell (p:=⟨b17,0,none⟩) (lt_of_cell (w:=w13.drew) c17) NOF.out.2.2.2.1).trans c17,(cell_of_block s14.blk).trans rfl⟩
    refine ⟨hS14,?_⟩;simp only [Nat.reduceAdd,qn];refine WT.stop (by kernel_rfl) ?_;refine WP.o 11 (v:=_) (y:=by go_simp;first | with_reducible rfl | exact ⟨rfl,rfl⟩) (h:=?_);refine WP.o 12 (v:=_) (y:=by go_simp;first | with_reducible rfl | exact ⟨rfl,rfl⟩) (h:=?_);refine WP.onlySkipE 13 (by simp only [qi];rfl) (by kernel_rfl) (by rfl) (zd (v:=.int .i64 (L1.recs.length:Nat)) (n:=1) (by kernel_rfl) (by rfl) (by rfl) s14.blk (by rfl) (by simp [Value.cells,lcs,splice]) (by simp [Value.cells,Value.oneCell'])) ?_;intro w15 s15;simp only [Nat.reduceAdd,qn];refine WP.done (by kernel_rfl) ?_;have S15:SetAt w13 w15 l (.cells (lcs d sv (.slice la L1.recs.length lc) { L' with size:=en,synced:=L1.recs.length }) 78 (0,0)):=⟨s15.blk,((Keeps.refl (·=l) w13).drew.trans s14.k (fun _ _ e=>e)).trans s15.k (fun _ _ e=>e)⟩
    have hg15:LgAt w15 l d Fd' Rd' FL' RL' { L' with size:=en,synced:=L1.recs.length } Y:=by
     have hh:=G1.out.nums;exact G1.out.setL E1.out S15 rfl rfl rfl ⟨hh.name,hh.n16,hh.most,hh.first,hh.segment,hh.segments,hen2,hh.recs,hh.nrec,hh.snap⟩
    have hnow:LNow w12 w15 l d Fd Rd FL1 RL1 { L' with size:=en,synced:=L1.recs.length } Y :=
     ⟨Fd',Rd',FL',RL',hg15,G2.out,G3'.out,G4.out,G5.out,G6.out.trans S15.k (fun j hj e=>by
      have e:j=l:=e;subst e
      exact (G4.out j G1.out.fl).elim .inr (fun e=>by omega))⟩
    have hz8:w.heap.size <= w8.heap.size:=K8.out.size;have hfin:=z8s hnow (K11.out.trans_nb K1112.out) (fun k e=>(HF1.out k e).elim (fun e=>by have:=HLW.out;omega) (fun e=>by omega)) (fun k e=>(HR1.out k e).elim (fun e=>e.elim) (fun e=>by omega));have hb17:w15.cell? ⟨b10,0,none⟩=some (.pointer (some ⟨l,0,none⟩)):=(cell_of_block (S15.k.at B1013.out HLB.out.1)).trans rfl
    have HOR:Hid (∃ L2,openR nm m X er2 L2 Y /\ (er2=0 -> L2={ L' with size:=en,synced:=L1.recs.length })):=qq
     ⟨{ L1 with size:=en,synced:=L1.recs.length },.inr (.inr ⟨fb,fs,ff,_,HFB.out,HBI.out,HRR.out,.inr ⟨L1,en,rfl,HASK.out,rfl⟩⟩),fun h=>by have:=HL'.out;rw [if_pos h] at this;rw [this]⟩
    have HFI:=qq hfin;have hpo3:pot Y <= pot X + 12:=by have:=HPO.out;simp at this;omega
    have HPO2:=qq hpo3;clear hfin hnow hg15 S15 s14 s15 hS14 c17 c9 c1013 HS hpo3;by_cases he:er2=0
    ·subst he;go_wp2;go_ret2;obtain ⟨L2,h1,h2⟩:=HOR.out;obtain ⟨Fd',Rd',FL',RL',g1,g2,g3,g4,g5,g6⟩:=HFI.out;rw [<- h2 (by simp)] at g1;exact ⟨0,L2,Y,h1,HPO2.out,.inl ⟨rfl,l,Fd',Rd',FL',RL',rfl,g1,g2,g3,g4,g5,g6⟩⟩
    ·
     have HE:=qq he;have t9:(er2 != 0)=true:=by simpa using he
     clear he;go_wp2;go_ret2;obtain ⟨L2,h1,h2⟩:=HOR.out;obtain ⟨Fd',Rd',FL',RL',g1,g2,g3,g4,g5,g6⟩:=HFI.out;exact ⟨er2,L2,Y,h1,HPO2.out,.inr ⟨HE.out,rfl,Fd',Rd',g1.disk,g2,g3,g6⟩⟩
 ·
  have DF:Hid (Now w w7 d Fd Rd X.D X.fc):=qq (Now.of (H.out.nb K7.out) K7.out.of_nb)
  have HOR:Hid (openR nm m X 10 (lg0 nm m) X):=qq (by
   have h1:=HFR.out;unfold fndR at h1;split at h1
   ·have:=congrArg (fun p=>p.2.2) h1;simp at this
   ·
    rename_i b hb;split at h1
    ·rename_i hn;exact .inr (.inl ⟨b,hb,hn,rfl,rfl⟩)
    ·have:=congrArg (fun p=>p.2.2) h1;simp at this)
  go_wp2;go_ret2;exact ⟨10,lg0 nm m,X,HOR.out,by omega,.inr ⟨by decide,rfl,DF.out⟩⟩
end Go.Proofs.YtpjomdmjohjheaaGreatDoor
end
section
namespace Go.Proofs.YtpjomdmjohjheaaGreatDoor
open Go.RowKit Go.Lk Go.Vfs Go.Log
theorem zdw (l d b:Nat) (f:Int) (L:Lg):OpC l d L 0 ⟨124,#[],#[.pointer (some ⟨b,0,none⟩)]⟩ (erO f) (EB b f):=by
 rintro w Fd Rd FL RL X h hv ⟨hb,-,-⟩ hp;have c:w.cell? ⟨b,0,none⟩=some (.int .i64 f):=(cell_of_block hb).trans rfl;have F:=qq (OpE.same (k:=0) (o:=erO f) (er:=f) h (Keeps.refl _ _) ⟨rfl,rfl⟩ (by omega));clear h hv hp hb;show Calls Tryz.prog 124 #[.pointer (some ⟨b,0,none⟩)] w _;go_enter Tryz.func124,Tryz.ntmps124;go_wp2;go_ret;exact F.out
theorem zg3 (l d b:Nat) (f:Int) (L:Lg):OpC l d L 0 ⟨73,#[],#[.pointer (some ⟨b,0,none⟩)]⟩ (erO f) (EB b f):=by
 rintro w Fd Rd FL RL X h hv ⟨hb,-,-⟩ hp;have c:w.cell? ⟨b,0,none⟩=some (.int .i64 f):=(cell_of_block hb).trans rfl;have F:=qq (OpE.same (k:=0) (o:=erO f) (er:=f) h (Keeps.refl _ _) ⟨rfl,rfl⟩ (by omega));clear h hv hp hb;show Calls Tryz.prog 73 #[.pointer (some ⟨b,0,none⟩)] w _;go_enter Tryz.func73,Tryz.ntmps73;go_wp2;go_ret;exact F.out
theorem zgh (l d b10 b15 n:Nat) (L:Lg) (hn:n <= 9223372036854775807):OpC l d L 3 ⟨125,#[],#[.pointer (some ⟨b10,0,none⟩),.pointer (some ⟨b15,0,none⟩)]⟩ (mkO (sgf L.name n)) (fun w a b=>LB b10 l w a b /\ NB b15 n w a b):=by
 rintro w Fd Rd FL RL X h hv ⟨⟨hb10,o10⟩,⟨hb15,o15⟩⟩ hp;have OO:=qq (And.intro o10 o15);obtain ⟨sv,lv,hcs⟩:=h.cells;have c10:w.cell? ⟨b10,0,none⟩=some (.pointer (some ⟨l,0,none⟩)):=(cell_of_block hb10).trans rfl;have c15:w.cell? ⟨b15,0,none⟩=some (.int .i64 (n:Nat)):=(cell_of_block hb15).trans rfl;have cl:w.cell? ⟨l,0,none⟩=some (.pointer (some ⟨d,0,none⟩)):=(cell_of_block (hcs w (Keeps.refl _ _))).trans rfl;have H:=qq h;have h16:=h.nums.n16;have SA:=qq (z0r l L.name n w.drew (hv.nb (Keeps.refl Nb w).drew) ((cell_of_block (hcs w.drew (Keeps.refl Nb w).drew)).trans rfl) (by omega) hn);have HP:=qq (z0b hp (by omega));clear h hv hb10 hb15 hcs hp o10 o15;show Calls Tryz.prog 125 #[.pointer (some ⟨b10,0,none⟩),.pointer (some ⟨b15,0,none⟩)] w _;go_enter Tryz.func125,Tryz.ntmps125;go_wp2;refine WT.region (fun u=>u.cell? ⟨b10,0,none⟩=some (.pointer (some ⟨l,0,none⟩)) /\ u.cell? ⟨b15,0,none⟩=some (.int .i64 (n:Nat)) /\ u.cell? ⟨l,0,none⟩=some (.pointer (some ⟨d,0,none⟩))) 8 9 [0,1,2,3,4,5,6,7,8] (by kernel_rfl) rfl ?_
 have fac:∀ u,Keeps (fun k=>Fd k) w u -> (fun u:World=>u.cell? ⟨b10,0,none⟩=some (.pointer (some ⟨l,0,none⟩)) /\ u.cell? ⟨b15,0,none⟩=some (.int .i64 (n:Nat)) /\ u.cell? ⟨l,0,none⟩=some (.pointer (some ⟨d,0,none⟩))) u:=fun u hu =>
  ⟨(hu.cell (lt_of_cell c10) OO.out.1.1).trans c10,(hu.cell (lt_of_cell c15) OO.out.2.1).trans c15,(hu.cell (lt_of_cell cl) (H.out.apF l H.out.fl).1).trans cl⟩
 have FAC:=qq fac;have HS:=qq (fac w.drew (Keeps.refl _ w).drew);clear fac;refine WT.t 0 (v:=.pointer (some ⟨l,0,none⟩)) (y:=by rintro w ⟨C1,C2,C3⟩;exact zb (by kernel_rfl) (by rfl) C1) (s:=HS.out) (h:=?_);refine WT.t 1 (v:=_) (y:=by rintro w ⟨C1,C2,C3⟩;go_simp;with_reducible rfl) (s:=HS.out) (h:=?_);refine WT.t 2 (v:=_) (y:=by rintro w ⟨C1,C2,C3⟩;go_simp;with_reducible rfl) (s:=HS.out) (h:=?_);refine WT.t 3 (v:=.pointer (some ⟨d,0,none⟩)) (y:=by rintro w ⟨C1,C2,C3⟩;exact zb (by kernel_rfl) (by rfl) C3) (s:=HS.out) (h:=?_);refine WT.t 4 (v:=.pointer (some ⟨l,0,none⟩)) (y:=by rintro w ⟨C1,C2,C3⟩;exact zb (by kernel_rfl) (by rfl) C1) (s:=HS.out) (h:=?_);refine WT.t 5 (v:=.int .i64 (n:Nat)) (y:=by rintro w ⟨C1,C2,C3⟩;exact zb (by kernel_rfl) (by rfl) C2) (s:=HS.out) (h:=?_);refine WT.call 6 (by simp only [qi];rfl) (by kernel_rfl) (by rfl) (by go_simp;first | done | rfl | exact ⟨⟨rfl,rfl⟩,rfl⟩ | exact ⟨⟨rfl,rfl,rfl⟩,rfl⟩ | exact ⟨⟨rfl,rfl,rfl,rfl⟩,rfl⟩ | exact ⟨⟨rfl,rfl,rfl,rfl,rfl⟩,rfl⟩) SA.out ?_;rintro _ w1 ⟨rfl,k1⟩;have K1:Hid (Keeps Nb w w1):=qq (((Keeps.refl Nb w).drew).trans_nb k1);refine ⟨_,rfl,FAC.out w1 K1.out.of_nb,?_⟩;simp only [Nat.reduceAdd,qn];have MA:=qq (z50 d (sgf L.name n) X.D Fd Rd X.fc w1 (H.out.disk.nb K1.out) (z11 h16 hn) HP.out);refine WT.call 7 (by simp only [qi];rfl) (by kernel_rfl) (by rfl) (by go_simp;first | done | rfl | exact ⟨⟨rfl,rfl⟩,rfl⟩ | exact ⟨⟨rfl,rfl,rfl⟩,rfl⟩ | exact ⟨⟨rfl,rfl,rfl,rfl⟩,rfl⟩ | exact ⟨⟨rfl,rfl,rfl,rfl,rfl⟩,rfl⟩) MA.out ?_;rintro _ w2 ⟨er,D',fc',rfl,hn2,hr⟩;have ho:mkO (sgf L.name n) X er ⟨D',fc'⟩:=⟨w1.heap.size,fun b hb=>(H.out.disk.nb K1.out).ltF b ((H.out.disk.nb K1.out).file b hb).2,hr⟩
 have hk2:Keeps Fd w w2:=(K1.out.of_nb).trans (by obtain ⟨_,_,_,_,_,hk⟩:=hn2;exact hk) (fun _ _ e=>e);have F:=qq (OpE.disk (k:=3) H.out K1.out hn2 ho (z6a ho));have S2:=FAC.out w2 hk2;clear hn2 hr ho MA SA k1 HS;refine ⟨_,rfl,S2,?_⟩;simp only [Nat.reduceAdd,qn];refine WT.stop (by kernel_rfl) ?_;refine WP.o 8 (v:=_) (y:=by go_simp;first | with_reducible rfl | exact ⟨rfl,rfl⟩) (h:=?_);refine WP.done (by kernel_rfl) ?_;go_wp2;go_ret;exact F.out
theorem mk77_c (l d b10 b15 n:Nat) (L:Lg) (hn:n <= 9223372036854775807):OpC l d L 3 ⟨77,#[],#[.pointer (some ⟨b10,0,none⟩),.pointer (some ⟨b15,0,none⟩)]⟩ (mkO (sgf L.name n)) (fun w a b=>LB b10 l w a b /\ NB b15 n w a b):=by
 rintro w Fd Rd FL RL X h hv ⟨⟨hb10,o10⟩,⟨hb15,o15⟩⟩ hp;have OO:=qq (And.intro o10 o15);obtain ⟨sv,lv,hcs⟩:=h.cells;have c10:w.cell? ⟨b10,0,none⟩=some (.pointer (some ⟨l,0,none⟩)):=(cell_of_block hb10).trans rfl;have c15:w.cell? ⟨b15,0,none⟩=some (.int .i64 (n:Nat)):=(cell_of_block hb15).trans rfl;have cl:w.cell? ⟨l,0,none⟩=some (.pointer (some ⟨d,0,none⟩)):=(cell_of_block (hcs w (Keeps.refl _ _))).trans rfl;have H:=qq h;have h16:=h.nums.n16;have SA:=qq (z0r l L.name n w.drew (hv.nb (Keeps.refl Nb w).drew) ((cell_of_block (hcs w.drew (Keeps.refl Nb w).drew)).trans rfl) (by omega) hn);have HP:=qq (z0b hp (by omega));clear h hv hb10 hb15 hcs hp o10 o15;show Calls Tryz.prog 77 #[.pointer (some ⟨b10,0,none⟩),.pointer (some ⟨b15,0,none⟩)] w _;go_enter Tryz.func77,Tryz.ntmps77;go_wp2;refine WT.region (fun u=>u.cell? ⟨b10,0,none⟩=some (.pointer (some ⟨l,0,none⟩)) /\ u.cell? ⟨b15,0,none⟩=some (.int .i64 (n:Nat)) /\ u.cell? ⟨l,0,none⟩=some (.pointer (some ⟨d,0,none⟩))) 8 9 [0,1,2,3,4,5,6,7,8] (by kernel_rfl) rfl ?_
 have fac:∀ u,Keeps (fun k=>Fd k) w u -> (fun u:World=>u.cell? ⟨b10,0,none⟩=some (.pointer (some ⟨l,0,none⟩)) /\ u.cell? ⟨b15,0,none⟩=some (.int .i64 (n:Nat)) /\ u.cell? ⟨l,0,none⟩=some (.pointer (some ⟨d,0,none⟩))) u:=fun u hu =>
  ⟨(hu.cell (lt_of_cell c10) OO.out.1.1).trans c10,(hu.cell (lt_of_cell c15) OO.out.2.1).trans c15,(hu.cell (lt_of_cell cl) (H.out.apF l H.out.fl).1).trans cl⟩
 have FAC:=qq fac;have HS:=qq (fac w.drew (Keeps.refl _ w).drew);clear fac;refine WT.t 0 (v:=.pointer (some ⟨l,0,none⟩)) (y:=by rintro w ⟨C1,C2,C3⟩;exact zb (by kernel_rfl) (by rfl) C1) (s:=HS.out) (h:=?_);refine WT.t 1 (v:=_) (y:=by rintro w ⟨C1,C2,C3⟩;go_simp;with_reducible rfl) (s:=HS.out) (h:=?_);refine WT.t 2 (v:=_) (y:=by rintro w ⟨C1,C2,C3⟩;go_simp;with_reducible rfl) (s:=HS.out) (h:=?_);refine WT.t 3 (v:=.pointer (some ⟨d,0,none⟩)) (y:=by rintro w ⟨C1,C2,C3⟩;exact zb (by kernel_rfl) (by rfl) C3) (s:=HS.out) (h:=?_);refine WT.t 4 (v:=.pointer (some ⟨l,0,none⟩)) (y:=by rintro w ⟨C1,C2,C3⟩;exact zb (by kernel_rfl) (by rfl) C1) (s:=HS.out) (h:=?_);refine WT.t 5 (v:=.int .i64 (n:Nat)) (y:=by rintro w ⟨C1,C2,C3⟩;exact zb (by kernel_rfl) (by rfl) C2) (s:=HS.out) (h:=?_);refine WT.call 6 (by simp only [qi];rfl) (by kernel_rfl) (by rfl) (by go_simp;first | done | rfl | exact ⟨⟨rfl,rfl⟩,rfl⟩ | exact ⟨⟨rfl,rfl,rfl⟩,rfl⟩ | exact ⟨⟨rfl,rfl,rfl,rfl⟩,rfl⟩ | exact ⟨⟨rfl,rfl,rfl,rfl,rfl⟩,rfl⟩) SA.out ?_;rintro _ w1 ⟨rfl,k1⟩;have K1:Hid (Keeps Nb w w1):=qq (((Keeps.refl Nb w).drew).trans_nb k1);refine ⟨_,rfl,FAC.out w1 K1.out.of_nb,?_⟩;simp only [Nat.reduceAdd,qn];have MA:=qq (z50 d (sgf L.name n) X.D Fd Rd X.fc w1 (H.out.disk.nb K1.out) (z11 h16 hn) HP.out);refine WT.call 7 (by simp only [qi];rfl) (by kernel_rfl) (by rfl) (by go_simp;first | done | rfl | exact ⟨⟨rfl,rfl⟩,rfl⟩ | exact ⟨⟨rfl,rfl,rfl⟩,rfl⟩ | exact ⟨⟨rfl,rfl,rfl,rfl⟩,rfl⟩ | exact ⟨⟨rfl,rfl,rfl,rfl,rfl⟩,rfl⟩) MA.out ?_;rintro _ w2 ⟨er,D',fc',rfl,hn2,hr⟩;have ho:mkO (sgf L.name n) X er ⟨D',fc'⟩:=⟨w1.heap.size,fun b hb=>(H.out.disk.nb K1.out).ltF b ((H.out.disk.nb K1.out).file b hb).2,hr⟩
 have hk2:Keeps Fd w w2:=(K1.out.of_nb).trans (by obtain ⟨_,_,_,_,_,hk⟩:=hn2;exact hk) (fun _ _ e=>e);have F:=qq (OpE.disk (k:=3) H.out K1.out hn2 ho (z6a ho));have S2:=FAC.out w2 hk2;clear hn2 hr ho MA SA k1 HS;refine ⟨_,rfl,S2,?_⟩;simp only [Nat.reduceAdd,qn];refine WT.stop (by kernel_rfl) ?_;refine WP.o 8 (v:=_) (y:=by go_simp;first | with_reducible rfl | exact ⟨rfl,rfl⟩) (h:=?_);refine WP.done (by kernel_rfl) ?_;go_wp2;go_ret;exact F.out
theorem sy70_c (l d b10:Nat) (L:Lg):OpC l d L 1 ⟨70,#[],#[.pointer (some ⟨b10,0,none⟩)]⟩ (syO L.seg) (LB b10 l):=by
 rintro w Fd Rd FL RL X h hv ⟨hb10,o10⟩ hp;have OO:=qq o10;obtain ⟨sv,lv,hcs⟩:=h.cells;have c3:w.cell? ⟨l,0,none⟩=some (.pointer (some ⟨d,0,none⟩)):=(cell_of_block (hcs w (Keeps.refl _ _))).trans rfl;have c10:w.cell? ⟨b10,0,none⟩=some (.pointer (some ⟨l,0,none⟩)):=(cell_of_block hb10).trans rfl;have cl:w.cell? ⟨l,4,none⟩=some (.int .i64 (L.segment:Nat)):=(cell_of_block (hcs w (Keeps.refl _ _))).trans rfl;have H:=qq h;have h16:=h.nums.n16;have hsg:=h.nums.segment;have SA:=qq (z0r l L.name L.segment w.drew (hv.nb (Keeps.refl Nb w).drew) ((cell_of_block (hcs w.drew (Keeps.refl Nb w).drew)).trans rfl) (by omega) (by omega));have HP:=qq (z0b hp (by omega));clear h hv hb10 hcs hp o10;show Calls Tryz.prog 70 #[.pointer (some ⟨b10,0,none⟩)] w _;go_enter Tryz.func70,Tryz.ntmps70;go_wp2;refine WT.region (fun u=>u.cell? ⟨l,0,none⟩=some (.pointer (some ⟨d,0,none⟩)) /\ u.cell? ⟨b10,0,none⟩=some (.pointer (some ⟨l,0,none⟩)) /\ u.cell? ⟨l,4,none⟩=some (.int .i64 (L.segment:Nat))) 11 12 [0,1,2,3,4,5,6,7,8,9,10,11] (by kernel_rfl) rfl ?_
 have fac:∀ u,Keeps (fun k=>Fd k) w u -> (fun u:World=>u.cell? ⟨l,0,none⟩=some (.pointer (some ⟨d,0,none⟩)) /\ u.cell? ⟨b10,0,none⟩=some (.pointer (some ⟨l,0,none⟩)) /\ u.cell? ⟨l,4,none⟩=some (.int .i64 (L.segment:Nat))) u:=fun u hu =>
  ⟨(hu.cell (lt_of_cell c3) (H.out.apF l H.out.fl).1).trans c3,(hu.cell (lt_of_cell c10) OO.out.1).trans c10,(hu.cell (lt_of_cell cl) (H.out.apF l H.out.fl).1).trans cl⟩
 have FAC:=qq fac;have HS:=qq (fac w.drew (Keeps.refl _ w).drew);clear fac;refine WT.t 0 (v:=.pointer (some ⟨l,0,none⟩)) (y:=by rintro w ⟨C1,C2,C3⟩;exact zb (by kernel_rfl) (by rfl) C2) (s:=HS.out) (h:=?_);refine WT.t 1 (v:=_) (y:=by rintro w ⟨C1,C2,C3⟩;go_simp;with_reducible rfl) (s:=HS.out) (h:=?_);refine WT.t 2 (v:=_) (y:=by rintro w ⟨C1,C2,C3⟩;go_simp;with_reducible rfl) (s:=HS.out) (h:=?_);refine WT.t 3 (v:=.pointer (some ⟨d,0,none⟩)) (y:=by rintro w ⟨C1,C2,C3⟩;exact zb (by kernel_rfl) (by rfl) C1) (s:=HS.out) (h:=?_);refine WT.t 4 (v:=.pointer (some ⟨l,0,none⟩)) (y:=by rintro w ⟨C1,C2,C3⟩;exact zb (by kernel_rfl) (by rfl) C2) (s:=HS.out) (h:=?_);refine WT.t 5 (v:=.pointer (some ⟨l,0,none⟩)) (y:=by rintro w ⟨C1,C2,C3⟩;exact zb (by kernel_rfl) (by rfl) C2) (s:=HS.out) (h:=?_);refine WT.t 6 (v:=_) (y:=by rintro w ⟨C1,C2,C3⟩;go_simp;with_reducible rfl) (s:=HS.out) (h:=?_);refine WT.t 7 (v:=_) (y:=by rintro w ⟨C1,C2,C3⟩;go_simp;with_reducible rfl) (s:=HS.out) (h:=?_);refine WT.t 8 (v:=.int .i64 (L.segment:Nat)) (y:=by rintro w ⟨C1,C2,C3⟩;exact zb (by kernel_rfl) (by rfl) C3) (s:=HS.out) (h:=?_);refine WT.call 9 (by simp only [qi];rfl) (by kernel_rfl) (by rfl) (by go_simp;first | done | rfl | exact ⟨⟨rfl,rfl⟩,rfl⟩ | exact ⟨⟨rfl,rfl,rfl⟩,rfl⟩ | exact ⟨⟨rfl,rfl,rfl,rfl⟩,rfl⟩ | exact ⟨⟨rfl,rfl,rfl,rfl,rfl⟩,rfl⟩) SA.out ?_;rintro _ w1 ⟨rfl,k1⟩;have K1:Hid (Keeps Nb w w1):=qq (((Keeps.refl Nb w).drew).trans_nb k1);refine ⟨_,rfl,FAC.out w1 K1.out.of_nb,?_⟩;simp only [Nat.reduceAdd,qn];have MA:=qq (z3r d (sgf L.name L.segment) X.D Fd Rd X.fc w1 (H.out.disk.nb K1.out) (z11 h16 (by omega)) HP.out);refine WT.call 10 (by simp only [qi];rfl) (by kernel_rfl) (by rfl) (by go_simp;first | done | rfl | exact ⟨⟨rfl,rfl⟩,rfl⟩ | exact ⟨⟨rfl,rfl,rfl⟩,rfl⟩ | exact ⟨⟨rfl,rfl,rfl,rfl⟩,rfl⟩ | exact ⟨⟨rfl,rfl,rfl,rfl,rfl⟩,rfl⟩) MA.out ?_;rintro _ w2 ⟨er,D',fc',rfl,hn2,hr⟩;have ho:syO L.seg X er ⟨D',fc'⟩:=hr;have hk2:Keeps Fd w w2:=(K1.out.of_nb).trans (by obtain ⟨_,_,_,_,_,hk⟩:=hn2;exact hk) (fun _ _ e=>e);have F:=qq (OpE.disk (k:=1) H.out K1.out hn2 ho (z4n ho));have S2:=FAC.out w2 hk2;clear hn2 hr ho MA SA k1 HS;refine ⟨_,rfl,S2,?_⟩;simp only [Nat.reduceAdd,qn];refine WT.stop (by kernel_rfl) ?_;refine WP.o 11 (v:=_) (y:=by go_simp;first | with_reducible rfl | exact ⟨rfl,rfl⟩) (h:=?_);refine WP.done (by kernel_rfl) ?_;go_wp2;go_ret;exact F.out
theorem sy72_c (l d b10:Nat) (L:Lg):OpC l d L 1 ⟨72,#[],#[.pointer (some ⟨b10,0,none⟩)]⟩ (syO L.seg) (LB b10 l):=by
 rintro w Fd Rd FL RL X h hv ⟨hb10,o10⟩ hp;have OO:=qq o10;obtain ⟨sv,lv,hcs⟩:=h.cells;have c3:w.cell? ⟨l,0,none⟩=some (.pointer (some ⟨d,0,none⟩)):=(cell_of_block (hcs w (Keeps.refl _ _))).trans rfl;have c10:w.cell? ⟨b10,0,none⟩=some (.pointer (some ⟨l,0,none⟩)):=(cell_of_block hb10).trans rfl;have cl:w.cell? ⟨l,4,none⟩=some (.int .i64 (L.segment:Nat)):=(cell_of_block (hcs w (Keeps.refl _ _))).trans rfl;have H:=qq h;have h16:=h.nums.n16;have hsg:=h.nums.segment;have SA:=qq (z0r l L.name L.segment w.drew (hv.nb (Keeps.refl Nb w).drew) ((cell_of_block (hcs w.drew (Keeps.refl Nb w).drew)).trans rfl) (by omega) (by omega));have HP:=qq (z0b hp (by omega));clear h hv hb10 hcs hp o10;show Calls Tryz.prog 72 #[.pointer (some ⟨b10,0,none⟩)] w _;go_enter Tryz.func72,Tryz.ntmps72;go_wp2;refine WT.region (fun u=>u.cell? ⟨l,0,none⟩=some (.pointer (some ⟨d,0,none⟩)) /\ u.cell? ⟨b10,0,none⟩=some (.pointer (some ⟨l,0,none⟩)) /\ u.cell? ⟨l,4,none⟩=some (.int .i64 (L.segment:Nat))) 11 12 [0,1,2,3,4,5,6,7,8,9,10,11] (by kernel_rfl) rfl ?_
 have fac:∀ u,Keeps (fun k=>Fd k) w u -> (fun u:World=>u.cell? ⟨l,0,none⟩=some (.pointer (some ⟨d,0,none⟩)) /\ u.cell? ⟨b10,0,none⟩=some (.pointer (some ⟨l,0,none⟩)) /\ u.cell? ⟨l,4,none⟩=some (.int .i64 (L.segment:Nat))) u:=fun u hu =>
  ⟨(hu.cell (lt_of_cell c3) (H.out.apF l H.out.fl).1).trans c3,(hu.cell (lt_of_cell c10) OO.out.1).trans c10,(hu.cell (lt_of_cell cl) (H.out.apF l H.out.fl).1).trans cl⟩
 have FAC:=qq fac;have HS:=qq (fac w.drew (Keeps.refl _ w).drew);clear fac;refine WT.t 0 (v:=.pointer (some ⟨l,0,none⟩)) (y:=by rintro w ⟨C1,C2,C3⟩;exact zb (by kernel_rfl) (by rfl) C2) (s:=HS.out) (h:=?_);refine WT.t 1 (v:=_) (y:=by rintro w ⟨C1,C2,C3⟩;go_simp;with_reducible rfl) (s:=HS.out) (h:=?_);refine WT.t 2 (v:=_) (y:=by rintro w ⟨C1,C2,C3⟩;go_simp;with_reducible rfl) (s:=HS.out) (h:=?_);refine WT.t 3 (v:=.pointer (some ⟨d,0,none⟩)) (y:=by rintro w ⟨C1,C2,C3⟩;exact zb (by kernel_rfl) (by rfl) C1) (s:=HS.out) (h:=?_);refine WT.t 4 (v:=.pointer (some ⟨l,0,none⟩)) (y:=by rintro w ⟨C1,C2,C3⟩;exact zb (by kernel_rfl) (by rfl) C2) (s:=HS.out) (h:=?_);refine WT.t 5 (v:=.pointer (some ⟨l,0,none⟩)) (y:=by rintro w ⟨C1,C2,C3⟩;exact zb (by kernel_rfl) (by rfl) C2) (s:=HS.out) (h:=?_);refine WT.t 6 (v:=_) (y:=by rintro w ⟨C1,C2,C3⟩;go_simp;with_reducible rfl) (s:=HS.out) (h:=?_);refine WT.t 7 (v:=_) (y:=by rintro w ⟨C1,C2,C3⟩;go_simp;with_reducible rfl) (s:=HS.out) (h:=?_);refine WT.t 8 (v:=.int .i64 (L.segment:Nat)) (y:=by rintro w ⟨C1,C2,C3⟩;exact zb (by kernel_rfl) (by rfl) C3) (s:=HS.out) (h:=?_);refine WT.call 9 (by simp only [qi];rfl) (by kernel_rfl) (by rfl) (by go_simp;first | done | rfl | exact ⟨⟨rfl,rfl⟩,rfl⟩ | exact ⟨⟨rfl,rfl,rfl⟩,rfl⟩ | exact ⟨⟨rfl,rfl,rfl,rfl⟩,rfl⟩ | exact ⟨⟨rfl,rfl,rfl,rfl,rfl⟩,rfl⟩) SA.out ?_;rintro _ w1 ⟨rfl,k1⟩;have K1:Hid (Keeps Nb w w1):=qq (((Keeps.refl Nb w).drew).trans_nb k1);refine ⟨_,rfl,FAC.out w1 K1.out.of_nb,?_⟩;simp only [Nat.reduceAdd,qn];have MA:=qq (z3r d (sgf L.name L.segment) X.D Fd Rd X.fc w1 (H.out.disk.nb K1.out) (z11 h16 (by omega)) HP.out);refine WT.call 10 (by simp only [qi];rfl) (by kernel_rfl) (by rfl) (by go_simp;first | done | rfl | exact ⟨⟨rfl,rfl⟩,rfl⟩ | exact ⟨⟨rfl,rfl,rfl⟩,rfl⟩ | exact ⟨⟨rfl,rfl,rfl,rfl⟩,rfl⟩ | exact ⟨⟨rfl,rfl,rfl,rfl,rfl⟩,rfl⟩) MA.out ?_;rintro _ w2 ⟨er,D',fc',rfl,hn2,hr⟩;have ho:syO L.seg X er ⟨D',fc'⟩:=hr;have hk2:Keeps Fd w w2:=(K1.out.of_nb).trans (by obtain ⟨_,_,_,_,_,hk⟩:=hn2;exact hk) (fun _ _ e=>e);have F:=qq (OpE.disk (k:=1) H.out K1.out hn2 ho (z4n ho));have S2:=FAC.out w2 hk2;clear hn2 hr ho MA SA k1 HS;refine ⟨_,rfl,S2,?_⟩;simp only [Nat.reduceAdd,qn];refine WT.stop (by kernel_rfl) ?_;refine WP.o 11 (v:=_) (y:=by go_simp;first | with_reducible rfl | exact ⟨rfl,rfl⟩) (h:=?_);refine WP.done (by kernel_rfl) ?_;go_wp2;go_ret;exact F.out
theorem zha (l d b10:Nat) (L:Lg):OpC l d L 1 ⟨123,#[],#[.pointer (some ⟨b10,0,none⟩)]⟩ (syO L.seg) (LB b10 l):=by
 rintro w Fd Rd FL RL X h hv ⟨hb10,o10⟩ hp;have OO:=qq o10;obtain ⟨sv,lv,hcs⟩:=h.cells;have c3:w.cell? ⟨l,0,none⟩=some (.pointer (some ⟨d,0,none⟩)):=(cell_of_block (hcs w (Keeps.refl _ _))).trans rfl;have c10:w.cell? ⟨b10,0,none⟩=some (.pointer (some ⟨l,0,none⟩)):=(cell_of_block hb10).trans rfl;have cl:w.cell? ⟨l,4,none⟩=some (.int .i64 (L.segment:Nat)):=(cell_of_block (hcs w (Keeps.refl _ _))).trans rfl;have H:=qq h;have h16:=h.nums.n16;have hsg:=h.nums.segment;have SA:=qq (z0r l L.name L.segment w.drew (hv.nb (Keeps.refl Nb w).drew) ((cell_of_block (hcs w.drew (Keeps.refl Nb w).drew)).trans rfl) (by omega) (by omega));have HP:=qq (z0b hp (by omega));clear h hv hb10 hcs hp o10;show Calls Tryz.prog 123 #[.pointer (some ⟨b10,0,none⟩)] w _;go_enter Tryz.func123,Tryz.ntmps123;go_wp2;refine WT.region (fun u=>u.cell? ⟨l,0,none⟩=some (.pointer (some ⟨d,0,none⟩)) /\ u.cell? ⟨b10,0,none⟩=some (.pointer (some ⟨l,0,none⟩)) /\ u.cell? ⟨l,4,none⟩=some (.int .i64 (L.segment:Nat))) 11 12 [0,1,2,3,4,5,6,7,8,9,10,11] (by kernel_rfl) rfl ?_
 have fac:∀ u,Keeps (fun k=>Fd k) w u -> (fun u:World=>u.cell? ⟨l,0,none⟩=some (.pointer (some ⟨d,0,none⟩)) /\ u.cell? ⟨b10,0,none⟩=some (.pointer (some ⟨l,0,none⟩)) /\ u.cell? ⟨l,4,none⟩=some (.int .i64 (L.segment:Nat))) u:=fun u hu =>
  ⟨(hu.cell (lt_of_cell c3) (H.out.apF l H.out.fl).1).trans c3,(hu.cell (lt_of_cell c10) OO.out.1).trans c10,(hu.cell (lt_of_cell cl) (H.out.apF l H.out.fl).1).trans cl⟩
 have FAC:=qq fac;have HS:=qq (fac w.drew (Keeps.refl _ w).drew);clear fac;refine WT.t 0 (v:=.pointer (some ⟨l,0,none⟩)) (y:=by rintro w ⟨C1,C2,C3⟩;exact zb (by kernel_rfl) (by rfl) C2) (s:=HS.out) (h:=?_);refine WT.t 1 (v:=_) (y:=by rintro w ⟨C1,C2,C3⟩;go_simp;with_reducible rfl) (s:=HS.out) (h:=?_);refine WT.t 2 (v:=_) (y:=by rintro w ⟨C1,C2,C3⟩;go_simp;with_reducible rfl) (s:=HS.out) (h:=?_);refine WT.t 3 (v:=.pointer (some ⟨d,0,none⟩)) (y:=by rintro w ⟨C1,C2,C3⟩;exact zb (by kernel_rfl) (by rfl) C1) (s:=HS.out) (h:=?_);refine WT.t 4 (v:=.pointer (some ⟨l,0,none⟩)) (y:=by rintro w ⟨C1,C2,C3⟩;exact zb (by kernel_rfl) (by rfl) C2) (s:=HS.out) (h:=?_);refine WT.t 5 (v:=.pointer (some ⟨l,0,none⟩)) (y:=by rintro w ⟨C1,C2,C3⟩;exact zb (by kernel_rfl) (by rfl) C2) (s:=HS.out) (h:=?_);refine WT.t 6 (v:=_) (y:=by rintro w ⟨C1,C2,C3⟩;go_simp;with_reducible rfl) (s:=HS.out) (h:=?_);refine WT.t 7 (v:=_) (y:=by rintro w ⟨C1,C2,C3⟩;go_simp;with_reducible rfl) (s:=HS.out) (h:=?_);refine WT.t 8 (v:=.int .i64 (L.segment:Nat)) (y:=by rintro w ⟨C1,C2,C3⟩;exact zb (by kernel_rfl) (by rfl) C3) (s:=HS.out) (h:=?_);refine WT.call 9 (by simp only [qi];rfl) (by kernel_rfl) (by rfl) (by go_simp;first | done | rfl | exact ⟨⟨rfl,rfl⟩,rfl⟩ | exact ⟨⟨rfl,rfl,rfl⟩,rfl⟩ | exact ⟨⟨rfl,rfl,rfl,rfl⟩,rfl⟩ | exact ⟨⟨rfl,rfl,rfl,rfl,rfl⟩,rfl⟩) SA.out ?_;rintro _ w1 ⟨rfl,k1⟩;have K1:Hid (Keeps Nb w w1):=qq (((Keeps.refl Nb w).drew).trans_nb k1);refine ⟨_,rfl,FAC.out w1 K1.out.of_nb,?_⟩;simp only [Nat.reduceAdd,qn];have MA:=qq (z3r d (sgf L.name L.segment) X.D Fd Rd X.fc w1 (H.out.disk.nb K1.out) (z11 h16 (by omega)) HP.out);refine WT.call 10 (by simp only [qi];rfl) (by kernel_rfl) (by rfl) (by go_simp;first | done | rfl | exact ⟨⟨rfl,rfl⟩,rfl⟩ | exact ⟨⟨rfl,rfl,rfl⟩,rfl⟩ | exact ⟨⟨rfl,rfl,rfl,rfl⟩,rfl⟩ | exact ⟨⟨rfl,rfl,rfl,rfl,rfl⟩,rfl⟩) MA.out ?_;rintro _ w2 ⟨er,D',fc',rfl,hn2,hr⟩;have ho:syO L.seg X er ⟨D',fc'⟩:=hr;have hk2:Keeps Fd w w2:=(K1.out.of_nb).trans (by obtain ⟨_,_,_,_,_,hk⟩:=hn2;exact hk) (fun _ _ e=>e);have F:=qq (OpE.disk (k:=1) H.out K1.out hn2 ho (z4n ho));have S2:=FAC.out w2 hk2;clear hn2 hr ho MA SA k1 HS;refine ⟨_,rfl,S2,?_⟩;simp only [Nat.reduceAdd,qn];refine WT.stop (by kernel_rfl) ?_;refine WP.o 11 (v:=_) (y:=by go_simp;first | with_reducible rfl | exact ⟨rfl,rfl⟩) (h:=?_);refine WP.done (by kernel_rfl) ?_;go_wp2;go_ret;exact F.out
theorem ap67_c (l d b10 b6:Nat) (L:Lg) (ad:Option Addr) (n c:Nat) (bs:List Nat):OpC l d L 1 ⟨67,#[],#[.pointer (some ⟨b10,0,none⟩),.pointer (some ⟨b6,0,none⟩)]⟩ (apO L.seg bs) (fun w a b=>LB b10 l w a b /\ YB b6 (.slice ad n c) bs w a b):=by
 rintro w Fd Rd FL RL X h hv ⟨⟨hb10,o10⟩,⟨⟨hb6,o6⟩,hy⟩⟩ hp;have OO:=qq (And.intro o10 o6);obtain ⟨sv,lv,hcs⟩:=h.cells;have c3:w.cell? ⟨l,0,none⟩=some (.pointer (some ⟨d,0,none⟩)):=(cell_of_block (hcs w (Keeps.refl _ _))).trans rfl;have c10:w.cell? ⟨b10,0,none⟩=some (.pointer (some ⟨l,0,none⟩)):=(cell_of_block hb10).trans rfl;have c6:w.cell? ⟨b6,0,none⟩=some (.slice ad n c):=(cell_of_block hb6).trans rfl;have cl:w.cell? ⟨l,4,none⟩=some (.int .i64 (L.segment:Nat)):=(cell_of_block (hcs w (Keeps.refl _ _))).trans rfl;have H:=qq h;have h16:=h.nums.n16;have hsg:=h.nums.segment;have HY:=qq hy;have SA:=qq (z0r l L.name L.segment w.drew (hv.nb (Keeps.refl Nb w).drew) ((cell_of_block (hcs w.drew (Keeps.refl Nb w).drew)).trans rfl) (by omega) (by omega));have HP:=qq (z0b hp (by omega));clear h hv hb10 hb6 hcs hp o10 o6 hy;show Calls Tryz.prog 67 #[.pointer (some ⟨b10,0,none⟩),.pointer (some ⟨b6,0,none⟩)] w _;go_enter Tryz.func67,Tryz.ntmps67;go_wp2;refine WT.region (fun u=>u.cell? ⟨l,0,none⟩=some (.pointer (some ⟨d,0,none⟩)) /\ u.cell? ⟨b10,0,none⟩=some (.pointer (some ⟨l,0,none⟩)) /\ u.cell? ⟨l,4,none⟩=some (.int .i64 (L.segment:Nat)) /\ u.cell? ⟨b6,0,none⟩=some (.slice ad n c)) 12 13 [0,1,2,3,4,5,6,7,8,10,9,11,12] (by kernel_rfl) rfl ?_
 have fac:∀ u,Keeps (fun k=>Fd k) w u -> (fun u:World=>u.cell? ⟨l,0,none⟩=some (.pointer (some ⟨d,0,none⟩)) /\ u.cell? ⟨b10,0,none⟩=some (.pointer (some ⟨l,0,none⟩)) /\ u.cell? ⟨l,4,none⟩=some (.int .i64 (L.segment:Nat)) /\ u.cell? ⟨b6,0,none⟩=some (.slice ad n c)) u:=fun u hu =>
  ⟨(hu.cell (lt_of_cell c3) (H.out.apF l H.out.fl).1).trans c3,(hu.cell (lt_of_cell c10) OO.out.1.1).trans c10,(hu.cell (lt_of_cell cl) (H.out.apF l H.out.fl).1).trans cl,(hu.cell (lt_of_cell c6) OO.out.2.1).trans c6⟩
 have FAC:=qq fac;have HS:=qq (fac w.drew (Keeps.refl _ w).drew);clear fac;refine WT.t 0 (v:=.pointer (some ⟨l,0,none⟩)) (y:=by rintro w ⟨C1,C2,C3,C4⟩;exact zb (by kernel_rfl) (by rfl) C2) (s:=HS.out) (h:=?_);refine WT.t 1 (v:=_) (y:=by rintro w ⟨C1,C2,C3,C4⟩;go_simp;with_reducible rfl) (s:=HS.out) (h:=?_);refine WT.t 2 (v:=_) (y:=by rintro w ⟨C1,C2,C3,C4⟩;go_simp;with_reducible rfl) (s:=HS.out) (h:=?_);refine WT.t 3 (v:=.pointer (some ⟨d,0,none⟩)) (y:=by rintro w ⟨C1,C2,C3,C4⟩;exact zb (by kernel_rfl) (by rfl) C1) (s:=HS.out) (h:=?_);refine WT.t 4 (v:=.pointer (some ⟨l,0,none⟩)) (y:=by rintro w ⟨C1,C2,C3,C4⟩;exact zb (by kernel_rfl) (by rfl) C2) (s:=HS.out) (h:=?_);refine WT.t 5 (v:=.pointer (some ⟨l,0,none⟩)) (y:=by rintro w ⟨C1,C2,C3,C4⟩;exact zb (by kernel_rfl) (by rfl) C2) (s:=HS.out) (h:=?_);refine WT.t 6 (v:=_) (y:=by rintro w ⟨C1,C2,C3,C4⟩;go_simp;with_reducible rfl) (s:=HS.out) (h:=?_);refine WT.t 7 (v:=_) (y:=by rintro w ⟨C1,C2,C3,C4⟩;go_simp;with_reducible rfl) (s:=HS.out) (h:=?_);refine WT.t 8 (v:=.int .i64 (L.segment:Nat)) (y:=by rintro w ⟨C1,C2,C3,C4⟩;exact zb (by kernel_rfl) (by rfl) C3) (s:=HS.out) (h:=?_);refine WT.t 10 (v:=.slice ad n c) (y:=by rintro w ⟨C1,C2,C3,C4⟩;exact zb (by kernel_rfl) (by rfl) C4) (s:=HS.out) (h:=?_);refine WT.call 9 (by simp only [qi];rfl) (by kernel_rfl) (by rfl) (by go_simp;first | done | rfl | exact ⟨⟨rfl,rfl⟩,rfl⟩ | exact ⟨⟨rfl,rfl,rfl⟩,rfl⟩ | exact ⟨⟨rfl,rfl,rfl,rfl⟩,rfl⟩ | exact ⟨⟨rfl,rfl,rfl,rfl,rfl⟩,rfl⟩) SA.out ?_;rintro _ w1 ⟨rfl,k1⟩;have K1:Hid (Keeps Nb w w1):=qq (((Keeps.refl Nb w).drew).trans_nb k1);refine ⟨_,rfl,FAC.out w1 K1.out.of_nb,?_⟩;simp only [Nat.reduceAdd,qn];have MA:=qq (zc0 d (sgf L.name L.segment) (.slice ad n c) bs X.D Fd Rd (Out w Fd FL) X.fc w1 (H.out.disk.nb K1.out) (z11 h16 (by omega)) (HY.out.keeps K1.out (fun _ _ e=>e)) (fun k hk=>hk.2.1) HP.out);refine WT.call 11 (by simp only [qi];rfl) (by kernel_rfl) (by rfl) (by go_simp;first | done | rfl | exact ⟨⟨rfl,rfl⟩,rfl⟩ | exact ⟨⟨rfl,rfl,rfl⟩,rfl⟩ | exact ⟨⟨rfl,rfl,rfl,rfl⟩,rfl⟩ | exact ⟨⟨rfl,rfl,rfl,rfl,rfl⟩,rfl⟩) MA.out ?_;rintro _ w2 ⟨er,D',fc',rfl,hn2,hr⟩;have ho:apO L.seg bs X er ⟨D',fc'⟩:=hr;have hk2:Keeps Fd w w2:=(K1.out.of_nb).trans (by obtain ⟨_,_,_,_,_,hk⟩:=hn2;exact hk) (fun _ _ e=>e);have F:=qq (OpE.disk (k:=1) H.out K1.out hn2 ho (zd0 ho));have S2:=FAC.out w2 hk2;clear hn2 hr ho MA SA k1 HS;refine ⟨_,rfl,S2,?_⟩;simp only [Nat.reduceAdd,qn];refine WT.stop (by kernel_rfl) ?_;refine WP.o 12 (v:=_) (y:=by go_simp;first | with_reducible rfl | exact ⟨rfl,rfl⟩) (h:=?_);refine WP.done (by kernel_rfl) ?_;go_wp2;go_ret;exact F.out
theorem z8m (l d:Nat) (sv lv:Value) (L:Lg) (ad:Option Addr) (n c:Nat) (w:World) (h:w.heap[l]?=some (.cells (lcs d sv lv L) 78 (0,0))) :
  Calls Tryz.prog 66 #[.pointer (some ⟨l,0,none⟩),.slice ad n c] w fun e w'=>e=.returned (.int .i64 (mayE L n)) /\ w=w':=by
 have c0:w.cell? ⟨l,0,none⟩=some (.pointer (some ⟨d,0,none⟩)):=(cell_of_block h).trans rfl;have c11:w.cell? ⟨l,11,none⟩=some (.bool L.bad):=(cell_of_block h).trans rfl;obtain ⟨f,hf⟩:∃ f,mayE L n=f:=⟨_,rfl⟩
 rw [hf];have HF:=qq hf;clear h hf;have h0:f=if 1048576 < n then 3 else if L.bad=true then 19 else 0:=HF.out.symm
 have H0:=qq h0;clear h0;by_cases hn:1048576 < n
 ·
  have hn2:(1048576:Int) < n:=by omega
  have hf3:Hid (f=3):=qq (by rw [H0.out,if_pos hn]);go_enter Tryz.func66,Tryz.ntmps66;go_wp2;go_ret;exact ⟨by rw [hf3.out];rfl,rfl⟩
 ·
  have hn2:(n:Int) <= 1048576:=by omega
  cases hb:L.bad
  ·have hf3:Hid (f=0):=qq (by rw [H0.out,if_neg hn,hb];rfl);rw [hb] at c11;go_enter Tryz.func66,Tryz.ntmps66;go_wp2;go_ret;exact ⟨by rw [hf3.out];rfl,rfl⟩
  ·have hf3:Hid (f=19):=qq (by rw [H0.out,if_neg hn,hb];rfl);rw [hb] at c11;go_enter Tryz.func66,Tryz.ntmps66;go_wp2;go_ret;exact ⟨by rw [hf3.out];rfl,rfl⟩
end Go.Proofs.YtpjomdmjohjheaaGreatDoor
end
section
namespace Go.Proofs.YtpjomdmjohjheaaGreatDoor
open Go.RowKit Go.Lk Go.Vfs Go.Log
def LogD (w:World) (l d:Nat) (Fd Rd FL RL:Nat -> Prop) (L:Lg) (X:Ds) (k:Int) (r:Lg -> Ds -> Int -> Lg -> Ds -> Prop) (e:Ending) (w':World):Prop :=
 ∃ er L' Y,e=.returned (.int .i64 er) /\ LNow w w' l d Fd Rd FL RL L' Y /\ r L X er L' Y /\ pot Y <= pot X + k
theorem sync_l (l d b1:Nat) (L:Lg):OpL l d L (LB b1 l) [⟨70,#[],#[.pointer (some ⟨b1,0,none⟩)]⟩] [syO L.seg] [1]:=⟨sy70_c l d b1 L,enters_of Tryz.func70 (by kernel_rfl) rfl,by omega,trivial⟩
theorem zeb (l d:Nat) (Fd Rd FL RL:Nat -> Prop) (L:Lg) (X:Ds) (w:World) (h:LgAt w l d Fd Rd FL RL L X) (hv:Vars w) (hp:pot X + 1 <= 999999) :
  Calls Tryz.prog 22 #[.pointer (some ⟨l,0,none⟩)] w (LogD w l d Fd Rd FL RL L X 1 synR):=by
 have H:=qq h;have HV:=qq hv;have HP:=qq hp;clear h hv hp;go_enter Tryz.func22,Tryz.ntmps22;go_wp2_with (first | go_skip | (with_reducible refine zm (t:=40) ?_))
 refine za (vbox1 (v:=.pointer (some ⟨l,0,none⟩)) (by rfl) rfl ?_);intro b1 w1 n1;simp only [Nat.reduceAdd,qn];have B1:=qq n1.blk;have G1:Hid (w.heap.size <= b1 /\ b1 < w1.heap.size):=qq ⟨n1.ge,n1.lt⟩;have K1:=qq n1.k;clear n1;have H1:=qq (H.out.nb K1.out);obtain ⟨sv,lv,vs,q1,-⟩:=H1.out.ex;have MA:=qq (z8m l d sv lv L none 0 0 w1 q1);have c1:w1.cell? ⟨b1,0,none⟩=some (.pointer (some ⟨l,0,none⟩)):=(cell_of_block B1.out).trans rfl;have hb1l:b1 ≠ l:=fun e=>by have:=H.out.ltF l H.out.fl;have:=G1.out;omega
 obtain ⟨f,hf⟩:∃ f,mayE L 0=f:=⟨_,rfl⟩
 rw [hf] at MA;have HF:=qq hf;clear hf q1;go_wp2_with fail;refine MA.out.mono ?_;rintro _ _ ⟨rfl,rfl⟩;clear MA;by_cases h0:f=0
 ·
  subst h0;go_wp2_with (first | go_skip | (with_reducible refine qv (by decide) ?_))
  refine za (zi rfl (zl el138 [.func (.func 70) #[] #[.pointer (some ⟨b1,0,none⟩)]] rfl (by simp [List.range'_succ];first | done | rfl | exact ⟨rfl,rfl⟩ | exact ⟨rfl,rfl,rfl⟩ | exact ⟨rfl,rfl,rfl,rfl⟩ | exact ⟨rfl,rfl,rfl,rfl,rfl⟩ | exact ⟨rfl,rfl,rfl,rfl,rfl,rfl⟩) (by simp [Value.cells]) (by simp)) ?_);rintro _ w2 ⟨b9,rfl,n9⟩;simp only [Nat.reduceAdd,qn];have hrow:Has w2 (some ⟨b9,0,none⟩) ([(⟨70,#[],#[.pointer (some ⟨b1,0,none⟩)]⟩:Fv)].map Fv.v):=zt n9.blk;have hP:LB b1 l w2 Fd FL:=⟨n9.k.nb B1.out,zq H.out G1.out.1⟩
  have AR:=qq (z16 (n:=1) (zr _ _) (sync_l l d b1 L) (H1.out.nb n9.k) ((HV.out.nb K1.out).nb n9.k) hP rfl (by omega) (by have:=HP.out;simpa using this) hrow (zq H1.out n9.ge));have K12:=qq n9.k;clear hP hrow n9 c1;go_wp2_with fail;refine AR.out.mono ?_;rintro e w3 ⟨er2,Y,L',rfl,hnow,hask,hL',hpot⟩;have hnow1:=(hnow.from K12.out).from K1.out;obtain ⟨Fd',Rd',FL',RL',g1,g2,g3,g4,g5,g6⟩:=hnow1;have hsy:syO L.seg X er2 Y:=by
   obtain ⟨e1,Z,h1,h2⟩:=hask;rcases h2 with ⟨-,rfl,rfl⟩ | ⟨rfl,rfl,rfl⟩
   ·exact h1
   ·exact h1
  have B13:=qq (show w3.heap[b1]?=some (.cells #[.pointer (some ⟨l,0,none⟩)] 40 (0,0)) by
   obtain ⟨_,_,_,_,_,_,_,_,_,hk⟩:=hnow;have hn:=zq H.out G1.out.1
   exact hk.at (K12.out.nb B1.out) (fun e=>e.elim hn.1 hn.2))
  have hpo:pot Y <= pot X + 1:=by simpa using hpot
  by_cases he:er2=0
  ·
   subst he;have e2:L'=L:=by rw [hL',if_pos rfl]
   subst e2;obtain ⟨sv3,lv3,vs3,q1,q2,q3,q4⟩:=g1.ex;obtain ⟨-,-,la,lc,rfl,-⟩:=id q3;have Q1:=qq q1;have HG1:=qq g1;have HSY:=qq hsy;have HPO:=qq hpo;have HR:=qq (And.intro g2 (And.intro g3 (And.intro g4 (And.intro g5 g6))));clear q1 q2 q3 q4 g1 g2 g3 g4 g5 g6 hsy hpo hnow hask hL' hpot AR;have c13:w3.cell? ⟨b1,0,none⟩=some (.pointer (some ⟨l,0,none⟩)):=(cell_of_block B13.out).trans rfl;have c93:w3.cell? ⟨l,9,none⟩=some (.slice la L'.recs.length lc):=(cell_of_block Q1.out).trans rfl;go_wp2;refine WT.region (fun u=>u.cell? ⟨b1,0,none⟩=some (.pointer (some ⟨l,0,none⟩)) /\ u.cell? ⟨l,9,none⟩=some (.slice la L'.recs.length lc)) 6 9 [0,1,2,3,4,5,6,7,8] (by kernel_rfl) rfl ?_;have HS:Hid ((fun u:World=>u.cell? ⟨b1,0,none⟩=some (.pointer (some ⟨l,0,none⟩)) /\ u.cell? ⟨l,9,none⟩=some (.slice la L'.recs.length lc)) w3.drew):=qq ⟨c13,c93⟩;refine WT.t 0 (v:=.pointer (some ⟨l,0,none⟩)) (y:=by rintro w ⟨C1,C2⟩;exact zb (by kernel_rfl) (by rfl) C1) (s:=HS.out) (h:=?_);refine WT.t 1 (v:=.pointer (some ⟨l,0,none⟩)) (y:=by rintro w ⟨C1,C2⟩;exact zb (by kernel_rfl) (by rfl) C1) (s:=HS.out) (h:=?_);refine WT.t 2 (v:=_) (y:=by rintro w ⟨C1,C2⟩;go_simp;with_reducible rfl) (s:=HS.out) (h:=?_);refine WT.t 3 (v:=_) (y:=by rintro w ⟨C1,C2⟩;go_simp;with_reducible rfl) (s:=HS.out) (h:=?_);refine WT.t 4 (v:=.slice la L'.recs.length lc) (y:=by rintro w ⟨C1,C2⟩;exact zb (by kernel_rfl) (by rfl) C2) (s:=HS.out) (h:=?_);refine WT.t 5 (v:=_) (y:=by rintro w ⟨C1,C2⟩;go_simp;with_reducible rfl) (s:=HS.out) (h:=?_);refine WT.stop (by kernel_rfl) ?_;refine WP.o 6 (v:=_) (y:=by go_simp;first | with_reducible rfl | exact ⟨rfl,rfl⟩) (h:=?_);refine WP.o 7 (v:=_) (y:=by go_simp;first | with_reducible rfl | exact ⟨rfl,rfl⟩) (h:=?_);refine WP.onlySkipE 8 (by simp only [qi];rfl) (by kernel_rfl) (by rfl) (zd (w:=w3.drew) (v:=.int .i64 (L'.recs.length:Nat)) (n:=1) (by kernel_rfl) (by rfl) (by rfl) Q1.out (by rfl) (by simp [Value.cells,lcs]) (by simp [Value.cells,Value.oneCell'])) ?_;intro w4 s4;simp only [Nat.reduceAdd,qn];refine WP.done (by kernel_rfl) ?_;have S4:SetAt w3 w4 l (.cells (lcs d sv3 (.slice la L'.recs.length lc) { L' with synced:=L'.recs.length }) 78 (0,0)):=⟨s4.blk,(Keeps.refl (·=l) w3).drew.trans s4.k (fun _ _ e=>e)⟩
   have hg4:LgAt w4 l d Fd' Rd' FL' RL' { L' with synced:=L'.recs.length } Y:=by
    have hh:=HG1.out.nums;exact HG1.out.setL Q1.out S4 rfl rfl rfl ⟨hh.name,hh.n16,hh.most,hh.first,hh.segment,hh.segments,hh.size,hh.recs,hh.nrec,hh.snap⟩
   have F:Hid (LNow w w4 l d Fd Rd FL RL { L' with synced:=L'.recs.length } Y):=qq (by
    obtain ⟨g2,g3,g4,g5,g6⟩:=HR.out
    exact ⟨Fd',Rd',FL',RL',hg4,g2,g3,g4,g5,g6.trans S4.k (fun j hj e=>by
     have e:j=l:=e;subst e
     exact .inr H.out.fl)⟩)
   clear s4 S4 hg4 HS c13 c93;go_wp2;go_ret;exact ⟨0,_,Y,rfl,F.out,.inr ⟨HF.out,HSY.out,.inr ⟨rfl,rfl⟩⟩,HPO.out⟩
  ·
   have e2:L'={ L with bad:=true }:=by rw [hL',if_neg he]
   subst e2;have F:Hid (LNow w w3 l d Fd Rd FL RL { L with bad:=true } Y):=qq ⟨Fd',Rd',FL',RL',g1,g2,g3,g4,g5,g6⟩;have HSY:=qq hsy;have HPO:=qq hpo;have HE:=qq he;have t9:(er2 != 0)=true:=by simpa using he
   clear g1 g2 g3 g4 g5 g6 hsy hpo hnow hask hL' hpot AR he;go_wp2;go_ret;exact ⟨er2,_,Y,rfl,F.out,.inr ⟨HF.out,HSY.out,.inl ⟨HE.out,rfl⟩⟩,HPO.out⟩
 ·
  have t9:(f != 0)=true:=by simpa using h0
  have HE:=qq h0;have F:Hid (LNow w w1 l d Fd Rd FL RL L X):=qq (LNow.of H1.out K1.out);clear h0 c1;go_wp2;go_ret;exact ⟨f,L,X,rfl,F.out,.inl ⟨by rw [HF.out];exact HE.out,HF.out.symm,rfl,rfl⟩,by omega⟩
end Go.Proofs.YtpjomdmjohjheaaGreatDoor
end
section
namespace Go.Proofs.YtpjomdmjohjheaaGreatDoor
open Go.RowKit Go.Lk Go.Vfs Go.Log
theorem z1q {f:Int} (hf:f ≠ 0) {o:Log.Op} {l l':List Log.Op} {X Y:Ds} {e:Int} (h:askO (o :: erO f :: l) X e Y):askO (o :: erO f :: l') X e Y /\ e ≠ 0:=by
 obtain ⟨e1,Z,h1,h2⟩:=h;rcases h2 with ⟨h2,h3,h4⟩ | ⟨h2,h3⟩
 ·exact ⟨⟨e1,Z,h1,.inl ⟨h2,h3,h4⟩⟩,by rw [h3];exact h2⟩
 ·have:=z9v (l':=l') hf h3;exact ⟨⟨e1,Z,h1,.inr ⟨h2,this.1⟩⟩,by rw [this.2];exact hf⟩
def OnP (l n b1 b3 b4:Nat) (f:Int):World -> (Nat -> Prop) -> (Nat -> Prop) -> Prop:=fun w a b=>LB b1 l w a b /\ NB b3 n w a b /\ EB b4 f w a b
theorem zba (l n b1 b3 b4:Nat) (f:Int):Stable (OnP l n b1 b3 b4 f):=(zr _ _).and ((zr _ _).and (zr _ _))
def onF (d b1 b3 b4:Nat):List Fv:=[⟨123,#[],#[.pointer (some ⟨b1,0,none⟩)]⟩,⟨124,#[],#[.pointer (some ⟨b4,0,none⟩)]⟩,⟨125,#[],#[.pointer (some ⟨b1,0,none⟩),.pointer (some ⟨b3,0,none⟩)]⟩,⟨64,#[.pointer (some ⟨d,0,none⟩)],#[]⟩]
theorem on_l (l d n b1 b3 b4:Nat) (f:Int) (L:Lg) (hn:n <= 4294967296):OpL l d L (OnP l n b1 b3 b4 f) (onF d b1 b3 b4) [syO L.seg,erO f,mkO (sgf L.name n),sdO] [1,0,3,1] :=
 ⟨(zha l d b1 L).mono (fun _ _ _ h=>h.1),enters_of Tryz.func123 (by kernel_rfl) rfl,by omega,(zdw l d b4 f L).mono (fun _ _ _ h=>h.2.2),enters_of Tryz.func124 (by kernel_rfl) rfl,by omega,(zgh l d b1 b3 n L (by omega)).mono (fun _ _ _ h=>⟨h.1,h.2.1⟩),enters_of Tryz.func125 (by kernel_rfl) rfl,by omega,z6k l d L _,enters_of Tryz.func64 (by kernel_rfl) rfl,by omega,trivial⟩
theorem on_at (l d:Nat) (Fd Rd FL RL:Nat -> Prop) (L:Lg) (X:Ds) (w:World) (h:LgAt w l d Fd Rd FL RL L X) (hv:Vars w) (hp:pot X + 5 <= 999999) (hsg:L.segments < 1000000) :
  Calls Tryz.prog 69 #[.pointer (some ⟨l,0,none⟩)] w (LogD w l d Fd Rd FL RL L X 5 onR):=by
 have H:=qq h;have HV:=qq hv;have HP:=qq hp;have HSG:=qq hsg;clear h hv hp hsg;go_enter Tryz.func69,Tryz.ntmps69;go_wp2_with (first | go_skip | (with_reducible refine zm (t:=40) ?_))
 refine za (vbox1 (v:=.pointer (some ⟨l,0,none⟩)) (by rfl) rfl ?_);intro b1 w1 n1;simp only [Nat.reduceAdd,qn];have B1:=qq n1.blk;have G1:Hid (w.heap.size <= b1 /\ b1 < w1.heap.size):=qq ⟨n1.ge,n1.lt⟩;have K1:=qq n1.k;clear n1;have H1:=qq (H.out.nb K1.out);have HV1:=qq (HV.out.nb K1.out);have NX:=qq (z6w l d Fd Rd FL RL L X w1 H1.out HV1.out);have c1:w1.cell? ⟨b1,0,none⟩=some (.pointer (some ⟨l,0,none⟩)):=(cell_of_block B1.out).trans rfl;have hnxb:nxN L.name X <= 2147483647 /\ (nxE L.name X=0 -> nxN L.name X=nx L.name X + 1) /\ (nxE L.name X=0 \/ nxE L.name X=5):=by
  unfold nxN nxE mxn;split
  ·exact ⟨by omega,by simp,.inr rfl⟩
  ·exact ⟨by omega,by simp,.inl rfl⟩
 generalize hn:nxN L.name X=n at NX hnxb;generalize hf:nxE L.name X=f at NX hnxb;have HF:=qq hf;have HNX:=qq hnxb;have hn31:=hnxb.1;clear hn hf hnxb;go_wp2_with fail;refine NX.out.mono ?_;rintro _ w8 ⟨rfl,k8⟩;go_wp2_with (first | go_skip | (with_reducible refine qv (by decide) ?_))
 refine za (valloc (z:=.int .i64 0) (by kernel_rfl) ?_);intro b3 w9 n9;simp only [Nat.reduceAdd,qn];go_wp2_with (first | go_skip | (with_reducible refine qv (by decide) ?_))
 refine za (valloc (z:=.int .i64 0) (by kernel_rfl) ?_);intro b4 w10 n10;simp only [Nat.reduceAdd,qn];go_wp2_with (first | go_skip | (with_reducible refine qv (by decide) ?_))
 refine za (zc rfl (zd (v:=.int .i64 (n:Nat)) (n:=1) (by kernel_rfl) (by rfl) (by rfl) (n10.k.nb n9.blk) (by rfl) (by simp [Value.cells]) (by simp [Value.cells,Value.oneCell'])) ?_);intro w11 s11;simp only [Nat.reduceAdd,qn];go_wp2_with (first | go_skip | (with_reducible refine qv (by decide) ?_))
 refine za (zc rfl (zd (v:=.int .i64 f) (n:=1) (by kernel_rfl) (by rfl) (by rfl) (s11.k.at n10.blk (fun e=>by have:=n9.lt;have:=n10.ge;omega)) (by rfl) (by simp [Value.cells]) (by simp [Value.cells,Value.oneCell'])) ?_);intro w12 s12;simp only [Nat.reduceAdd,qn];have h34:b3 < b4:=by have:=n9.lt;have:=n10.ge;omega
 have B4:=qq s12.blk;have B3:=qq (s12.k.at s11.blk (fun e=>by omega));have hz8:=k8.size;have G3:Hid (w1.heap.size <= b3 /\ b3 < b4 /\ b4 < w12.heap.size):=qq ⟨by have:=n9.ge;omega,h34,lt_of_block s12.blk⟩;have K112:Hid (Keeps Nb w1 w12):=qq ((((k8.trans_nb n9.k).trans_nb n10.k).own (k:=b3) (by have:=n9.ge;omega) s11.k).own (k:=b4) (by have:=n9.ge;omega) s12.k);have B112:=qq (K112.out.nb B1.out);have H12:=qq (H1.out.nb K112.out);have K12:=qq (K1.out.trans_nb K112.out);obtain ⟨sv,lv,hcs⟩:=H12.out.cells;have HC:=qq hcs;clear k8 n9 n10 s11 s12 NX c1 hz8 h34 hcs
 have NOF:Hid ((¬ Fd b1 /\ ¬ FL b1) /\ (¬ Fd b3 /\ ¬ FL b3) /\ (¬ Fd b4 /\ ¬ FL b4) /\ b1 ≠ l /\ b3 ≠ l):=qq (by
  have h1:=G1.out;have h2:=G3.out;have h3:=H.out.ltF l H.out.fl
  exact ⟨zq H.out (by omega),zq H.out (by omega),zq H.out (by omega),by omega,by omega⟩)
 go_wp2;refine WT.region (fun u=>u.cell? ⟨b1,0,none⟩=some (.pointer (some ⟨l,0,none⟩)) /\ u.cell? ⟨l,0,none⟩=some (.pointer (some ⟨d,0,none⟩))) 11 12 [0,1,2,3,4,5,6,7,8,9,10,11] (by kernel_rfl) rfl ?_;have K0:Hid (Keeps Nb w12 w12.drew):=qq (Keeps.refl _ w12).drew;have HS:Hid ((fun u:World=>u.cell? ⟨b1,0,none⟩=some (.pointer (some ⟨l,0,none⟩)) /\ u.cell? ⟨l,0,none⟩=some (.pointer (some ⟨d,0,none⟩))) w12.drew):=qq ⟨(cell_of_block (K0.out.nb B112.out)).trans rfl,(cell_of_block (HC.out _ K0.out)).trans rfl⟩;refine WT.t 0 (v:=.pointer (some ⟨l,0,none⟩)) (y:=by rintro w ⟨C1,C2⟩;exact zb (by kernel_rfl) (by rfl) C1) (s:=HS.out) (h:=?_);refine WT.t 1 (v:=_) (y:=by rintro w ⟨C1,C2⟩;go_simp;with_reducible rfl) (s:=HS.out) (h:=?_);refine WT.t 2 (v:=_) (y:=by rintro w ⟨C1,C2⟩;go_simp;with_reducible rfl) (s:=HS.out) (h:=?_);refine WT.t 3 (v:=_) (y:=by rintro w ⟨C1,C2⟩;go_simp;with_reducible rfl) (s:=HS.out) (h:=?_);refine WT.t 4 (v:=.pointer (some ⟨l,0,none⟩)) (y:=by rintro w ⟨C1,C2⟩;exact zb (by kernel_rfl) (by rfl) C1) (s:=HS.out) (h:=?_);refine WT.t 5 (v:=_) (y:=by rintro w ⟨C1,C2⟩;go_simp;with_reducible rfl) (s:=HS.out) (h:=?_);refine WT.t 6 (v:=_) (y:=by rintro w ⟨C1,C2⟩;go_simp;with_reducible rfl) (s:=HS.out) (h:=?_);refine WT.t 7 (v:=.pointer (some ⟨d,0,none⟩)) (y:=by rintro w ⟨C1,C2⟩;exact zb (by kernel_rfl) (by rfl) C2) (s:=HS.out) (h:=?_);refine WT.t 8 (v:=_) (y:=by rintro w ⟨C1,C2⟩;go_simp;with_reducible rfl) (s:=HS.out) (h:=?_);refine WT.o 9 (y:=zl el138 ((onF d b1 b3 b4).map Fv.v) rfl (by simp [List.range'_succ];first | done | rfl | exact ⟨rfl,rfl⟩ | exact ⟨rfl,rfl,rfl⟩ | exact ⟨rfl,rfl,rfl,rfl⟩ | exact ⟨rfl,rfl,rfl,rfl,rfl⟩ | exact ⟨rfl,rfl,rfl,rfl,rfl,rfl⟩) (by simp [Value.cells,onF,Fv.v]) (by simp [onF])) (h:=?_);rintro _ w13 ⟨b20,rfl,n13⟩;simp only [Nat.reduceAdd,qn];have N13:Hid (Keeps Nb w12 w13):=qq (K0.out.trans_nb n13.k);have hP:OnP l n b1 b3 b4 f w13 Fd FL:=⟨⟨N13.out.nb B112.out,NOF.out.1⟩,⟨N13.out.nb B3.out,NOF.out.2.1⟩,⟨N13.out.nb B4.out,NOF.out.2.2.1⟩⟩
 have hrow:Has w13 (some ⟨b20,0,none⟩) ((onF d b1 b3 b4).map Fv.v):=zt n13.blk;have AR:=qq (z16 (n:=4) (zba l n b1 b3 b4 f) (on_l l d n b1 b3 b4 f L (by omega)) (H12.out.nb N13.out) ((HV1.out.nb K112.out).nb N13.out) hP rfl (by omega) (by have:=HP.out;simpa using this) hrow (zq H12.out n13.ge));clear hP hrow n13;refine ⟨⟨(cell_of_block (N13.out.nb B112.out)).trans rfl,(cell_of_block (HC.out _ N13.out)).trans rfl⟩,?_⟩;refine WT.call 10 (by simp only [qi];rfl) (by kernel_rfl) (by rfl) (by go_simp;first | done | rfl | exact ⟨⟨rfl,rfl⟩,rfl⟩ | exact ⟨⟨rfl,rfl,rfl⟩,rfl⟩ | exact ⟨⟨rfl,rfl,rfl,rfl⟩,rfl⟩ | exact ⟨⟨rfl,rfl,rfl,rfl,rfl⟩,rfl⟩) AR.out ?_;rintro e w14 ⟨er2,Y,L',rfl,hnow,hask,hL',hpot⟩;have hnow1:=(hnow.from N13.out).from K12.out;obtain ⟨Fd',Rd',FL',RL',g1,g2,g3,g4,g5,g6⟩:=hnow1;have hk14:Keeps (fun k=>Fd k \/ FL k) w13 w14:=by obtain ⟨_,_,_,_,_,_,_,_,_,hk⟩:=hnow;exact hk
 have B114:=qq (hk14.at (N13.out.nb B112.out) (fun e=>e.elim NOF.out.1.1 NOF.out.1.2));have B314:=qq (hk14.at (N13.out.nb B3.out) (fun e=>e.elim NOF.out.2.1.1 NOF.out.2.1.2));obtain ⟨sv3,lv3,vs3,q1,q2,q3,q4⟩:=g1.ex;obtain ⟨-,-,la,lc,rfl,-⟩:=id q3;have Q1:=qq q1;refine ⟨_,rfl,⟨(cell_of_block B114.out).trans rfl,(cell_of_block q1).trans rfl⟩,?_⟩;simp only [Nat.reduceAdd,qn];have hpo:pot Y <= pot X + 5:=by simpa using hpot
 have HPO:=qq hpo;have HASK:=qq hask;have HL':=qq hL';have HG1:=qq g1;have HR:=qq (And.intro g2 (And.intro g3 (And.intro g4 (And.intro g5 g6))));clear q1 q2 q3 q4 g1 g2 g3 g4 g5 g6 hpo hnow hask hL' hpot AR hk14 HS;refine WT.stop (by kernel_rfl) ?_;refine WP.o 11 (v:=_) (y:=by go_simp;first | with_reducible rfl | exact ⟨rfl,rfl⟩) (h:=?_);refine WP.done (by kernel_rfl) ?_;by_cases he:er2=0
 ·
  subst he;have e2:L'=L:=by rw [HL'.out,if_pos rfl]
  subst e2;have hf0:f=0 /\ n=nx L'.name X + 1:=by
   rcases HNX.out.2.2 with h0 | h0
   ·exact ⟨h0,HNX.out.2.1 h0⟩
   ·exact absurd rfl (z1q (l':=[]) (by rw [h0];decide) HASK.out).2
  have HF0:=qq hf0;clear hf0;go_wp2;refine WT.region (fun u=>u.cell? ⟨b1,0,none⟩=some (.pointer (some ⟨l,0,none⟩)) /\ u.cell? ⟨b3,0,none⟩=some (.int .i64 (n:Nat)) /\ u.cell? ⟨l,9,none⟩=some (.slice la L'.recs.length lc)) 15 18 [0,1,2,3,4,5,6,7,8,9,10,11,12,13,14,15,16,17] (by kernel_rfl) rfl ?_;have HS:Hid ((fun u:World=>u.cell? ⟨b1,0,none⟩=some (.pointer (some ⟨l,0,none⟩)) /\ u.cell? ⟨b3,0,none⟩=some (.int .i64 (n:Nat)) /\ u.cell? ⟨l,9,none⟩=some (.slice la L'.recs.length lc)) w14.drew):=qq ⟨(cell_of_block (w:=w14.drew) B114.out).trans rfl,(cell_of_block (w:=w14.drew) B314.out).trans rfl,(cell_of_block (w:=w14.drew) Q1.out).trans rfl⟩;refine WT.t 0 (v:=.pointer (some ⟨l,0,none⟩)) (y:=by rintro w ⟨C1,C2,C3⟩;exact zb (by kernel_rfl) (by rfl) C1) (s:=HS.out) (h:=?_);refine WT.t 1 (v:=.pointer (some ⟨l,0,none⟩)) (y:=by rintro w ⟨C1,C2,C3⟩;exact zb (by kernel_rfl) (by rfl) C1) (s:=HS.out) (h:=?_);refine WT.t 2 (v:=.pointer (some ⟨l,0,none⟩)) (y:=by rintro w ⟨C1,C2,C3⟩;exact zb (by kernel_rfl) (by rfl) C1) (s:=HS.out) (h:=?_);refine WT.t 3 (v:=.int .i64 (n:Nat)) (y:=by rintro w ⟨C1,C2,C3⟩;exact zb (by kernel_rfl) (by rfl) C2) (s:=HS.out) (h:=?_);refine WT.t 4 (v:=.pointer (some ⟨l,0,none⟩)) (y:=by rintro w ⟨C1,C2,C3⟩;exact zb (by kernel_rfl) (by rfl) C1) (s:=HS.out) (h:=?_);refine WT.t 5 (v:=_) (y:=by rintro w ⟨C1,C2,C3⟩;go_simp;with_reducible rfl) (s:=HS.out) (h:=?_);refine WT.t 6 (v:=_) (y:=by rintro w ⟨C1,C2,C3⟩;go_simp;with_reducible rfl) (s:=HS.out) (h:=?_);refine WT.t 7 (v:=.slice la L'.recs.length lc) (y:=by rintro w ⟨C1,C2,C3⟩;exact zb (by kernel_rfl) (by rfl) C3) (s:=HS.out) (h:=?_);refine WT.t 8 (v:=_) (y:=by rintro w ⟨C1,C2,C3⟩;go_simp;with_reducible rfl) (s:=HS.out) (h:=?_);refine WT.t 9 (v:=_) (y:=by rintro w ⟨C1,C2,C3⟩;go_simp;with_reducible rfl) (s:=HS.out) (h:=?_);refine WT.t 10 (v:=_) (y:=by rintro w ⟨C1,C2,C3⟩;go_simp;with_reducible rfl) (s:=HS.out) (h:=?_);refine WT.onlySkipE 11 (by simp only [qi];rfl) (by kernel_rfl) (by rfl) (zd (w:=w14.drew) (v:=.int .i64 (n:Nat)) (n:=1) (by kernel_rfl) (by rfl) (by rfl) Q1.out (by rfl) (by simp [Value.cells,lcs]) (by simp [Value.cells,Value.oneCell'])) ?_;intro w15 s15;have B115:=qq (s15.k.at (w:=w14.drew) B114.out NOF.out.2.2.2.1);have B315:=qq (s15.k.at (w:=w14.drew) B314.out NOF.out.2.2.2.2);replace HS:Hid ((fun u:World=>u.cell? ⟨b1,0,none⟩=some (.pointer (some ⟨l,0,none⟩)) /\ u.cell? ⟨b3,0,none⟩=some (.int .i64 (n:Nat)) /\ u.cell? ⟨l,9,none⟩=some (.slice la L'.recs.length lc)) w15):=qq ⟨(cell_of_block B115.out).trans rfl,(cell_of_block B315.out).trans rfl,(cell_of_block s15.blk).trans rfl⟩;refine ⟨HS.out,?_⟩;simp only [Nat.reduceAdd,qn];refine WT.t 12 (v:=_) (y:=by rintro w ⟨C1,C2,C3⟩;go_simp;with_reducible rfl) (s:=HS.out) (h:=?_);refine WT.t 13 (v:=_) (y:=by rintro w ⟨C1,C2,C3⟩;go_simp;with_reducible rfl) (s:=HS.out) (h:=?_);refine WT.onlySkipE 14 (by simp only [qi];rfl) (by kernel_rfl) (by rfl) (zd (v:=.int .i64 0) (n:=1) (by kernel_rfl) (by rfl) (by rfl) s15.blk (by rfl) (by simp [Value.cells,lcs,splice]) (by simp [Value.cells,Value.oneCell'])) ?_;intro w16 s16;have B116:=qq (s16.k.at B115.out NOF.out.2.2.2.1);have B316:=qq (s16.k.at B315.out NOF.out.2.2.2.2);replace HS:Hid ((fun u:World=>u.cell? ⟨b1,0,none⟩=some (.pointer (some ⟨l,0,none⟩)) /\ u.cell? ⟨b3,0,none⟩=some (.int .i64 (n:Nat)) /\ u.cell? ⟨l,9,none⟩=some (.slice la L'.recs.length lc)) w16):=qq ⟨(cell_of_block B116.out).trans rfl,(cell_of_block B316.out).trans rfl,(cell_of_block s16.blk).trans rfl⟩;refine ⟨HS.out,?_⟩;simp only [Nat.reduceAdd,qn];refine WT.stop (by kernel_rfl) ?_;refine WP.o 15 (v:=_) (y:=by go_simp;first | with_reducible rfl | exact ⟨rfl,rfl⟩) (h:=?_);refine WP.o 16 (v:=_) (y:=by go_simp;first | with_reducible rfl | exact ⟨rfl,rfl⟩) (h:=?_);refine WP.onlySkipE 17 (by simp only [qi];rfl) (by kernel_rfl) (by rfl) (zd (v:=.int .i64 (L'.recs.length:Nat)) (n:=1) (by kernel_rfl) (by rfl) (by rfl) s16.blk (by rfl) (by simp [Value.cells,lcs,splice]) (by simp [Value.cells,Value.oneCell'])) ?_;intro w17 s17;simp only [Nat.reduceAdd,qn];refine WP.done (by kernel_rfl) ?_;have S17:SetAt w14 w17 l (.cells (lcs d sv3 (.slice la L'.recs.length lc) { L' with segment:=n,size:=0,synced:=L'.recs.length }) 78 (0,0)):=⟨s17.blk,(((Keeps.refl (·=l) w14).drew.trans s15.k (fun _ _ e=>e)).trans s16.k (fun _ _ e=>e)).trans s17.k (fun _ _ e=>e)⟩
  have HS17:=qq S17;have B117:=qq (s17.k.at B116.out NOF.out.2.2.2.1);have c117:w17.cell? ⟨b1,0,none⟩=some (.pointer (some ⟨l,0,none⟩)):=(cell_of_block B117.out).trans rfl;have c517:w17.cell? ⟨l,5,none⟩=some (.int .i64 (L'.segments:Nat)):=(cell_of_block S17.blk).trans rfl;have iw:IntKind.i64.wrap ((L'.segments:Int) + 1)=(L'.segments:Int) + 1:=IntWalk.i64_in _ (by have:=HSG.out;omega);clear s15 s16 s17 S17 HS;go_wp2_with (first | go_skip | (with_reducible refine qv (by decide) ?_))
  refine za (zc rfl (zd (v:=.int .i64 ((L'.segments + 1:Nat):Int)) (n:=1) (by kernel_rfl) (by rfl) (by rfl) HS17.out.blk (by rfl) (by simp [Value.cells,lcs]) (by simp [Value.cells,Value.oneCell'])) ?_);intro w18 s18;simp only [Nat.reduceAdd,qn];have S18:SetAt w14 w18 l (.cells (lcs d sv3 (.slice la L'.recs.length lc) { L' with segment:=n,size:=0,synced:=L'.recs.length,segments:=L'.segments + 1 }) 78 (0,0)):=⟨s18.blk,HS17.out.k.trans s18.k (fun _ _ e=>e)⟩
  have hg4:LgAt w18 l d Fd' Rd' FL' RL' { L' with segment:=n,size:=0,synced:=L'.recs.length,segments:=L'.segments + 1 } Y:=by
   have hh:=HG1.out.nums;exact HG1.out.setL Q1.out S18 rfl rfl rfl ⟨hh.name,hh.n16,hh.most,hh.first,(by show n <= _;omega),HSG.out,Nat.zero_le _,hh.recs,hh.nrec,hh.snap⟩
  have F:Hid (LNow w w18 l d Fd Rd FL RL { L' with segment:=n,size:=0,synced:=L'.recs.length,segments:=L'.segments + 1 } Y):=qq (by
   obtain ⟨g2,g3,g4,g5,g6⟩:=HR.out
   exact ⟨Fd',Rd',FL',RL',hg4,g2,g3,g4,g5,g6.trans S18.k (fun j hj e=>by
    have e:j=l:=e;subst e
    exact .inr H.out.fl)⟩)
  clear s18 S18 hg4 c117 c517;go_wp2;go_ret;refine ⟨0,_,Y,rfl,F.out,⟨?_,.inr ⟨rfl,?_⟩⟩,HPO.out⟩
  ·rw [HF.out,<- HF0.out.2];exact HASK.out
  ·rw [<- HF0.out.2]
 ·
  have e2:L'={ L with bad:=true }:=by rw [HL'.out,if_neg he]
  subst e2;have F:Hid (LNow w w14 l d Fd Rd FL RL { L with bad:=true } Y):=qq ⟨Fd',Rd',FL',RL',HG1.out,HR.out⟩;have HE:=qq he;have t9:(er2 != 0)=true:=by simpa using he
  have hor:askO [syO L.seg,erO (nxE L.name X),mkO (sgf L.name (nx L.name X + 1)),sdO] X er2 Y:=by
   rcases HNX.out.2.2 with h0 | h0
   ·rw [HF.out,<- HNX.out.2.1 h0];exact HASK.out
   ·rw [HF.out];exact (z1q (by rw [h0];decide) HASK.out).1
  have HO:=qq hor;clear he hor;go_wp2;go_ret;exact ⟨er2,_,Y,rfl,F.out,⟨HO.out,.inl ⟨HE.out,rfl⟩⟩,HPO.out⟩
end Go.Proofs.YtpjomdmjohjheaaGreatDoor
end
section
namespace Go.Proofs.YtpjomdmjohjheaaGreatDoor
open Go.RowKit Go.Lk Go.Vfs Go.Log
def ApP (l b2 b6:Nat) (v:Value) (bs:List Nat):World -> (Nat -> Prop) -> (Nat -> Prop) -> Prop:=fun w a b=>LB b2 l w a b /\ YB b6 v bs w a b
theorem zb0 (l b2 b6:Nat) (v:Value) (bs:List Nat):Stable (ApP l b2 b6 v bs):=(zr _ _).and (z2e _ _ _)
theorem app_l (l d b2 b6:Nat) (L:Lg) (ad:Option Addr) (n c:Nat) (bs:List Nat):OpL l d L (ApP l b2 b6 (.slice ad n c) bs) [⟨67,#[],#[.pointer (some ⟨b2,0,none⟩),.pointer (some ⟨b6,0,none⟩)]⟩] [apO L.seg bs] [1] :=
 ⟨ap67_c l d b2 b6 L ad n c bs,enters_of Tryz.func67 (by kernel_rfl) rfl,by omega,trivial⟩
theorem z7m {w w' w2:World} {l d:Nat} {Fd Rd FL RL Fd' Rd' FL' RL':Nat -> Prop} {L2:Lg} {X2:Ds} (h2:∀ k,Fd' k -> Fd k \/ w.heap.size <= k) (h3:∀ k,Rd' k -> Rd k \/ w.heap.size <= k) (h4:∀ k,FL' k -> FL k \/ w.heap.size <= k) (h5:∀ k,RL' k -> RL k \/ w.heap.size <= k)
  (h6:Keeps (fun k=>Fd k \/ FL k) w w') (hn:LNow w' w2 l d Fd' Rd' FL' RL' L2 X2):LNow w w2 l d Fd Rd FL RL L2 X2:=by
 obtain ⟨Fd2,Rd2,FL2,RL2,k1,k2,k3,k4,k5,k6⟩:=hn;have hz:=h6.size;refine ⟨Fd2,Rd2,FL2,RL2,k1,fun k e=>(k2 k e).elim (h2 k) (fun e=>.inr (by omega)),fun k e=>(k3 k e).elim (h3 k) (fun e=>.inr (by omega)),fun k e=>(k4 k e).elim (h4 k) (fun e=>.inr (by omega)),fun k e=>(k5 k e).elim (h5 k) (fun e=>.inr (by omega)),h6.trans k6 (fun i hi e=>?_)⟩;rcases e with e | e
 ·exact (h2 i e).elim .inl (fun e=>by omega)
 ·exact (h4 i e).elim .inr (fun e=>by omega)
theorem zc3 (l d:Nat) (Fd Rd FL RL:Nat -> Prop) (L:Lg) (X:Ds) (v:Value) (bs:List Nat) (w:World) (h:LgAt w l d Fd Rd FL RL L X) (hv:Vars w) (hb:BytesO v bs w Fd FL) (hp:pot X + 6 <= 999999) (hsg:L.segments < 1000000) (hrc:L.recs.length < 4000000000000) (hsz:L.size <= 16777216) :
  Calls Tryz.prog 21 #[.pointer (some ⟨l,0,none⟩),v] w (LogD w l d Fd Rd FL RL L X 6 (fun L X e L' Y=>appR L bs X e L' Y)):=by
 obtain ⟨va,vc,rfl,hq⟩:=id hb;have H:=qq h;have HV:=qq hv;have HP:=qq hp;have HSG:=qq hsg;have HRC:=qq hrc;have HSZ:=qq hsz;have HB:=qq hb;obtain ⟨m,hm⟩:∃ m,bs.length=m:=⟨_,rfl⟩
 have HM:=qq hm;rw [hm] at HB ⊢;clear h hv hp hsg hrc hsz hb hq hm;go_enter Tryz.func21,Tryz.ntmps21;go_wp2_with (first | go_skip | (with_reducible refine zm (t:=40) ?_))
 refine za (vbox1 (v:=.pointer (some ⟨l,0,none⟩)) (by rfl) rfl ?_);intro b2 w1 n1;simp only [Nat.reduceAdd,qn];have B2:=qq n1.blk;have G2:Hid (w.heap.size <= b2 /\ b2 < w1.heap.size):=qq ⟨n1.ge,n1.lt⟩;have K1:=qq n1.k;clear n1;have H1:=qq (H.out.nb K1.out);have HB1:Hid (Bytes w1 (Out w Fd FL) (.slice va m vc) bs):=qq (Bytes.keeps HB.out K1.out (fun _ _ e=>e));obtain ⟨sv,lv,vs,q1,-⟩:=H1.out.ex;have MA:=qq (z8m l d sv lv L va m vc w1 q1);have c2:w1.cell? ⟨b2,0,none⟩=some (.pointer (some ⟨l,0,none⟩)):=(cell_of_block B2.out).trans rfl;have hb2l:b2 ≠ l:=fun e=>by have:=H.out.ltF l H.out.fl;have:=G2.out;omega
 obtain ⟨f,hf⟩:∃ f,mayE L m=f:=⟨_,rfl⟩
 rw [hf] at MA;have HF:=qq hf;clear hf q1;go_wp2_with fail;refine MA.out.mono ?_;rintro _ _ ⟨rfl,rfl⟩;clear MA;by_cases h0:f=0
 ·
  subst h0;have hmx:m <= mxr:=by
   have:=HF.out;unfold mayE at this;split at this
   ·cases this
   ·omega
  have RA:=qq (z7s (.slice va m vc) bs (Out w Fd FL) w1 HB1.out (fun k hk=>Nat.lt_of_lt_of_le hk.1 K1.out.size) (by rw [HM.out];exact hmx));clear c2;go_wp2_with fail;refine RA.out.mono ?_;rintro _ w3 ⟨v',rfl,hb3,k3⟩;obtain ⟨a6,c6,rfl,-⟩:=id hb3;obtain ⟨rl,hrl⟩:∃ r,(recd bs).length=r:=⟨_,rfl⟩
  have hrlm:rl=8 + m:=by rw [<- hrl,zu,HM.out]
  rw [hrl] at hb3 ⊢;have HRL:=qq hrlm;have HB3:=qq hb3;clear hrlm hrl;have K13:=qq k3;clear hb3 k3 RA;go_wp2_with (first | go_skip | (with_reducible refine qv (by decide) ?_))
  refine za (valloc (z:=.slice none 0 0) (by kernel_rfl) ?_);intro b6 w4 n4;simp only [Nat.reduceAdd,qn];go_wp2_with (first | go_skip | (with_reducible refine qv (by decide) ?_))
  refine za (zc rfl (zd (v:=.slice a6 rl c6) (n:=1) (by kernel_rfl) (by rfl) (by rfl) n4.blk (by rfl) (by simp [Value.cells]) (by simp [Value.cells,Value.oneCell'])) ?_);intro w5 s5;simp only [Nat.reduceAdd,qn];have B6:Hid (w5.heap[b6]?=some (.cells #[.slice a6 rl c6] 22 (0,0))):=qq s5.blk;have K35:Hid (Keeps Nb w3 w5):=qq (n4.k.own (k:=b6) n4.ge s5.k);have G6:Hid (w3.heap.size <= b6 /\ b6 < w5.heap.size):=qq ⟨n4.ge,lt_of_block s5.blk⟩;have K15:Hid (Keeps Nb w1 w5):=qq (K13.out.trans_nb K35.out);have K5:Hid (Keeps Nb w w5):=qq (K1.out.trans_nb K15.out);have B25:=qq (K15.out.nb B2.out);have H5:=qq (H1.out.nb K15.out);clear n4 s5;have c25:w5.cell? ⟨b2,0,none⟩=some (.pointer (some ⟨l,0,none⟩)):=(cell_of_block B25.out).trans rfl;go_wp2_with (first | go_skip | (with_reducible refine qv (by decide) ?_))
  refine za (zi rfl (zl el138 [.func (.func 67) #[] #[.pointer (some ⟨b2,0,none⟩),.pointer (some ⟨b6,0,none⟩)]] rfl (by simp [List.range'_succ];first | done | rfl | exact ⟨rfl,rfl⟩ | exact ⟨rfl,rfl,rfl⟩ | exact ⟨rfl,rfl,rfl,rfl⟩ | exact ⟨rfl,rfl,rfl,rfl,rfl⟩ | exact ⟨rfl,rfl,rfl,rfl,rfl,rfl⟩) (by simp [Value.cells]) (by simp)) ?_);rintro _ w6 ⟨b9,rfl,n9⟩;simp only [Nat.reduceAdd,qn];have K56:=qq n9.k
  have NOF:Hid ((¬ Fd b2 /\ ¬ FL b2) /\ (¬ Fd b6 /\ ¬ FL b6) /\ b2 ≠ l /\ b6 ≠ l):=qq (by
   have h1:=G2.out;have h2:=G6.out;have h3:=H.out.ltF l H.out.fl;have h4:=K13.out.size
   exact ⟨zq H.out (by omega),zq H.out (by omega),by omega,by omega⟩)
  have hP:ApP l b2 b6 (.slice a6 rl c6) (recd bs) w6 Fd FL:=⟨⟨n9.k.nb B25.out,NOF.out.1⟩,⟨n9.k.nb B6.out,NOF.out.2.1⟩,by
   refine ((HB3.out.keeps (K35.out.trans_nb n9.k) (fun _ _ e=>e)).mono (fun k hk=>?_))
   exact ⟨by have:=hk.2;have:=K35.out.size;have:=n9.k.size;omega,zq H.out (by have:=hk.1;have:=K1.out.size;omega)⟩⟩
  have hrow:Has w6 (some ⟨b9,0,none⟩) ([(⟨67,#[],#[.pointer (some ⟨b2,0,none⟩),.pointer (some ⟨b6,0,none⟩)]⟩:Fv)].map Fv.v):=zt n9.blk;have AR:=qq (z16 (n:=1) (zb0 l b2 b6 (.slice a6 rl c6) (recd bs)) (app_l l d b2 b6 L a6 rl c6 (recd bs)) (H5.out.nb n9.k) ((HV.out.nb K5.out).nb n9.k) hP rfl (by omega) (by have:=HP.out;simp;omega) hrow (zq H5.out n9.ge));clear hP hrow n9 c25;go_wp2_with fail;refine AR.out.mono ?_;rintro e w7 ⟨er2,Y,L',rfl,hnow,hask,hL',hpot⟩;obtain ⟨Fd',Rd',FL',RL',g1,j2,j3,j4,j5,hk67⟩:=hnow;have zz:w.heap.size <= w6.heap.size:=(K5.out.trans_nb K56.out).size;have g2:∀ k,Fd' k -> Fd k \/ w.heap.size <= k:=fun k e=>(j2 k e).imp id (fun e=>by omega);have g3:∀ k,Rd' k -> Rd k \/ w.heap.size <= k:=fun k e=>(j3 k e).imp id (fun e=>by omega);have g4:∀ k,FL' k -> FL k \/ w.heap.size <= k:=fun k e=>(j4 k e).imp id (fun e=>by omega);have g5:∀ k,RL' k -> RL k \/ w.heap.size <= k:=fun k e=>(j5 k e).imp id (fun e=>by omega);have g6:Keeps (fun k=>Fd k \/ FL k) w w7:=((K5.out.trans_nb K56.out).of_nb).trans hk67 (fun _ _ e=>e);have J4:=qq j4;have hap:apO L.seg (recd bs) X er2 Y:=by
   obtain ⟨e1,Z,h1,h2⟩:=hask;rcases h2 with ⟨-,rfl,rfl⟩ | ⟨rfl,rfl,rfl⟩
   ·exact h1
   ·exact h1
  have hpo:pot Y <= pot X + 1:=by simpa using hpot
  have HAP:=qq hap;have HPO:=qq hpo;have HG1:=qq g1;have HL':=qq hL';have HR:=qq (And.intro g2 (And.intro g3 (And.intro g4 (And.intro g5 g6))));have B27:=qq (hk67.at (K56.out.nb B25.out) (fun e=>e.elim NOF.out.1.1 NOF.out.1.2));have B67:=qq (hk67.at (K56.out.nb B6.out) (fun e=>e.elim NOF.out.2.1.1 NOF.out.2.1.2));have HV7:Hid (Vars w7):=qq (((HV.out.nb K5.out).nb K56.out).keeps hk67 (fun k hk e=>by have:=H.out.low k e;omega));have HB7:Hid (Bytes w7 (fun k=>Out w Fd FL k) (.slice va m vc) bs):=qq ((HB1.out.keeps (K15.out.trans_nb K56.out) (fun _ _ e=>e)).keeps hk67 (fun k hk e=>e.elim hk.2.1 hk.2.2));have K67:=qq hk67;clear g1 g2 g3 g4 g5 g6 j2 j3 j4 j5 zz hpo hask hL' hpot AR hk67 hap;by_cases he:er2=0
  ·
   subst he;have e2:L'=L:=by rw [HL'.out,if_pos rfl]
   subst e2;obtain ⟨sv3,lv3,vs3,q1,q2,q3,q4⟩:=HG1.out.ex;obtain ⟨x1,x2,la,lc,rfl,x4,x5,x6,x7,x8⟩:=id q3;have Q1:=qq q1;have Q2:=qq q2;have Q4:=qq q4;obtain ⟨nr,hnr⟩:∃ q,L'.recs.length=q:=⟨_,rfl⟩
   have HNR:=qq hnr;rw [hnr] at Q1 x1 x4;have hfull:RowS w7 FL' (fun _=>False) 22 1 (.slice la nr nr) nr vs3:=⟨x1,x2,la,nr,rfl,Nat.le_refl _,by omega,x6,x7,.inl rfl⟩
   have HFU:=qq hfull;have hnc:nr <= lc:=x4;have c27:w7.cell? ⟨b2,0,none⟩=some (.pointer (some ⟨l,0,none⟩)):=(cell_of_block B27.out).trans rfl;have c97:w7.cell? ⟨l,9,none⟩=some (.slice la nr lc):=(cell_of_block Q1.out).trans rfl;clear q1 q2 q3 q4 x1 x2 x4 x5 x6 x7 x8 hnr hfull;go_wp2;refine WT.region (fun u=>u.cell? ⟨b2,0,none⟩=some (.pointer (some ⟨l,0,none⟩)) /\ u.cell? ⟨l,9,none⟩=some (.slice la nr lc)) 20 23 [0,1,2,3,4,5,6,7,8,9,10,11,12,13,14,15,16,17,18,19,20,21,22] (by kernel_rfl) rfl ?_;have K7:Hid (Keeps Nb w7 w7.drew):=qq (Keeps.refl _ w7).drew;have HS:Hid ((fun u:World=>u.cell? ⟨b2,0,none⟩=some (.pointer (some ⟨l,0,none⟩)) /\ u.cell? ⟨l,9,none⟩=some (.slice la nr lc)) w7.drew):=qq ⟨c27,c97⟩;have CA:=qq (z2u (.slice va m vc) bs _ w7.drew (HB7.out.keeps K7.out (fun _ _ e=>e)) (by rw [HM.out];unfold mxr at hmx;omega));refine WT.t 0 (v:=.pointer (some ⟨l,0,none⟩)) (y:=by rintro w ⟨C1,C2⟩;exact zb (by kernel_rfl) (by rfl) C1) (s:=HS.out) (h:=?_);refine WT.t 1 (v:=.pointer (some ⟨l,0,none⟩)) (y:=by rintro w ⟨C1,C2⟩;exact zb (by kernel_rfl) (by rfl) C1) (s:=HS.out) (h:=?_);refine WT.t 2 (v:=_) (y:=by rintro w ⟨C1,C2⟩;go_simp;with_reducible rfl) (s:=HS.out) (h:=?_);refine WT.t 3 (v:=_) (y:=by rintro w ⟨C1,C2⟩;go_simp;with_reducible rfl) (s:=HS.out) (h:=?_);refine WT.t 4 (v:=.slice la nr lc) (y:=by rintro w ⟨C1,C2⟩;exact zb (by kernel_rfl) (by rfl) C2) (s:=HS.out) (h:=?_);refine WT.t 5 (v:=.pointer (some ⟨l,0,none⟩)) (y:=by rintro w ⟨C1,C2⟩;exact zb (by kernel_rfl) (by rfl) C1) (s:=HS.out) (h:=?_);refine WT.t 6 (v:=_) (y:=by rintro w ⟨C1,C2⟩;go_simp;with_reducible rfl) (s:=HS.out) (h:=?_);refine WT.t 7 (v:=_) (y:=by rintro w ⟨C1,C2⟩;go_simp;with_reducible rfl) (s:=HS.out) (h:=?_);refine WT.t 8 (v:=.slice la nr lc) (y:=by rintro w ⟨C1,C2⟩;exact zb (by kernel_rfl) (by rfl) C2) (s:=HS.out) (h:=?_);refine WT.t 9 (v:=_) (y:=by rintro w ⟨C1,C2⟩;go_simp;with_reducible rfl) (s:=HS.out) (h:=?_);refine WT.t 10 (v:=.pointer (some ⟨l,0,none⟩)) (y:=by rintro w ⟨C1,C2⟩;exact zb (by kernel_rfl) (by rfl) C1) (s:=HS.out) (h:=?_);refine WT.t 11 (v:=_) (y:=by rintro w ⟨C1,C2⟩;go_simp;with_reducible rfl) (s:=HS.out) (h:=?_);refine WT.t 12 (v:=_) (y:=by rintro w ⟨C1,C2⟩;go_simp;with_reducible rfl) (s:=HS.out) (h:=?_);refine WT.t 13 (v:=.slice la nr lc) (y:=by rintro w ⟨C1,C2⟩;exact zb (by kernel_rfl) (by rfl) C2) (s:=HS.out) (h:=?_);refine WT.t 14 (v:=_) (y:=by rintro w ⟨C1,C2⟩;go_simp;with_reducible rfl) (s:=HS.out) (h:=?_);refine WT.t 15 (v:=.slice la nr nr) (y:=by rintro w ⟨C1,C2⟩;go_simp) (s:=HS.out) (h:=?_);refine WT.t 16 (v:=_) (y:=by rintro w ⟨C1,C2⟩;go_simp;with_reducible rfl) (s:=HS.out) (h:=?_);refine WT.call 17 (by simp only [qi];rfl) (by kernel_rfl) (by rfl) (by go_simp;first | done | rfl | exact ⟨⟨rfl,rfl⟩,rfl⟩ | exact ⟨⟨rfl,rfl,rfl⟩,rfl⟩ | exact ⟨⟨rfl,rfl,rfl,rfl⟩,rfl⟩ | exact ⟨⟨rfl,rfl,rfl,rfl,rfl⟩,rfl⟩) CA.out ?_;rintro _ w8 ⟨cv,rfl,hco,k8⟩;have K78:Hid (Keeps Nb w7 w8):=qq (K7.out.trans_nb k8);have HCV:Hid (Bytes w8 (fun k=>(w7.heap.size <= k /\ k < w8.heap.size) /\ IsT w8 5 k) cv bs):=qq (z0m hco (by obtain ⟨_,_,_,_,_,_,hlt,_⟩:=HB7.out;exact hlt));have hlt:∀ z ∈ bs,z < 256:=by obtain ⟨_,_,_,_,_,_,hlt,_⟩:=HB7.out;exact hlt
   have HLT:=qq hlt;obtain ⟨ca,cc,rfl,-⟩:=id HCV.out;rw [HM.out] at HCV ⊢;clear hco k8 CA hlt;have B28:=qq (K78.out.nb B27.out);have Q18:=qq (K78.out.nb Q1.out);replace HS:Hid ((fun u:World=>u.cell? ⟨b2,0,none⟩=some (.pointer (some ⟨l,0,none⟩)) /\ u.cell? ⟨l,9,none⟩=some (.slice la nr lc)) w8):=qq ⟨(cell_of_block B28.out).trans rfl,(cell_of_block Q18.out).trans rfl⟩;refine ⟨_,rfl,HS.out,?_⟩;simp only [Nat.reduceAdd,qn];refine WT.o 18 (y:=zl el27 [.slice ca m cc] rfl (by simp [List.range'_succ];first | done | rfl | exact ⟨rfl,rfl⟩ | exact ⟨rfl,rfl,rfl⟩ | exact ⟨rfl,rfl,rfl,rfl⟩ | exact ⟨rfl,rfl,rfl,rfl,rfl⟩ | exact ⟨rfl,rfl,rfl,rfl,rfl,rfl⟩) (by simp [Value.cells]) (by simp)) (h:=?_);rintro _ w9 ⟨b21,rfl,n9⟩;simp only [Nat.reduceAdd,qn];have K89:=qq n9.k;have K79:Hid (Keeps Nb w7 w9):=qq (K78.out.trans_nb n9.k);have HH9:Hid (Has w9 (some ⟨b21,0,none⟩) [.slice ca m cc]):=qq (zt n9.blk);have B29:=qq (K79.out.nb B27.out);have Q19:=qq (K79.out.nb Q1.out);clear n9;replace HS:Hid ((fun u:World=>u.cell? ⟨b2,0,none⟩=some (.pointer (some ⟨l,0,none⟩)) /\ u.cell? ⟨l,9,none⟩=some (.slice la nr lc)) w9):=qq ⟨(cell_of_block B29.out).trans rfl,(cell_of_block Q19.out).trans rfl⟩;refine ⟨HS.out,?_⟩;have hnr4:nr < 4000000000000:=by rw [<- HNR.out];exact HRC.out
   refine WT.o 19 (y:=re_push' el27 (HFU.out.keeps K79.out (fun _ _ _ e=>e)) (by rfl) (by rfl) HH9.out rfl (by intro u hu;rw [List.mem_singleton.1 hu];rfl) (by unfold maxLen;omega) (by omega)) (h:=?_);rintro lv5 w10 ⟨r5,S5,k5,hS5⟩;simp only [Nat.reduceAdd,qn];have hS5':∀ k,S5 k -> FL' k /\ IsT w9 22 k:=hS5;have hnb2:¬ S5 b2:=fun e=>(J4.out b2 (hS5' b2 e).1).elim NOF.out.1.2 (fun e=>by have:=G2.out;have:=K15.out.size;have:=K56.out.size;omega);have hnb6:¬ S5 b6:=fun e=>(J4.out b6 (hS5' b6 e).1).elim NOF.out.2.1.2 (fun e=>by have:=G6.out;have:=K56.out.size;omega);have hnl:¬ S5 l:=fun e=>by have:=(hS5' l e).2;exact (this.ne ⟨_,_,Q19.out⟩ (by decide)) rfl
   have B210:=qq (k5.at B29.out hnb2);have B610:=qq (k5.at (K79.out.nb B67.out) hnb6);have Q110:=qq (k5.at Q19.out hnl);have KS:=qq k5;have HS5:=qq hS5';have R5:Hid (RowS w10 (Up FL' w9 w10) (fun _=>False) 22 1 lv5 (nr + 1) (vs3 ++ [.slice ca m cc])):=qq r5;obtain ⟨-,-,a5,c5,rfl,-⟩:=id r5;clear hS5' hnb2 hnb6 hnl r5 k5 hS5;replace HS:Hid ((fun u:World=>u.cell? ⟨b2,0,none⟩=some (.pointer (some ⟨l,0,none⟩)) /\ u.cell? ⟨l,9,none⟩=some (.slice la nr lc)) w10):=qq ⟨(cell_of_block B210.out).trans rfl,(cell_of_block Q110.out).trans rfl⟩;refine ⟨HS.out,?_⟩;refine WT.stop (by kernel_rfl) ?_;refine WP.o 20 (v:=_) (y:=by go_simp;first | with_reducible rfl | exact ⟨rfl,rfl⟩) (h:=?_);refine WP.o 21 (v:=_) (y:=by go_simp;first | with_reducible rfl | exact ⟨rfl,rfl⟩) (h:=?_);refine WP.onlySkipE 22 (by simp only [qi];rfl) (by kernel_rfl) (by rfl) (zd (v:=.slice a5 (nr + 1) c5) (n:=1) (by kernel_rfl) (by rfl) (by rfl) Q110.out (by rfl) (by simp [Value.cells,lcs]) (by simp [Value.cells,Value.oneCell'])) ?_;intro w11 s11;simp only [Nat.reduceAdd,qn];refine WP.done (by kernel_rfl) ?_;have S11:Hid (SetAt w10 w11 l (.cells (lcs d sv3 (.slice a5 (nr + 1) c5) L') 78 (0,0))):=qq ⟨s11.blk,s11.k⟩;have B211:=qq (s11.k.at B210.out NOF.out.2.2.1);have B611:=qq (s11.k.at B610.out NOF.out.2.2.2);clear s11 HS c27 c97;go_wp2;have hz:L'.size <= 16777216:=HSZ.out;have hrl9:rl <= 1048584:=by have:=HRL.out;unfold mxr at hmx;omega
   have iw:IntKind.i64.wrap ((L'.size:Int) + (rl:Int))=((L'.size + rl:Nat):Int):=by rw [IntWalk.i64_in _ (by omega)];rfl
   refine WT.region (fun u=>u.cell? ⟨b2,0,none⟩=some (.pointer (some ⟨l,0,none⟩)) /\ u.cell? ⟨l,6,none⟩=some (.int .i64 (L'.size:Nat)) /\ u.cell? ⟨b6,0,none⟩=some (.slice a6 rl c6)) 7 10 [0,1,2,3,4,5,6,7,8,9] (by kernel_rfl) rfl ?_;have HS:Hid ((fun u:World=>u.cell? ⟨b2,0,none⟩=some (.pointer (some ⟨l,0,none⟩)) /\ u.cell? ⟨l,6,none⟩=some (.int .i64 (L'.size:Nat)) /\ u.cell? ⟨b6,0,none⟩=some (.slice a6 rl c6)) w11.drew):=qq ⟨(cell_of_block (w:=w11.drew) B211.out).trans rfl,(cell_of_block (w:=w11.drew) S11.out.blk).trans rfl,(cell_of_block (w:=w11.drew) B611.out).trans rfl⟩;refine WT.t 0 (v:=.pointer (some ⟨l,0,none⟩)) (y:=by rintro w ⟨C1,C2,C3⟩;exact zb (by kernel_rfl) (by rfl) C1) (s:=HS.out) (h:=?_);refine WT.t 1 (v:=_) (y:=by rintro w ⟨C1,C2,C3⟩;go_simp;with_reducible rfl) (s:=HS.out) (h:=?_);refine WT.t 2 (v:=_) (y:=by rintro w ⟨C1,C2,C3⟩;go_simp;with_reducible rfl) (s:=HS.out) (h:=?_);refine WT.t 3 (v:=.int .i64 (L'.size:Nat)) (y:=by rintro w ⟨C1,C2,C3⟩;exact zb (by kernel_rfl) (by rfl) C2) (s:=HS.out) (h:=?_);refine WT.t 4 (v:=.slice a6 rl c6) (y:=by rintro w ⟨C1,C2,C3⟩;exact zb (by kernel_rfl) (by rfl) C3) (s:=HS.out) (h:=?_);refine WT.t 5 (v:=_) (y:=by rintro w ⟨C1,C2,C3⟩;go_simp;with_reducible rfl) (s:=HS.out) (h:=?_);refine WT.t 6 (v:=.int .i64 ((L'.size + rl:Nat):Int)) (y:=by rintro w ⟨C1,C2,C3⟩;go_simp;first | done | exact iw | rw [iw] | simp [iw]) (s:=HS.out) (h:=?_);refine WT.stop (by kernel_rfl) ?_;refine WP.o 7 (v:=_) (y:=by go_simp;first | with_reducible rfl | exact ⟨rfl,rfl⟩) (h:=?_);refine WP.o 8 (v:=_) (y:=by go_simp;first | with_reducible rfl | exact ⟨rfl,rfl⟩) (h:=?_);refine WP.onlySkipE 9 (by simp only [qi];rfl) (by kernel_rfl) (by rfl) (zd (w:=w11.drew) (v:=.int .i64 ((L'.size + rl:Nat):Int)) (n:=1) (by kernel_rfl) (by rfl) (by rfl) S11.out.blk (by rfl) (by simp [Value.cells,lcs]) (by simp [Value.cells,Value.oneCell'])) ?_;intro w12 s12;simp only [Nat.reduceAdd,qn];refine WP.done (by kernel_rfl) ?_;have S12:SetAt w10 w12 l (.cells (lcs d sv3 (.slice a5 (nr + 1) c5) { L' with recs:=L'.recs ++ [bs],size:=L'.size + rl }) 78 (0,0)):=⟨s12.blk,(S11.out.k.drew).trans s12.k (fun _ _ e=>e)⟩
   have B212:=qq (s12.k.at (w:=w11.drew) B211.out NOF.out.2.2.1);have HS12:=qq S12;clear s12 S12 HS;go_wp2;refine WT.region (fun u=>u.cell? ⟨b2,0,none⟩=some (.pointer (some ⟨l,0,none⟩)) /\ u.cell? ⟨l,6,none⟩=some (.int .i64 ((L'.size + rl:Nat):Int)) /\ u.cell? ⟨l,2,none⟩=some (.int .i64 (L'.most:Nat))) 9 9 [0,1,2,3,4,5,6,7,8] (by kernel_rfl) rfl ?_;have HS:Hid ((fun u:World=>u.cell? ⟨b2,0,none⟩=some (.pointer (some ⟨l,0,none⟩)) /\ u.cell? ⟨l,6,none⟩=some (.int .i64 ((L'.size + rl:Nat):Int)) /\ u.cell? ⟨l,2,none⟩=some (.int .i64 (L'.most:Nat))) w12.drew):=qq ⟨(cell_of_block (w:=w12.drew) B212.out).trans rfl,(cell_of_block (w:=w12.drew) HS12.out.blk).trans rfl,(cell_of_block (w:=w12.drew) HS12.out.blk).trans rfl⟩;refine WT.t 0 (v:=.pointer (some ⟨l,0,none⟩)) (y:=by rintro w ⟨C1,C2,C3⟩;exact zb (by kernel_rfl) (by rfl) C1) (s:=HS.out) (h:=?_);refine WT.t 1 (v:=_) (y:=by rintro w ⟨C1,C2,C3⟩;go_simp;with_reducible rfl) (s:=HS.out) (h:=?_);refine WT.t 2 (v:=_) (y:=by rintro w ⟨C1,C2,C3⟩;go_simp;with_reducible rfl) (s:=HS.out) (h:=?_);refine WT.t 3 (v:=.int .i64 ((L'.size + rl:Nat):Int)) (y:=by rintro w ⟨C1,C2,C3⟩;exact zb (by kernel_rfl) (by rfl) C2) (s:=HS.out) (h:=?_);refine WT.t 4 (v:=.pointer (some ⟨l,0,none⟩)) (y:=by rintro w ⟨C1,C2,C3⟩;exact zb (by kernel_rfl) (by rfl) C1) (s:=HS.out) (h:=?_);refine WT.t 5 (v:=_) (y:=by rintro w ⟨C1,C2,C3⟩;go_simp;with_reducible rfl) (s:=HS.out) (h:=?_);refine WT.t 6 (v:=_) (y:=by rintro w ⟨C1,C2,C3⟩;go_simp;with_reducible rfl) (s:=HS.out) (h:=?_);refine WT.t 7 (v:=.int .i64 (L'.most:Nat)) (y:=by rintro w ⟨C1,C2,C3⟩;exact zb (by kernel_rfl) (by rfl) C3) (s:=HS.out) (h:=?_);refine WT.t 8 (v:=_) (y:=by rintro w ⟨C1,C2,C3⟩;go_simp;with_reducible rfl) (s:=HS.out) (h:=?_);refine WT.stop (by kernel_rfl) ?_;refine WP.done (by kernel_rfl) ?_;have z79:=K79.out.size;have zS:=KS.out.size;have z78:=K78.out.size;have z67:=HR.out.2.2.2.2.size;have z89:w8.heap.size <= w9.heap.size:=K89.out.size;have z12:=HS12.out.k.size;have hF0:∀ k,(Fd' k \/ Rd' k \/ FL' k \/ RL' k) -> k < w7.heap.size:=fun k e=>e.elim (HG1.out.disk.ltF k) fun e=>e.elim (HG1.out.disk.ltR k) fun e=>e.elim (HG1.out.ltF k) (HG1.out.ltR k);have hg12:LgAt w12 l d Fd' Rd' (fun k=>FL' k \/ (w7.heap.size <= k /\ k < w10.heap.size /\ IsT w10 22 k)) (fun k=>RL' k \/ (w7.heap.size <= k /\ k < w10.heap.size /\ IsT w10 5 k)) { L' with recs:=L'.recs ++ [bs],size:=L'.size + rl } Y:=by
    have hRS:∀ k,RL' k -> ¬ S5 k:=fun k hk e=>(HG1.out.apR k hk).2 (HS5.out k e).1;have hh:=HG1.out.nums;refine LgAt.put (w0:=w7) (vs:=vs3 ++ [.slice ca m cc]) HG1.out (by omega) ((HG1.out.disk.nb K79.out).keeps KS.out (fun k hk e=>(HG1.out.apF k (HS5.out k e).1).1 hk) (fun k hk e=>(HG1.out.apF k (HS5.out k e).1).2 hk)) ⟨_,Q110.out⟩ HS12.out hF0 HG1.out.lt6 ⟨hh.name,hh.n16,hh.most,hh.first,hh.segment,hh.segments,(by show L'.size + rl <= _;omega),hh.recs.append (fun b hb=>by rw [List.mem_singleton.1 hb];exact ⟨by rw [HM.out];exact hmx,HLT.out⟩),(by show (L'.recs ++ [bs]).length <= _;rw [List.length_append,HNR.out];simp only [List.length_singleton];omega),hh.snap⟩ ?_ ?_ ?_
    ·exact ((Q2.out.keeps K79.out (fun _ _ e=>e)).keeps KS.out hRS).mono (fun k e=>.inl e)
    ·
     have e1:(L'.recs ++ [bs]).length=nr + 1:=by rw [List.length_append,HNR.out];rfl
     show RowS w10 _ _ 22 1 _ (L'.recs ++ [bs]).length _;rw [e1];refine R5.out.typed.mono (fun k e=>?_) (fun _ e=>e);rcases e with ⟨e | e,ht⟩
     ·exact .inl e
     ·exact .inr ⟨by have:=e.1;omega,e.2,ht⟩
    ·
     refine (((Q4.out.keeps K79.out (fun _ _ e=>e)).keeps KS.out hRS).mono (fun k e=>.inl e)).append (.cons ?_ (.nil _ _));have hcv:Bytes w8 (fun k=>(w7.heap.size <= k /\ k < w8.heap.size) /\ IsT w8 5 k) (.slice ca bs.length cc) bs:=by rw [HM.out];exact HCV.out
     have hnS:∀ k,(w7.heap.size <= k /\ k < w8.heap.size) /\ IsT w8 5 k -> ¬ S5 k:=fun k hk e=>((hk.2.keeps K89.out (fun e=>e)).ne (HS5.out k e).2 (by decide)) rfl;have:=((hcv.keeps K89.out (fun _ _ e=>e)).keeps KS.out hnS).mono (R':=fun k=>RL' k \/ (w7.heap.size <= k /\ k < w10.heap.size /\ IsT w10 5 k)) (fun k hk=>.inr ⟨hk.1.1,by have:=hk.1.2;omega,(hk.2.keeps K89.out (fun e=>e)).keeps KS.out (hnS k hk)⟩);rw [HM.out] at this;exact this
   have hk12:Keeps (fun k=>Fd k \/ FL k) w w12:=by
    obtain ⟨g2,g3,g4,g5,g6⟩:=HR.out;refine ((g6.trans_nb K79.out).trans KS.out (fun j hj e=>(g4 j (HS5.out j e).1).elim .inr (fun e=>by omega))).trans HS12.out.k (fun j hj e=>?_);have e:j=l:=e;subst e;exact .inr H.out.fl
   have HG12:=qq hg12;have HK12:=qq hk12;have hc4:∀ k,(FL' k \/ (w7.heap.size <= k /\ k < w10.heap.size /\ IsT w10 22 k)) -> FL k \/ w.heap.size <= k:=fun k e=>e.elim (HR.out.2.2.1 k) (fun e=>.inr (by omega));have hc5:∀ k,(RL' k \/ (w7.heap.size <= k /\ k < w10.heap.size /\ IsT w10 5 k)) -> RL k \/ w.heap.size <= k:=fun k e=>e.elim (HR.out.2.2.2.1 k) (fun e=>.inr (by omega));have hsz8:L'.size + rl=L'.size + (8 + bs.length):=by rw [HM.out,HRL.out]
   have HS8:=qq hsz8;have HC4:=qq hc4;have HC5:=qq hc5;have hmay:Hid (mayE L' bs.length=0):=qq (by rw [HM.out];exact HF.out);have HV12:Hid (Vars w12):=qq (HV.out.keeps hk12 (fun k hk e=>by have:=H.out.low k e;omega));clear HS hg12 hk12 hc4 hc5 hsz8 hF0 z79 zS z78 z67 z89 z12 iw;by_cases hmo:L'.most < L'.size + rl
   ·
    have ON:=qq (on_at l d Fd' Rd' _ _ { L' with recs:=L'.recs ++ [bs],size:=L'.size + rl } Y w12.drew (HG12.out.nb (Keeps.refl Nb w12).drew) (HV12.out.nb (Keeps.refl Nb w12).drew) (by have:=HPO.out;have:=HP.out;omega) HSG.out);have HMO:=qq hmo;have c212:w12.drew.cell? ⟨b2,0,none⟩=some (.pointer (some ⟨l,0,none⟩)):=(cell_of_block (w:=w12.drew) B212.out).trans rfl;have i1:(L'.most:Int) < ((L'.size + rl:Nat):Int):=by omega
    go_wp2_with fail;refine ON.out.mono ?_;rintro _ w13 ⟨er3,L3,Z,rfl,hn3,hr3,hp3⟩;have F:Hid (LNow w w13 l d Fd Rd FL RL L3 Z):=qq (z7m HR.out.1 HR.out.2.1 HC4.out HC5.out (HK12.out.drew) hn3);have HR3:=qq hr3;have HP3:=qq hp3;clear hn3 hr3 hp3 ON i1 hmo c212;go_wp2;go_ret;exact ⟨er3,L3,Z,rfl,F.out,.inr ⟨hmay.out,0,Y,HAP.out,.inr (.inr ⟨rfl,by rw [<- HS8.out];exact HMO.out,by rw [<- HS8.out];exact HR3.out⟩)⟩,by have:=HPO.out;have:=HP3.out;omega⟩
   ·
    have F:Hid (LNow w w12.drew l d Fd Rd FL RL { L' with recs:=L'.recs ++ [bs],size:=L'.size + rl } Y):=qq (z7m HR.out.1 HR.out.2.1 HC4.out HC5.out HK12.out (LNow.of (HG12.out.nb (Keeps.refl Nb w12).drew) (Keeps.refl Nb w12).drew));have HMO:=qq hmo;have i1:((L'.size + rl:Nat):Int) <= (L'.most:Int):=by omega
    go_wp2;go_ret;exact ⟨0,_,Y,rfl,F.out,.inr ⟨hmay.out,0,Y,HAP.out,.inr (.inl ⟨rfl,by have:=HMO.out;rw [<- HS8.out];omega,rfl,by rw [<- HS8.out],rfl⟩)⟩,by have:=HPO.out;omega⟩
  ·
   have e2:L'={ L with bad:=true }:=by rw [HL'.out,if_neg he]
   subst e2;have F:Hid (LNow w w7 l d Fd Rd FL RL { L with bad:=true } Y):=qq ⟨Fd',Rd',FL',RL',HG1.out,HR.out⟩;have HE:=qq he;have t9:(er2 != 0)=true:=by simpa using he
   clear he;go_wp2;go_ret;exact ⟨er2,_,Y,rfl,F.out,.inr ⟨by rw [HM.out];exact HF.out,er2,Y,HAP.out,.inl ⟨HE.out,rfl,rfl,rfl⟩⟩,by have:=HPO.out;omega⟩
 ·
  have t9:(f != 0)=true:=by simpa using h0
  have HE:=qq h0;have F:Hid (LNow w w1 l d Fd Rd FL RL L X):=qq (LNow.of H1.out K1.out);clear h0 c2;go_wp2;go_ret;exact ⟨f,L,X,rfl,F.out,.inl ⟨by rw [HM.out,HF.out];exact HE.out,by rw [HM.out];exact HF.out.symm,rfl,rfl⟩,by omega⟩
end Go.Proofs.YtpjomdmjohjheaaGreatDoor
end
section
namespace Go.Proofs.YtpjomdmjohjheaaGreatDoor
open Go.RowKit Go.Lk Go.Vfs Go.Log
variable {w:World} {l d:Nat} {sv lv:Value} {L:Lg}
theorem z6o (c0:w.cell? ⟨l,0,none⟩=some (.pointer (some ⟨d,0,none⟩))):Calls Tryz.prog 65 #[.pointer (some ⟨l,0,none⟩)] w fun e w'=>e=.returned (.bool true) /\ w=w':=by
 go_enter Tryz.func65,Tryz.ntmps65;go_wp2;go_ret;exact ⟨rfl,rfl⟩
theorem zbi (h:w.heap[l]?=some (.cells (lcs d sv lv L) 78 (0,0))):Calls Tryz.prog 20 #[.pointer (some ⟨l,0,none⟩)] w fun e w'=>e=.returned (.int .i64 (L.segment:Nat)) /\ w=w':=by
 have c0:w.cell? ⟨l,0,none⟩=some (.pointer (some ⟨d,0,none⟩)):=(cell_of_block h).trans rfl;have c1:w.cell? ⟨l,4,none⟩=some (.int .i64 (L.segment:Nat)):=(cell_of_block h).trans rfl;clear h;go_enter Tryz.func20,Tryz.ntmps20;go_wp2;go_ret;exact ⟨rfl,rfl⟩
theorem z9p (h:w.heap[l]?=some (.cells (lcs d sv lv L) 78 (0,0))):Calls Tryz.prog 31 #[.pointer (some ⟨l,0,none⟩)] w fun e w'=>e=.returned (.int .i64 (L.segments:Nat)) /\ w=w':=by
 have c0:w.cell? ⟨l,0,none⟩=some (.pointer (some ⟨d,0,none⟩)):=(cell_of_block h).trans rfl;have c1:w.cell? ⟨l,5,none⟩=some (.int .i64 (L.segments:Nat)):=(cell_of_block h).trans rfl;clear h;go_enter Tryz.func31,Tryz.ntmps31;go_wp2;go_ret;exact ⟨rfl,rfl⟩
theorem len_at {n c:Nat} {a:Option Addr} (h:w.heap[l]?=some (.cells (lcs d sv (.slice a n c) L) 78 (0,0))):Calls Tryz.prog 30 #[.pointer (some ⟨l,0,none⟩)] w fun e w'=>e=.returned (.int .i64 (n:Nat)) /\ w=w':=by
 have c0:w.cell? ⟨l,0,none⟩=some (.pointer (some ⟨d,0,none⟩)):=(cell_of_block h).trans rfl;have c1:w.cell? ⟨l,9,none⟩=some (.slice a n c):=(cell_of_block h).trans rfl;clear h;go_enter Tryz.func30,Tryz.ntmps30;go_wp2;go_ret;exact ⟨rfl,rfl⟩
theorem ro_at (h:w.heap[l]?=some (.cells (lcs d sv lv L) 78 (0,0))):Calls Tryz.prog 25 #[.pointer (some ⟨l,0,none⟩)] w fun e w'=>e=.returned (.bool L.bad) /\ w=w':=by
 have c0:w.cell? ⟨l,0,none⟩=some (.pointer (some ⟨d,0,none⟩)):=(cell_of_block h).trans rfl;have c1:w.cell? ⟨l,11,none⟩=some (.bool L.bad):=(cell_of_block h).trans rfl;clear h;go_enter Tryz.func25,Tryz.ntmps25;go_wp2;go_ret;exact ⟨rfl,rfl⟩
theorem z9r {Fd Rd FL RL:Nat -> Prop} {X:Ds} (h:LgAt w l d Fd Rd FL RL L X):Calls Tryz.prog 29 #[.pointer (some ⟨l,0,none⟩)] w fun e w'=>∃ v,e=.returned (.tuple #[v,.bool L.has]) /\ Bytes w' (SinceB w w') v (if L.has=true then L.snap else []) /\ Keeps Nb w w':=by
 obtain ⟨sv,lv,vs,q1,q2,-⟩:=h.ex;obtain ⟨sa,sc,rfl,-⟩:=id q2;have c0:w.cell? ⟨l,0,none⟩=some (.pointer (some ⟨d,0,none⟩)):=(cell_of_block q1).trans rfl;have c8:w.cell? ⟨l,8,none⟩=some (.bool L.has):=(cell_of_block q1).trans rfl;have c7:w.cell? ⟨l,7,none⟩=some (.slice sa L.snap.length sc):=(cell_of_block q1).trans rfl;have Q2:=qq q2;have CA:=qq (z2u (.slice sa L.snap.length sc) L.snap _ w q2 (by have:=h.nums.snap;unfold mxr at this;omega));have hlt:∀ z ∈ L.snap,z < 256:=by obtain ⟨_,_,_,_,_,_,hlt,_⟩:=q2;exact hlt
 have HLT:=qq hlt;clear q1 q2 h hlt;cases hh:L.has
 ·rw [hh] at c8;rw [if_neg (by decide)];clear hh;go_enter Tryz.func29,Tryz.ntmps29;go_wp2;go_ret2;exact ⟨_,rfl,Bytes.nil _ _,Keeps.refl _ _⟩
 ·rw [hh] at c8;rw [if_pos rfl];clear hh;have TA:=qq (z6o c0);go_enter Tryz.func29,Tryz.ntmps29;go_wp2_with fail;refine TA.out.mono ?_;rintro _ _ ⟨rfl,rfl⟩;go_wp2_with fail;refine CA.out.mono ?_;rintro _ w1 ⟨v,rfl,ho,k⟩;have HB:Hid (Bytes w1 (SinceB w w1) v L.snap):=qq (z0m ho HLT.out);have K:=qq k;clear ho k CA;go_wp2;go_ret2;exact ⟨v,rfl,HB.out,K.out⟩
end Go.Proofs.YtpjomdmjohjheaaGreatDoor
end
section
namespace Go.Lk
open Go.RowKit
theorem via {α β:Type} {Φ:α -> β -> World -> Prop} {G:α -> β -> World -> Prop} {goal:Prop} (main:(∀ a b w,Φ a b w -> G a b w) -> goal) (key:∀ a b w,Φ a b w -> G a b w):goal:=main key
section
variable {P:Program} {ops:Array Oper} {Q:Exit -> Act -> World -> Prop} {S:World -> Prop} {k n m:Nat} {plan:List Nat}
theorem WT.forkC (i j:Nat) (plan2:List Nat) {oi oj:Oper} {f:FuncId} {args:Array Value} {R:Ending -> World -> Prop} {Ψ:Value -> World -> Prop} {a:Act} {w w':World} (hi:ops[i]?=some oi) (hj:ops[j]?=some oj) (hok:mayFork ops k n plan plan2 m i j=true)
  (hw:Region.wanted oi (yielded ops a.tmps)=true) (hw2:Region.wanted oj (yielded ops a.tmps)=true)
  (hy:(execOp a.eval oi).run P w=.ok (.enter f args) w') (hc:Calls P f args w' R) (hy2:∃ v w',(execOp a.eval oj).run P w=.ok (.value v) w' /\ Ψ v w')
  (h1:∀ e w'',R e w'' -> ∃ v,e=.returned v /\ S w'' /\ WT P ops Q S k n plan (m + 1) (a.put oi.dst v) w'') (h2:∀ v w',Ψ v w' -> S w' /\ WT P ops Q S k n plan2 (m + 1) (a.put oj.dst v) w'):WT P ops Q S k n plan m a w:=by
 obtain ⟨v2,w2,e2,f2⟩:=hy2;exact WT.fork i j plan2 hi hj hok hw hw2 (by unfold Oper.wp;rw [hy];exact hc.mono fun e w'' hR=>by obtain ⟨v,rfl,h3,h4⟩:=h1 e w'' hR;exact ⟨h3,h4⟩) (by unfold Oper.wp;rw [e2];exact h2 v2 w2 f2)
end
end Go.Lk
namespace Go.Proofs.YtpjomdmjohjheaaGreatDoor
open Go.RowKit Go.Lk Go.Vfs Go.Log
theorem el109:ElemT Tryz.prog 109 9 1 16 (.string ByteArray.empty):=⟨by kernel_rfl,by kernel_rfl,rfl,by decide⟩
def SwK (w2:World) (L:Lg) (s n:Nat) (b20 b7:Nat) (u:World):Prop :=
 u.heap[b20]?=some (.cells #[.string (manf L.name),.string (snf L.name s),.string (sgf L.name n)] 9 (0,0)) /\ u.heap[b7]?=some (.cells #[.slice (some ⟨b20,0,none⟩) 3 3] 109 (0,0)) /\ Keeps Nb w2 u /\ w2.heap.size <= b20 /\ w2.heap.size <= b7
def SwI (w6:World) (l d:Nat) (Fd Rd FL RL:Nat -> Prop) (b6:Nat) (L:Lg) (X:Ds) (s n:Nat) (l0:List ByteArray) (er:Int) (W:World):Prop :=
 ∃ X' Fd' Rd' FL' RL',LgAt W l d Fd' Rd' FL' RL' L X' /\ (∀ k,Fd' k -> Fd k \/ w6.heap.size + 2 <= k) /\ (∀ k,Rd' k -> Rd k \/ w6.heap.size + 2 <= k) /\ (∀ k,FL' k -> FL k \/ w6.heap.size + 2 <= k) /\ (∀ k,RL' k -> RL k \/ w6.heap.size + 2 <= k) /\
  askO ((l0.filter (swept L.name s n)).map rmO) X er X' /\ (er=0 -> pot X' <= pot X) /\ pot X' <= pot X + 1 /\ Keeps (fun b=>w6.heap.size <= b \/ Fd b \/ b=b6) w6 W
theorem SwI.book {w6 A B:World} {l d:Nat} {Fd Rd FL RL:Nat -> Prop} {b6:Nat} {L:Lg} {X:Ds} {s n:Nat} {l0:List ByteArray} {er:Int} (h:SwI w6 l d Fd Rd FL RL b6 L X s n l0 er A) (k:Keeps (Book w6) A B)
  (h0:∀ k,(Fd k \/ Rd k \/ FL k \/ RL k) -> k < w6.heap.size):SwI w6 l d Fd Rd FL RL b6 L X s n l0 er B:=by
 obtain ⟨X',Fd',Rd',FL',RL',h1,h2,h3,h4,h5,h6,h7,h8,h9⟩:=h;refine ⟨X',Fd',Rd',FL',RL',h1.keeps k (fun j hj e=>?_) (fun j hj e=>?_) (fun j hj e=>?_) (fun j hj e=>?_),h2,h3,h4,h5,h6,h7,h8,h9.trans k (fun j hj e=>by unfold Book at e;omega)⟩
 ·unfold Book at e;exact (h2 j hj).elim (fun e2=>by have:=h0 j (.inl e2);omega) (fun e2=>by omega)
 ·unfold Book at e;exact (h3 j hj).elim (fun e2=>by have:=h0 j (.inr (.inl e2));omega) (fun e2=>by omega)
 ·unfold Book at e;exact (h4 j hj).elim (fun e2=>by have:=h0 j (.inr (.inr (.inl e2)));omega) (fun e2=>by omega)
 ·unfold Book at e;exact (h5 j hj).elim (fun e2=>by have:=h0 j (.inr (.inr (.inr e2)));omega) (fun e2=>by omega)
theorem SwI.box {w6 A B:World} {l d:Nat} {Fd Rd FL RL:Nat -> Prop} {b6:Nat} {L:Lg} {X:Ds} {s n:Nat} {l0:List ByteArray} {er:Int} (h:SwI w6 l d Fd Rd FL RL b6 L X s n l0 er A) (k:Keeps (·=b6) A B)
  (h0:∀ k,(Fd k \/ Rd k \/ FL k \/ RL k) -> k < b6) (hb:b6 < w6.heap.size):SwI w6 l d Fd Rd FL RL b6 L X s n l0 er B:=by
 obtain ⟨X',Fd',Rd',FL',RL',h1,h2,h3,h4,h5,h6,h7,h8,h9⟩:=h;refine ⟨X',Fd',Rd',FL',RL',h1.keeps k (fun j hj e=>?_) (fun j hj e=>?_) (fun j hj e=>?_) (fun j hj e=>?_),h2,h3,h4,h5,h6,h7,h8,h9.trans k (fun j hj e=>.inr (.inr e))⟩
 ·exact (h2 j hj).elim (fun e2=>by have:=h0 j (.inl e2);omega) (fun e2=>by omega)
 ·exact (h3 j hj).elim (fun e2=>by have:=h0 j (.inr (.inl e2));omega) (fun e2=>by omega)
 ·exact (h4 j hj).elim (fun e2=>by have:=h0 j (.inr (.inr (.inl e2)));omega) (fun e2=>by omega)
 ·exact (h5 j hj).elim (fun e2=>by have:=h0 j (.inr (.inr (.inr e2)));omega) (fun e2=>by omega)
theorem zav {ns:List ByteArray} {i:Nat} {nm:ByteArray} (h:ns[i]?=some nm) (p:ByteArray -> Bool):(ns.take (i + 1)).filter p=(ns.take i).filter p ++ if p nm=true then [nm] else []:=by
 have hil:=(List.getElem?_eq_some_iff.1 h).1;rw [List.take_succ_eq_append_getElem hil,(List.getElem?_eq_some_iff.1 h).2,List.filter_append];cases hp:p nm <;> simp [hp]
theorem SwI.skip {w6 A B:World} {l d:Nat} {Fd Rd FL RL:Nat -> Prop} {b6:Nat} {L:Lg} {X:Ds} {s n i:Nat} {ns:List ByteArray} {nm:ByteArray} (h:SwI w6 l d Fd Rd FL RL b6 L X s n (ns.take i) 0 A) (hi:ns[i]?=some nm) (hsw:swept L.name s n nm=false) (k:Keeps Nb A B) :
  SwI w6 l d Fd Rd FL RL b6 L X s n (ns.take (i + 1)) 0 B:=by
 obtain ⟨X',Fd',Rd',FL',RL',h1,h2,h3,h4,h5,h6,h7,h8,h9⟩:=h;exact ⟨X',Fd',Rd',FL',RL',h1.nb k,h2,h3,h4,h5,by rw [zav hi,if_neg (by rw [hsw];decide),List.append_nil];exact h6,h7,h8,h9.trans_nb k⟩
theorem SwI.rem {w6 A B:World} {l d:Nat} {Fd Rd FL RL Fd' Rd' FL' RL':Nat -> Prop} {b6:Nat} {L:Lg} {X X':Ds} {s n i:Nat} {ns:List ByteArray} {nm:ByteArray} {er:Int} {D':Dk} (g1:LgAt A l d Fd' Rd' FL' RL' L X')
  (g2:∀ k,Fd' k -> Fd k \/ w6.heap.size + 2 <= k) (g3:∀ k,Rd' k -> Rd k \/ w6.heap.size + 2 <= k) (g4:∀ k,FL' k -> FL k \/ w6.heap.size + 2 <= k) (g5:∀ k,RL' k -> RL k \/ w6.heap.size + 2 <= k)
  (g6:askO (((ns.take i).filter (swept L.name s n)).map rmO) X 0 X') (g7:pot X' <= pot X) (g9:Keeps (fun b=>w6.heap.size <= b \/ Fd b \/ b=b6) w6 A) (hz:w6.heap.size + 2 <= A.heap.size) (hi:ns[i]?=some nm) (hsw:swept L.name s n nm=true)
  (hn:Now A B d Fd' Rd' D' X'.fc) (hr:RemR X'.D nm er D') :
  (er=0 -> SwI w6 l d Fd Rd FL RL b6 L X s n (ns.take (i + 1)) 0 B) /\ (er ≠ 0 -> SwI w6 l d Fd Rd FL RL b6 L X s n ns er B) /\ Keeps (fun b=>Fd b \/ w6.heap.size + 2 <= b) A B:=by
 have ho:rmO nm X' er ⟨D',X'.fc⟩:=⟨hr,rfl⟩
 have hp:=z8v ho;have hk:Keeps Fd' A B:=by obtain ⟨_,_,_,_,_,hk⟩:=hn;exact hk
 obtain ⟨Fd2,Rd2,FL2,RL2,h1,h2,h3,h4,h5,h6⟩:=g1.disk_now (Y:=⟨D',X'.fc⟩) hn g1.lt6;have hkS:Keeps (fun b=>w6.heap.size <= b \/ Fd b \/ b=b6) w6 B:=g9.trans hk (fun j hj e=>(g2 j e).elim (fun e=>.inr (.inl e)) (fun e=>by omega));have c2:∀ k,Fd2 k -> Fd k \/ w6.heap.size + 2 <= k:=fun k e=>(h2 k e).elim (g2 k) (fun e=>.inr (by omega));have c3:∀ k,Rd2 k -> Rd k \/ w6.heap.size + 2 <= k:=fun k e=>(h3 k e).elim (g3 k) (fun e=>.inr (by omega));have c4:∀ k,FL2 k -> FL k \/ w6.heap.size + 2 <= k:=fun k e=>(h4 k e).elim (g4 k) (fun e=>.inr (by omega));have c5:∀ k,RL2 k -> RL k \/ w6.heap.size + 2 <= k:=fun k e=>(h5 k e).elim (g5 k) (fun e=>.inr (by omega));refine ⟨fun h0=>?_,fun h0=>?_,hk.mono (fun k _ e=>g2 k e)⟩
 ·
  subst h0;refine ⟨_,Fd2,Rd2,FL2,RL2,h1,c2,c3,c4,c5,?_,fun _=>?_,?_,hkS⟩
  ·rw [zav hi,if_pos hsw,List.map_append];exact z7c g6 ho
  ·have:=hp.2 rfl;omega
  ·have:=hp.1;omega
 ·
  refine ⟨_,Fd2,Rd2,FL2,RL2,h1,c2,c3,c4,c5,?_,fun h=>absurd h h0,?_,hkS⟩
  ·
   have e:ns=ns.take i ++ nm :: ns.drop (i + 1):=by
    have hil:=(List.getElem?_eq_some_iff.1 hi).1;rw [<- (List.getElem?_eq_some_iff.1 hi).2,<- List.drop_eq_getElem_cons hil,List.take_append_drop]
   rw [e,List.filter_append,List.filter_cons_of_pos hsw,List.map_append,List.map_cons];exact z7d g6 ho h0
  ·have:=hp.1;omega
def SwX (w6:World) (l d:Nat) (Fd Rd FL RL:Nat -> Prop) (b6:Nat) (L:Lg) (X:Ds) (s n:Nat) (ns:List ByteArray) (c:Code) (W:World):Prop :=
 c=.ret /\ ∃ er,er ≠ 0 /\ SwI w6 l d Fd Rd FL RL b6 L X s n ns er W /\ W.heap[b6]?=some (.cells #[.int .i64 er] 24 (0,0))
theorem SwX.book {w6 A B:World} {l d:Nat} {Fd Rd FL RL:Nat -> Prop} {b6:Nat} {L:Lg} {X:Ds} {s n:Nat} {ns:List ByteArray} {c:Code} (h:SwX w6 l d Fd Rd FL RL b6 L X s n ns c A) (k:Keeps (Book w6) A B)
  (h0:∀ k,(Fd k \/ Rd k \/ FL k \/ RL k) -> k < w6.heap.size) (hb:¬ Book w6 b6):SwX w6 l d Fd Rd FL RL b6 L X s n ns c B:=by
 obtain ⟨h1,er,h2,h3,h4⟩:=h;exact ⟨h1,er,h2,h3.book k h0,k.at h4 hb⟩
theorem SwI.fin {w w6 W:World} {l d:Nat} {Fd Rd FL RL:Nat -> Prop} {b6:Nat} {L:Lg} {X:Ds} {s n:Nat} {ns:List ByteArray} {er:Int} (h:SwI w6 l d Fd Rd FL RL b6 L X s n ns er W) (hk:Keeps Nb w w6) (hb:w.heap.size <= b6) (hp:ns.Perm (X.D.files.map Prod.fst)) :
  OpE w l d Fd Rd FL RL L X 1 (sweepO L.name s n) (.returned (.int .i64 er)) W:=by
 obtain ⟨X',Fd',Rd',FL',RL',h1,h2,h3,h4,h5,h6,h7,h8,h9⟩:=h;have hz:=hk.size;refine ⟨er,X',L,rfl,⟨Fd',Rd',FL',RL',h1,fun k e=>(h2 k e).imp id (fun e=>by omega),fun k e=>(h3 k e).imp id (fun e=>by omega),fun k e=>(h4 k e).imp id (fun e=>by omega),fun k e=>(h5 k e).imp id (fun e=>by omega),hk.of_nb.trans h9 (fun j hj e=>?_)⟩,⟨ns,hp,h6⟩,fun _=>rfl,.inl rfl,h8⟩;rcases e with e | e | e
 ·omega
 ·exact .inl e
 ·omega
theorem zf2 (l d s n:Nat) (Fd Rd FL RL:Nat -> Prop) (L:Lg) (X:Ds) (w:World) (h:LgAt w l d Fd Rd FL RL L X) (hv:Vars w) (hs:s <= 4294967296) (hn:n <= 4294967296) (hp:pot X + 1 <= 999999) :
  Calls Tryz.prog 79 #[.pointer (some ⟨l,0,none⟩),.int .i64 s,.int .i64 n] w (OpE w l d Fd Rd FL RL L X 1 (sweepO L.name s n)):=by
 have H:=qq h;have HV:=qq hv;have HP:=qq hp;have h16:=h.nums.n16;clear h hv hp;refine z1j Tryz.func79 rfl ?_;simp only [Tryz.ntmps79,List.size_toArray,List.length_cons,List.length_nil,Nat.reduceAdd,Nat.reduceSub,Array.replicate_succ,Array.replicate_zero,List.push_toArray,List.append_toArray,List.nil_append,List.cons_append];go_wp2_with (first | go_skip | (with_reducible refine zm (t:=40) ?_))
 refine za (vbox1 (v:=.pointer (some ⟨l,0,none⟩)) (by rfl) rfl ?_);intro b3 w1 n1;simp only [Nat.reduceAdd,qn];go_wp2_with (first | go_skip | (with_reducible refine qv (by decide) ?_))
 refine za (valloc (z:=.int .i64 0) (by kernel_rfl) ?_);intro b6 w2 n2;simp only [Nat.reduceAdd,qn];have B3:=qq (n2.k.nb n1.blk);have B6:=qq n2.blk;have K2:=qq (n1.k.trans_nb n2.k);have G:Hid (w.heap.size <= b3 /\ b3 < b6 /\ b6 < w2.heap.size):=qq ⟨n1.ge,by have:=n1.lt;have:=n2.ge;omega,n2.lt⟩;clear n1 n2;have H2:=qq (H.out.nb K2.out);obtain ⟨sv,lv,hcs⟩:=H2.out.cells;have HC:=qq hcs;have HV2:=qq (HV.out.nb K2.out);clear hcs;go_wp2;apply via (Φ:=SwK w2 L s n)
 case main =>
  intro key;refine WT.region (fun u:World=>u.cell? ⟨b3,0,none⟩=some (.pointer (some ⟨l,0,none⟩))) 10 11 [0,2,3,5,6,1,4,7,8,9,10] (by kernel_rfl) rfl ?_;obtain ⟨x0,hx0⟩:∃ u,u=w2.drew:=⟨_,rfl⟩
  have K_x0:Hid (Keeps Nb w2 x0):=qq (by rw [hx0];exact (Keeps.refl _ w2).drew);rw [<- hx0];clear hx0;have HS:Hid ((fun u:World=>u.cell? ⟨b3,0,none⟩=some (.pointer (some ⟨l,0,none⟩))) x0):=qq ((cell_of_block (K_x0.out.nb B3.out)).trans rfl);refine WT.t 0 (v:=.pointer (some ⟨l,0,none⟩)) (y:=by rintro w C1;exact zb (by kernel_rfl) (by rfl) C1) (s:=HS.out) (h:=?_);refine WT.t 2 (v:=.pointer (some ⟨l,0,none⟩)) (y:=by rintro w C1;exact zb (by kernel_rfl) (by rfl) C1) (s:=HS.out) (h:=?_);refine WT.t 3 (v:=_) (y:=by rintro w C1;go_simp;with_reducible rfl) (s:=HS.out) (h:=?_);refine WT.t 5 (v:=.pointer (some ⟨l,0,none⟩)) (y:=by rintro w C1;exact zb (by kernel_rfl) (by rfl) C1) (s:=HS.out) (h:=?_);refine WT.t 6 (v:=_) (y:=by rintro w C1;go_simp;with_reducible rfl) (s:=HS.out) (h:=?_);have FA:=qq (z17 l L.name sMan x0 ((cell_of_block (HC.out _ K_x0.out)).trans rfl) (by omega) (by decide));refine WT.forkC 1 9 [0,2,3,5,6,9,1,4,7,8,10] (by simp only [qi];rfl) (by simp only [qi];rfl) (by kernel_rfl) (by rfl) (by rfl) (by go_simp;first | done | rfl | exact ⟨⟨rfl,rfl⟩,rfl⟩ | exact ⟨⟨rfl,rfl,rfl⟩,rfl⟩ | exact ⟨⟨rfl,rfl,rfl,rfl⟩,rfl⟩ | exact ⟨⟨rfl,rfl,rfl,rfl,rfl⟩,rfl⟩) FA.out (z2y (z:=.slice none 0 0) (by kernel_rfl)) ?_ ?_
  ·
   rintro _ _ ⟨rfl,rfl⟩;clear FA;refine ⟨_,rfl,HS.out,?_⟩;simp only [Nat.reduceAdd,qn];have SA:=qq (z3q l L.name s x0 (HV2.out.nb K_x0.out) ((cell_of_block (HC.out _ K_x0.out)).trans rfl) (by omega) (by omega));refine WT.forkC 4 9 [0,2,3,5,6,1,9,4,7,8,10] (by simp only [qi];rfl) (by simp only [qi];rfl) (by kernel_rfl) (by rfl) (by rfl) (by go_simp;first | done | rfl | exact ⟨⟨rfl,rfl⟩,rfl⟩ | exact ⟨⟨rfl,rfl,rfl⟩,rfl⟩ | exact ⟨⟨rfl,rfl,rfl,rfl⟩,rfl⟩ | exact ⟨⟨rfl,rfl,rfl,rfl,rfl⟩,rfl⟩) SA.out (z2y (z:=.slice none 0 0) (by kernel_rfl)) ?_ ?_
   ·
    skip
    rintro _ x1 ⟨rfl,k_x1⟩;have K_x1:Hid (Keeps Nb w2 x1):=qq (K_x0.out.trans_nb k_x1);replace HS:Hid ((fun u:World=>u.cell? ⟨b3,0,none⟩=some (.pointer (some ⟨l,0,none⟩))) x1):=qq ((cell_of_block (K_x1.out.nb B3.out)).trans rfl);clear SA;refine ⟨_,rfl,HS.out,?_⟩;simp only [Nat.reduceAdd,qn];have SA:=qq (z0r l L.name n x1 (HV2.out.nb K_x1.out) ((cell_of_block (HC.out _ K_x1.out)).trans rfl) (by omega) (by omega));refine WT.forkC 7 9 [0,2,3,5,6,1,4,9,7,8,10] (by simp only [qi];rfl) (by simp only [qi];rfl) (by kernel_rfl) (by rfl) (by rfl) (by go_simp;first | done | rfl | exact ⟨⟨rfl,rfl⟩,rfl⟩ | exact ⟨⟨rfl,rfl,rfl⟩,rfl⟩ | exact ⟨⟨rfl,rfl,rfl,rfl⟩,rfl⟩ | exact ⟨⟨rfl,rfl,rfl,rfl,rfl⟩,rfl⟩) SA.out (z2y (z:=.slice none 0 0) (by kernel_rfl)) ?_ ?_
    ·
     skip
     rintro _ x2 ⟨rfl,k_x2⟩;have K_x2:Hid (Keeps Nb w2 x2):=qq (K_x1.out.trans_nb k_x2);replace HS:Hid ((fun u:World=>u.cell? ⟨b3,0,none⟩=some (.pointer (some ⟨l,0,none⟩))) x2):=qq ((cell_of_block (K_x2.out.nb B3.out)).trans rfl);clear SA;refine ⟨_,rfl,HS.out,?_⟩;simp only [Nat.reduceAdd,qn];refine WT.forkE 8 9 [0,2,3,5,6,1,4,7,9,8,10] (by simp only [qi];rfl) (by simp only [qi];rfl) (by kernel_rfl) (by rfl) (by rfl) (zl el109 [.string (manf L.name),.string (snf L.name s),.string (sgf L.name n)] rfl (by simp [List.range'_succ];first | done | rfl | exact ⟨rfl,rfl⟩ | exact ⟨rfl,rfl,rfl⟩ | exact ⟨rfl,rfl,rfl,rfl⟩ | exact ⟨rfl,rfl,rfl,rfl,rfl⟩ | exact ⟨rfl,rfl,rfl,rfl,rfl,rfl⟩) (by simp [Value.cells]) (by simp)) (z2y (z:=.slice none 0 0) (by kernel_rfl)) ?_ ?_
     ·
      skip
      rintro _ x3 ⟨b20,rfl,n_x3⟩;have K_x3:Hid (Keeps Nb w2 x3):=qq (K_x2.out.trans_nb n_x3.k);have B_x3:Hid (x3.heap[b20]?=some (.cells #[.string (manf L.name),.string (snf L.name s),.string (sgf L.name n)] 9 (0,0))):=qq n_x3.blk;have G_20:Hid (w2.heap.size <= b20):=qq (by have:=n_x3.ge;have:=K_x2.out.size;omega);replace HS:Hid ((fun u:World=>u.cell? ⟨b3,0,none⟩=some (.pointer (some ⟨l,0,none⟩))) x3):=qq ((cell_of_block (K_x3.out.nb B3.out)).trans rfl);refine ⟨HS.out,?_⟩;simp only [Nat.reduceAdd,qn];refine WT.o 9 (y:=z2y (z:=.slice none 0 0) (by kernel_rfl)) (h:=?_);rintro _ x4 ⟨b7,rfl,n7⟩;have K_x4:Hid (Keeps Nb w2 x4):=qq (K_x3.out.trans_nb n7.k);have A_x4:Hid (x4.heap[b7]?=some (.cells (Value.slice none 0 0).cells 109 (0,0))):=qq n7.blk;have B_x4:=qq (n7.k.nb B_x3.out);have G_7:Hid (w2.heap.size <= b7):=qq (by have:=n7.ge;have:=K_x3.out.size;omega);have h7_20:b7 ≠ b20:=fun e=>by have:=lt_of_block B_x3.out;have:=n7.ge;omega
      replace HS:Hid ((fun u:World=>u.cell? ⟨b3,0,none⟩=some (.pointer (some ⟨l,0,none⟩))) x4):=qq ((cell_of_block (K_x4.out.nb B3.out)).trans rfl);refine ⟨HS.out,?_⟩;simp only [Nat.reduceAdd,qn];refine WT.stop (by kernel_rfl) ?_;refine WP.onlySkipE 10 (by simp only [qi];rfl) (by kernel_rfl) (by rfl) (zd (v:=.slice (some ⟨b20,0,none⟩) 3 3) (n:=1) (by kernel_rfl) (by rfl) (by rfl) A_x4.out (by rfl) (by simp [Value.cells]) (by simp [Value.cells,Value.oneCell'])) ?_;intro wz sz;simp only [Nat.reduceAdd,qn];refine WP.done (by kernel_rfl) ?_;exact key b20 b7 wz ⟨sz.k.at B_x4.out (fun e=>h7_20 e.symm),sz.blk,(K_x4.out.own (k:=b7) G_7.out sz.k),G_20.out,G_7.out⟩
     ·
      skip
      rintro _ x3 ⟨b7,rfl,n_x3⟩;have K_x3:Hid (Keeps Nb w2 x3):=qq (K_x2.out.trans_nb n_x3.k);have A_x3:Hid (x3.heap[b7]?=some (.cells (Value.slice none 0 0).cells 109 (0,0))):=qq n_x3.blk;have G_7:Hid (w2.heap.size <= b7):=qq (by have:=n_x3.ge;have:=K_x2.out.size;omega);have HS:Hid ((fun u:World=>u.cell? ⟨b3,0,none⟩=some (.pointer (some ⟨l,0,none⟩))) x3):=qq ((cell_of_block (K_x3.out.nb B3.out)).trans rfl);clear n_x3;refine ⟨HS.out,?_⟩;simp only [Nat.reduceAdd,qn];refine WT.o 8 (y:=zl el109 [.string (manf L.name),.string (snf L.name s),.string (sgf L.name n)] rfl (by simp [List.range'_succ];first | done | rfl | exact ⟨rfl,rfl⟩ | exact ⟨rfl,rfl,rfl⟩ | exact ⟨rfl,rfl,rfl,rfl⟩ | exact ⟨rfl,rfl,rfl,rfl,rfl⟩ | exact ⟨rfl,rfl,rfl,rfl,rfl,rfl⟩) (by simp [Value.cells]) (by simp)) (h:=?_);rintro _ x4 ⟨b20,rfl,n_x4⟩;have K_x4:Hid (Keeps Nb w2 x4):=qq (K_x3.out.trans_nb n_x4.k);have B_x4:Hid (x4.heap[b20]?=some (.cells #[.string (manf L.name),.string (snf L.name s),.string (sgf L.name n)] 9 (0,0))):=qq n_x4.blk;have G_20:Hid (w2.heap.size <= b20):=qq (by have:=n_x4.ge;have:=K_x3.out.size;omega);replace HS:Hid ((fun u:World=>u.cell? ⟨b3,0,none⟩=some (.pointer (some ⟨l,0,none⟩))) x4):=qq ((cell_of_block (K_x4.out.nb B3.out)).trans rfl);refine ⟨HS.out,?_⟩;simp only [Nat.reduceAdd,qn];have A_x4:=qq (n_x4.k.nb A_x3.out);have h7_20:b7 ≠ b20:=fun e=>by have:=lt_of_block A_x3.out;have:=n_x4.ge;omega
      refine WT.stop (by kernel_rfl) ?_;refine WP.onlySkipE 10 (by simp only [qi];rfl) (by kernel_rfl) (by rfl) (zd (v:=.slice (some ⟨b20,0,none⟩) 3 3) (n:=1) (by kernel_rfl) (by rfl) (by rfl) A_x4.out (by rfl) (by simp [Value.cells]) (by simp [Value.cells,Value.oneCell'])) ?_;intro wz sz;simp only [Nat.reduceAdd,qn];refine WP.done (by kernel_rfl) ?_;exact key b20 b7 wz ⟨sz.k.at B_x4.out (fun e=>h7_20 e.symm),sz.blk,(K_x4.out.own (k:=b7) G_7.out sz.k),G_20.out,G_7.out⟩
    ·
     skip
     rintro _ x2 ⟨b7,rfl,n_x2⟩;have K_x2:Hid (Keeps Nb w2 x2):=qq (K_x1.out.trans_nb n_x2.k);have A_x2:Hid (x2.heap[b7]?=some (.cells (Value.slice none 0 0).cells 109 (0,0))):=qq n_x2.blk;have G_7:Hid (w2.heap.size <= b7):=qq (by have:=n_x2.ge;have:=K_x1.out.size;omega);have HS:Hid ((fun u:World=>u.cell? ⟨b3,0,none⟩=some (.pointer (some ⟨l,0,none⟩))) x2):=qq ((cell_of_block (K_x2.out.nb B3.out)).trans rfl);clear n_x2;refine ⟨HS.out,?_⟩;simp only [Nat.reduceAdd,qn];have SA:=qq (z0r l L.name n x2 (HV2.out.nb K_x2.out) ((cell_of_block (HC.out _ K_x2.out)).trans rfl) (by omega) (by omega));refine WT.call 7 (by simp only [qi];rfl) (by kernel_rfl) (by rfl) (by go_simp;first | done | rfl | exact ⟨⟨rfl,rfl⟩,rfl⟩ | exact ⟨⟨rfl,rfl,rfl⟩,rfl⟩ | exact ⟨⟨rfl,rfl,rfl,rfl⟩,rfl⟩ | exact ⟨⟨rfl,rfl,rfl,rfl,rfl⟩,rfl⟩) SA.out ?_;rintro _ x3 ⟨rfl,k_x3⟩;have K_x3:Hid (Keeps Nb w2 x3):=qq (K_x2.out.trans_nb k_x3);replace HS:Hid ((fun u:World=>u.cell? ⟨b3,0,none⟩=some (.pointer (some ⟨l,0,none⟩))) x3):=qq ((cell_of_block (K_x3.out.nb B3.out)).trans rfl);clear SA;refine ⟨_,rfl,HS.out,?_⟩;simp only [Nat.reduceAdd,qn];have A_x3:=qq (k_x3.nb A_x2.out);refine WT.o 8 (y:=zl el109 [.string (manf L.name),.string (snf L.name s),.string (sgf L.name n)] rfl (by simp [List.range'_succ];first | done | rfl | exact ⟨rfl,rfl⟩ | exact ⟨rfl,rfl,rfl⟩ | exact ⟨rfl,rfl,rfl,rfl⟩ | exact ⟨rfl,rfl,rfl,rfl,rfl⟩ | exact ⟨rfl,rfl,rfl,rfl,rfl,rfl⟩) (by simp [Value.cells]) (by simp)) (h:=?_);rintro _ x4 ⟨b20,rfl,n_x4⟩;have K_x4:Hid (Keeps Nb w2 x4):=qq (K_x3.out.trans_nb n_x4.k);have B_x4:Hid (x4.heap[b20]?=some (.cells #[.string (manf L.name),.string (snf L.name s),.string (sgf L.name n)] 9 (0,0))):=qq n_x4.blk;have G_20:Hid (w2.heap.size <= b20):=qq (by have:=n_x4.ge;have:=K_x3.out.size;omega);replace HS:Hid ((fun u:World=>u.cell? ⟨b3,0,none⟩=some (.pointer (some ⟨l,0,none⟩))) x4):=qq ((cell_of_block (K_x4.out.nb B3.out)).trans rfl);refine ⟨HS.out,?_⟩;simp only [Nat.reduceAdd,qn];have A_x4:=qq (n_x4.k.nb A_x3.out);have h7_20:b7 ≠ b20:=fun e=>by have:=lt_of_block A_x3.out;have:=n_x4.ge;omega
     refine WT.stop (by kernel_rfl) ?_;refine WP.onlySkipE 10 (by simp only [qi];rfl) (by kernel_rfl) (by rfl) (zd (v:=.slice (some ⟨b20,0,none⟩) 3 3) (n:=1) (by kernel_rfl) (by rfl) (by rfl) A_x4.out (by rfl) (by simp [Value.cells]) (by simp [Value.cells,Value.oneCell'])) ?_;intro wz sz;simp only [Nat.reduceAdd,qn];refine WP.done (by kernel_rfl) ?_;exact key b20 b7 wz ⟨sz.k.at B_x4.out (fun e=>h7_20 e.symm),sz.blk,(K_x4.out.own (k:=b7) G_7.out sz.k),G_20.out,G_7.out⟩
   ·
    skip
    rintro _ x1 ⟨b7,rfl,n_x1⟩;have K_x1:Hid (Keeps Nb w2 x1):=qq (K_x0.out.trans_nb n_x1.k);have A_x1:Hid (x1.heap[b7]?=some (.cells (Value.slice none 0 0).cells 109 (0,0))):=qq n_x1.blk;have G_7:Hid (w2.heap.size <= b7):=qq (by have:=n_x1.ge;have:=K_x0.out.size;omega);have HS:Hid ((fun u:World=>u.cell? ⟨b3,0,none⟩=some (.pointer (some ⟨l,0,none⟩))) x1):=qq ((cell_of_block (K_x1.out.nb B3.out)).trans rfl);clear n_x1;refine ⟨HS.out,?_⟩;simp only [Nat.reduceAdd,qn];have SA:=qq (z3q l L.name s x1 (HV2.out.nb K_x1.out) ((cell_of_block (HC.out _ K_x1.out)).trans rfl) (by omega) (by omega));refine WT.call 4 (by simp only [qi];rfl) (by kernel_rfl) (by rfl) (by go_simp;first | done | rfl | exact ⟨⟨rfl,rfl⟩,rfl⟩ | exact ⟨⟨rfl,rfl,rfl⟩,rfl⟩ | exact ⟨⟨rfl,rfl,rfl,rfl⟩,rfl⟩ | exact ⟨⟨rfl,rfl,rfl,rfl,rfl⟩,rfl⟩) SA.out ?_;rintro _ x2 ⟨rfl,k_x2⟩;have K_x2:Hid (Keeps Nb w2 x2):=qq (K_x1.out.trans_nb k_x2);replace HS:Hid ((fun u:World=>u.cell? ⟨b3,0,none⟩=some (.pointer (some ⟨l,0,none⟩))) x2):=qq ((cell_of_block (K_x2.out.nb B3.out)).trans rfl);clear SA;refine ⟨_,rfl,HS.out,?_⟩;simp only [Nat.reduceAdd,qn];have A_x2:=qq (k_x2.nb A_x1.out);have SA:=qq (z0r l L.name n x2 (HV2.out.nb K_x2.out) ((cell_of_block (HC.out _ K_x2.out)).trans rfl) (by omega) (by omega));refine WT.call 7 (by simp only [qi];rfl) (by kernel_rfl) (by rfl) (by go_simp;first | done | rfl | exact ⟨⟨rfl,rfl⟩,rfl⟩ | exact ⟨⟨rfl,rfl,rfl⟩,rfl⟩ | exact ⟨⟨rfl,rfl,rfl,rfl⟩,rfl⟩ | exact ⟨⟨rfl,rfl,rfl,rfl,rfl⟩,rfl⟩) SA.out ?_;rintro _ x3 ⟨rfl,k_x3⟩;have K_x3:Hid (Keeps Nb w2 x3):=qq (K_x2.out.trans_nb k_x3);replace HS:Hid ((fun u:World=>u.cell? ⟨b3,0,none⟩=some (.pointer (some ⟨l,0,none⟩))) x3):=qq ((cell_of_block (K_x3.out.nb B3.out)).trans rfl);clear SA;refine ⟨_,rfl,HS.out,?_⟩;simp only [Nat.reduceAdd,qn];have A_x3:=qq (k_x3.nb A_x2.out);refine WT.o 8 (y:=zl el109 [.string (manf L.name),.string (snf L.name s),.string (sgf L.name n)] rfl (by simp [List.range'_succ];first | done | rfl | exact ⟨rfl,rfl⟩ | exact ⟨rfl,rfl,rfl⟩ | exact ⟨rfl,rfl,rfl,rfl⟩ | exact ⟨rfl,rfl,rfl,rfl,rfl⟩ | exact ⟨rfl,rfl,rfl,rfl,rfl,rfl⟩) (by simp [Value.cells]) (by simp)) (h:=?_);rintro _ x4 ⟨b20,rfl,n_x4⟩;have K_x4:Hid (Keeps Nb w2 x4):=qq (K_x3.out.trans_nb n_x4.k);have B_x4:Hid (x4.heap[b20]?=some (.cells #[.string (manf L.name),.string (snf L.name s),.string (sgf L.name n)] 9 (0,0))):=qq n_x4.blk;have G_20:Hid (w2.heap.size <= b20):=qq (by have:=n_x4.ge;have:=K_x3.out.size;omega);replace HS:Hid ((fun u:World=>u.cell? ⟨b3,0,none⟩=some (.pointer (some ⟨l,0,none⟩))) x4):=qq ((cell_of_block (K_x4.out.nb B3.out)).trans rfl);refine ⟨HS.out,?_⟩;simp only [Nat.reduceAdd,qn];have A_x4:=qq (n_x4.k.nb A_x3.out);have h7_20:b7 ≠ b20:=fun e=>by have:=lt_of_block A_x3.out;have:=n_x4.ge;omega
    refine WT.stop (by kernel_rfl) ?_;refine WP.onlySkipE 10 (by simp only [qi];rfl) (by kernel_rfl) (by rfl) (zd (v:=.slice (some ⟨b20,0,none⟩) 3 3) (n:=1) (by kernel_rfl) (by rfl) (by rfl) A_x4.out (by rfl) (by simp [Value.cells]) (by simp [Value.cells,Value.oneCell'])) ?_;intro wz sz;simp only [Nat.reduceAdd,qn];refine WP.done (by kernel_rfl) ?_;exact key b20 b7 wz ⟨sz.k.at B_x4.out (fun e=>h7_20 e.symm),sz.blk,(K_x4.out.own (k:=b7) G_7.out sz.k),G_20.out,G_7.out⟩
  ·
   skip
   rintro _ x1 ⟨b7,rfl,n_x1⟩;have K_x1:Hid (Keeps Nb w2 x1):=qq (K_x0.out.trans_nb n_x1.k);have A_x1:Hid (x1.heap[b7]?=some (.cells (Value.slice none 0 0).cells 109 (0,0))):=qq n_x1.blk;have G_7:Hid (w2.heap.size <= b7):=qq (by have:=n_x1.ge;have:=K_x0.out.size;omega);have HS:Hid ((fun u:World=>u.cell? ⟨b3,0,none⟩=some (.pointer (some ⟨l,0,none⟩))) x1):=qq ((cell_of_block (K_x1.out.nb B3.out)).trans rfl);clear n_x1;refine ⟨HS.out,?_⟩;simp only [Nat.reduceAdd,qn];have FA:=qq (z17 l L.name sMan x1 ((cell_of_block (HC.out _ K_x1.out)).trans rfl) (by omega) (by decide));refine WT.call 1 (by simp only [qi];rfl) (by kernel_rfl) (by rfl) (by go_simp;first | done | rfl | exact ⟨⟨rfl,rfl⟩,rfl⟩ | exact ⟨⟨rfl,rfl,rfl⟩,rfl⟩ | exact ⟨⟨rfl,rfl,rfl,rfl⟩,rfl⟩ | exact ⟨⟨rfl,rfl,rfl,rfl,rfl⟩,rfl⟩) FA.out ?_;rintro _ _ ⟨rfl,rfl⟩;clear FA;refine ⟨_,rfl,HS.out,?_⟩;simp only [Nat.reduceAdd,qn];have SA:=qq (z3q l L.name s x1 (HV2.out.nb K_x1.out) ((cell_of_block (HC.out _ K_x1.out)).trans rfl) (by omega) (by omega));refine WT.call 4 (by simp only [qi];rfl) (by kernel_rfl) (by rfl) (by go_simp;first | done | rfl | exact ⟨⟨rfl,rfl⟩,rfl⟩ | exact ⟨⟨rfl,rfl,rfl⟩,rfl⟩ | exact ⟨⟨rfl,rfl,rfl,rfl⟩,rfl⟩ | exact ⟨⟨rfl,rfl,rfl,rfl,rfl⟩,rfl⟩) SA.out ?_;rintro _ x2 ⟨rfl,k_x2⟩;have K_x2:Hid (Keeps Nb w2 x2):=qq (K_x1.out.trans_nb k_x2);replace HS:Hid ((fun u:World=>u.cell? ⟨b3,0,none⟩=some (.pointer (some ⟨l,0,none⟩))) x2):=qq ((cell_of_block (K_x2.out.nb B3.out)).trans rfl);clear SA;refine ⟨_,rfl,HS.out,?_⟩;simp only [Nat.reduceAdd,qn];have A_x2:=qq (k_x2.nb A_x1.out);have SA:=qq (z0r l L.name n x2 (HV2.out.nb K_x2.out) ((cell_of_block (HC.out _ K_x2.out)).trans rfl) (by omega) (by omega));refine WT.call 7 (by simp only [qi];rfl) (by kernel_rfl) (by rfl) (by go_simp;first | done | rfl | exact ⟨⟨rfl,rfl⟩,rfl⟩ | exact ⟨⟨rfl,rfl,rfl⟩,rfl⟩ | exact ⟨⟨rfl,rfl,rfl,rfl⟩,rfl⟩ | exact ⟨⟨rfl,rfl,rfl,rfl,rfl⟩,rfl⟩) SA.out ?_;rintro _ x3 ⟨rfl,k_x3⟩;have K_x3:Hid (Keeps Nb w2 x3):=qq (K_x2.out.trans_nb k_x3);replace HS:Hid ((fun u:World=>u.cell? ⟨b3,0,none⟩=some (.pointer (some ⟨l,0,none⟩))) x3):=qq ((cell_of_block (K_x3.out.nb B3.out)).trans rfl);clear SA;refine ⟨_,rfl,HS.out,?_⟩;simp only [Nat.reduceAdd,qn];have A_x3:=qq (k_x3.nb A_x2.out);refine WT.o 8 (y:=zl el109 [.string (manf L.name),.string (snf L.name s),.string (sgf L.name n)] rfl (by simp [List.range'_succ];first | done | rfl | exact ⟨rfl,rfl⟩ | exact ⟨rfl,rfl,rfl⟩ | exact ⟨rfl,rfl,rfl,rfl⟩ | exact ⟨rfl,rfl,rfl,rfl,rfl⟩ | exact ⟨rfl,rfl,rfl,rfl,rfl,rfl⟩) (by simp [Value.cells]) (by simp)) (h:=?_);rintro _ x4 ⟨b20,rfl,n_x4⟩;have K_x4:Hid (Keeps Nb w2 x4):=qq (K_x3.out.trans_nb n_x4.k);have B_x4:Hid (x4.heap[b20]?=some (.cells #[.string (manf L.name),.string (snf L.name s),.string (sgf L.name n)] 9 (0,0))):=qq n_x4.blk;have G_20:Hid (w2.heap.size <= b20):=qq (by have:=n_x4.ge;have:=K_x3.out.size;omega);replace HS:Hid ((fun u:World=>u.cell? ⟨b3,0,none⟩=some (.pointer (some ⟨l,0,none⟩))) x4):=qq ((cell_of_block (K_x4.out.nb B3.out)).trans rfl);refine ⟨HS.out,?_⟩;simp only [Nat.reduceAdd,qn];have A_x4:=qq (n_x4.k.nb A_x3.out);have h7_20:b7 ≠ b20:=fun e=>by have:=lt_of_block A_x3.out;have:=n_x4.ge;omega
   refine WT.stop (by kernel_rfl) ?_;refine WP.onlySkipE 10 (by simp only [qi];rfl) (by kernel_rfl) (by rfl) (zd (v:=.slice (some ⟨b20,0,none⟩) 3 3) (n:=1) (by kernel_rfl) (by rfl) (by rfl) A_x4.out (by rfl) (by simp [Value.cells]) (by simp [Value.cells,Value.oneCell'])) ?_;intro wz sz;simp only [Nat.reduceAdd,qn];refine WP.done (by kernel_rfl) ?_;exact key b20 b7 wz ⟨sz.k.at B_x4.out (fun e=>h7_20 e.symm),sz.blk,(K_x4.out.own (k:=b7) G_7.out sz.k),G_20.out,G_7.out⟩
 case key =>
  rintro b20 b7 w7 ⟨h20,h7,k7,g20,g7⟩;have K7:=qq k7;have B20:=qq h20;have B7:=qq h7;have G7:Hid (w2.heap.size <= b20 /\ w2.heap.size <= b7):=qq ⟨g20,g7⟩;have H7:=qq (H2.out.nb k7);have B37:=qq (k7.nb B3.out);have B67:=qq (k7.nb B6.out);have c3:w7.cell? ⟨b3,0,none⟩=some (.pointer (some ⟨l,0,none⟩)):=(cell_of_block B37.out).trans rfl;have cl:w7.cell? ⟨l,0,none⟩=some (.pointer (some ⟨d,0,none⟩)):=(cell_of_block (HC.out w7 k7)).trans rfl;have FA:=qq (z3u d X.D Fd Rd X.fc w7 H7.out.disk);clear h20 h7 k7 g20 g7;go_wp2_with fail;refine FA.out.mono ?_;rintro _ w8 ⟨ns,hperm,a3,a4,rfl,hfa,k8⟩;obtain ⟨ps,hps⟩:∃ ps,(ns.map fun s=>(s,szOf X.D X.fc s))=ps:=⟨_,rfl⟩
  rw [hps] at hfa;have HPS:=qq hps;have HPM:=qq hperm;have HFA:=qq hfa;have K8:=qq k8;have HLEN:Hid (ps.length=ns.length):=qq (by rw [<- hps,List.length_map]);have z78:=k8.size;have z27:=K7.out.size;have z02:=K2.out.size;have H8:=qq (H7.out.nb k8);have lt2:Hid (∀ k,(Fd k \/ Rd k \/ FL k \/ RL k) -> k < w.heap.size):=qq (fun k e=>e.elim (H.out.disk.ltF k) fun e=>e.elim (H.out.disk.ltR k) fun e=>e.elim (H.out.ltF k) (H.out.ltR k));have I0:Hid (SwI w8 l d Fd Rd FL RL b6 L X s n (ns.take 0) 0 w8):=qq ⟨X,Fd,Rd,FL,RL,H8.out,fun _ e=>.inl e,fun _ e=>.inl e,fun _ e=>.inl e,fun _ e=>.inl e,⟨rfl,rfl⟩,fun _=>by omega,by omega,Keeps.refl _ _⟩;clear hps hperm hfa k8 FA c3 cl;go_wp2_with (with_reducible refine z19 ?_)
  refine za ((wpIn_wide (n:=9)).1 ?_);have l8:∀ k,(Fd k \/ Rd k \/ FL k \/ RL k) -> k < w8.heap.size:=fun k e=>by have:=lt2.out k e;omega
  refine z2a (gf:=95) (lb:=#[.pointer (some ⟨a3,0,none⟩),.pointer (some ⟨a4,0,none⟩)]) (by rfl) (enters_of Tryz.func95 (by kernel_rfl) rfl)
   (z2g 8 (by omega) w7.heap.size a3 a4 ps (fun b=>w8.heap.size <= b \/ Fd b \/ b=b6) w8 HFA.out (fun b h1 h2 e=>by
    rcases e with e | e | e
    ·omega
    ·have:=lt2.out b (.inl e);omega
    ·have:=G.out;omega))
   (fun b hb=>.inl (by unfold Book at hb;omega)) (fun i args W h=>by obtain ⟨p,-,rfl⟩:=h;rfl)
   (fun i W=>SwI w8 l d Fd Rd FL RL b6 L X s n (ns.take i) 0 W /\ W.heap[b6]?=some (.cells #[.int .i64 0] 24 (0,0))) (fun c W=>SwX w8 l d Fd Rd FL RL b6 L X s n ns c W)
   (fun i A B h k=>⟨h.1.book k l8,k.at h.2 (fun e=>by unfold Book at e;have:=G.out;omega)⟩) (fun c A B h k=>h.book k l8 (fun e=>by unfold Book at e;have:=G.out;omega)) ⟨I0.out,K8.out.nb B67.out⟩ ?round ?done ?stop
  case round =>
   rintro lm i args W rfl hW2 ⟨hI,hbI⟩ hi ⟨p,hp,rfl⟩;simp only [List.zip_toArray,List.zip_cons_cons,List.zip_nil_right,List.foldl_toArray,List.foldl_cons,List.foldl_nil,List.setIfInBounds_toArray,List.set_cons_succ,List.set_cons_zero];have hns:ns[i]?=some p.1:=by
    rw [<- HPS.out,List.getElem?_map] at hp;obtain ⟨s,h1,h2⟩:=Option.map_eq_some_iff.1 hp;rw [h1,<- h2]
   have hmn:mnB p.1=true:=by
    have h1:=HPM.out.mem_iff.1 (List.mem_of_getElem? hns);obtain ⟨q,hq,e⟩:=List.mem_map.1 h1;rw [<- e];exact H.out.disk.names.files q hq
   obtain ⟨nm,sz⟩:=p;have HNS:=qq hns;have hsz:=z0z hmn;have HI:=qq hI;have HBI:=qq hbI;clear hI hbI hp hns hmn
   repeat (first | (with_reducible refine zg ?_) | (with_reducible refine stop_range ?_) | gi_step)
   refine za (zh (by kernel_rfl) (by rintro ⟨_,_,h⟩;exact h) ?_);go_wp2;refine ⟨Keeps.refl _ _,fun W3 k3=>?_⟩;have kb3:Keeps (Book w8) W W3:=k3.mono (fun i _ e=>.inr e);have HI3:=qq (HI.out.book kb3 l8);have HB3:=qq (kb3.at HBI.out (fun e=>by unfold Book at e;have:=G.out;omega));obtain ⟨X',Fd',Rd',FL',RL',g1,g2,g3,g4,g5,g6,g7,g8,g9⟩:=HI3.out;have GL:=qq g1;have G2:=qq (And.intro g2 (And.intro g3 (And.intro g4 g5)));have G6:=qq g6;have G9:=qq g9;have GP:=qq (g7 rfl);have hnS:∀ j,w.heap.size <= j -> j < w8.heap.size -> j ≠ b6 -> ¬ (w8.heap.size <= j \/ Fd j \/ j=b6):=fun j h1 h2 h3 e=>by
    rcases e with e | e | e
    ·omega
    ·have:=lt2.out j (.inl e);omega
    ·exact h3 e
   have B33:=qq (g9.at (K8.out.nb B37.out) (hnS b3 (by have:=G.out;omega) (by have:=G.out;omega) (by have:=G.out;omega)));have B73:=qq (g9.at (K8.out.nb B7.out) (hnS b7 (by have:=G7.out;omega) (by have:=lt_of_block (K8.out.nb B7.out);omega) (by have:=G.out;have:=G7.out;omega)));have B203:=qq (g9.at (K8.out.nb B20.out) (hnS b20 (by have:=G7.out;omega) (by have:=lt_of_block (K8.out.nb B20.out);omega) (by have:=G.out;have:=G7.out;omega)));obtain ⟨sv3,lv3,hcs3⟩:=g1.cells;have HC3:=qq hcs3
   have HV3:Hid (Vars W3):=qq ((((HV2.out.nb K7.out).nb K8.out)).keeps g9 (fun k hk e=>by
    rcases e with e | e | e
    ·have:=H.out.lt6;omega
    ·have:=H.out.low k (.inl e);omega
    ·have:=G.out;have:=H.out.lt6;omega))
   have zW3:w8.heap.size + 2 <= W3.heap.size:=by have:=k3.size;omega
   have PA:Hid (∀ (u:World) (ah:ByteArray),Keeps Nb W3 u -> ah.size <= 1000 -> Calls Tryz.prog 112 #[.pointer (some ⟨l,0,none⟩),.string nm,.string ah] u fun e w'=>e=.returned (.int .i64 (pn (fl L.name ah) nm:Nat)) /\ Keeps Nb u w') :=
    qq (fun u ah hu ha=>z3c l L.name nm ah u (HV3.out.nb hu) ((cell_of_block (HC3.out u hu)).trans rfl) (by omega) (by omega) ha)
   have FA:=qq (z17 l L.name sNew W3 ((cell_of_block (HC3.out W3 (Keeps.refl _ _))).trans rfl) (by omega) (by decide));have c33:W3.cell? ⟨b3,0,none⟩=some (.pointer (some ⟨l,0,none⟩)):=(cell_of_block B33.out).trans rfl;clear k3 kb3 g1 g2 g3 g4 g5 g6 g7 g8 g9 hcs3
   repeat (first | (with_reducible refine zg ?_) | (with_reducible refine stop_range ?_) | gi_step)
   refine za (zh (by kernel_rfl) (by rintro ⟨_,_,h⟩;exact h) ?_);go_wp2_with fail;refine FA.out.mono ?_;rintro _ _ ⟨rfl,rfl⟩;have hnf:fl L.name sNew=newf L.name:=rfl;rw [hnf];clear FA hnf;have hours:ours L.name nm=(decide (nm=newf L.name) || decide (0 < sgn L.name nm) || decide (0 < snn L.name nm)):=rfl;have HOU:=qq hours;clear hours;by_cases hA:nm=newf L.name
   ·
    have t1:(nm == newf L.name)=true:=by rw [zas];simpa using hA
    have t2:(nm.toList == (newf L.name).toList)=true:=by rw [z83];simpa using hA
    have HO:Hid (ours L.name nm=true):=qq (by rw [HOU.out];simp [hA]);have KX:Hid (Keeps Nb W3 W3):=qq (Keeps.refl _ _);have HA:=qq hA;clear hA;go_wp2
    repeat (first | (with_reducible refine zg ?_) | (with_reducible refine stop_range ?_) | gi_step)
    refine za (zh (by kernel_rfl) (by rintro ⟨_,_,h⟩;exact h) ?_);have B7X:=qq (KX.out.nb B73.out);have B20X:=qq (KX.out.nb B203.out);have c7X:W3.cell? ⟨b7,0,none⟩=some (.slice (some ⟨b20,0,none⟩) 3 3):=(cell_of_block B7X.out).trans rfl
    have CO:=qq (Any.slices_Contains_string Tryz.lays110 b20 0 3 3 [manf L.name,snf L.name s,sgf L.name n] nm W3 (by simp) (by decide) (fun j hj=>by
     refine (cell_of_block B20X.out).trans ?_;have:j=0 \/ j=1 \/ j=2:=by simp at hj;omega
     rcases this with rfl | rfl | rfl <;> rfl))
    go_wp2_with fail;refine CO.out.mono ?_;rintro _ w9 ⟨rfl,e9⟩;rw [e9];clear CO e9;generalize hcb:Lib.containsS (List.take 3 [manf L.name,snf L.name s,sgf L.name n]) nm=cb;have hcs:(cb=true ↔ nm ∈ [manf L.name,snf L.name s,sgf L.name n]):=by rw [<- hcb];exact Lib.containsS_iff _ _
    have HCS:=qq hcs;clear hcb hcs c7X;cases cb
    ·
     have HSW:Hid (swept L.name s n nm=true):=qq (by
      have h1:¬ nm ∈ [manf L.name,snf L.name s,sgf L.name n]:=fun e=>by have:=HCS.out.2 e;cases this
      simp only [List.mem_cons,List.not_mem_nil,or_false,not_or] at h1;unfold swept
      rw [HO.out,decide_eq_false h1.1,decide_eq_false h1.2.1,decide_eq_false h1.2.2];rfl)
     have RA:=qq (z6h d nm X'.D Fd' Rd' X'.fc W3 ((GL.out.nb KX.out).disk) (by unfold maxLen;omega) (by have h1:=GP.out;have h2:=HP.out;exact z0b (k:=1) (by omega) (by omega)));have c3X:W3.cell? ⟨b3,0,none⟩=some (.pointer (some ⟨l,0,none⟩)):=(cell_of_block (KX.out.nb B33.out)).trans rfl;have clX:W3.cell? ⟨l,0,none⟩=some (.pointer (some ⟨d,0,none⟩)):=(cell_of_block (HC3.out _ KX.out)).trans rfl;go_wp2
     repeat (first | (with_reducible refine zg ?_) | (with_reducible refine stop_range ?_) | gi_step)
     refine za (zh (by kernel_rfl) (by rintro ⟨_,_,h⟩;exact h) ?_);go_wp2_with fail;refine RA.out.mono ?_;rintro _ w9 ⟨er,D',rfl,hn9,hr9⟩;have zX:W3.heap.size <= (W3).heap.size:=KX.out.size;have hrem:=SwI.rem (s:=s) (n:=n) (b6:=b6) (X:=X) (ns:=ns) (i:=i) (GL.out.nb KX.out) G2.out.1 G2.out.2.1 G2.out.2.2.1 G2.out.2.2.2 G6.out GP.out (G9.out.trans_nb KX.out) (by omega) HNS.out HSW.out hn9 hr9;have HREM:=qq hrem
     have hb9:w9.heap[b6]?=some (.cells #[.int .i64 0] 24 (0,0)):=hrem.2.2.at (KX.out.nb HB3.out) (fun e=>by
      rcases e with e | e
      ·have:=lt2.out b6 (.inl e);have:=G.out;omega
      ·have:=G.out;omega)
     have kf:Keeps (fun b=>(w8.heap.size <= b \/ Fd b \/ b=b6) /\ ¬ Book w8 b) W3 w9:=(KX.out.of_nb).trans hrem.2.2 (fun j hj e=>by
      rcases e with e | e
      ·exact ⟨.inr (.inl e),fun h=>by unfold Book at h;have:=lt2.out j (.inl e);omega⟩
      ·exact ⟨.inl (by omega),fun h=>by unfold Book at h;omega⟩)
     have HB9:=qq hb9;have KF:=qq kf;clear hn9 hr9 hrem RA c3X clX hb9 kf;by_cases her:er=0
     ·
      have HE:=qq (HREM.out.1 her);subst her;go_wp2
      repeat (first | (with_reducible refine zg ?_) | (with_reducible refine stop_range ?_) | gi_step)
      refine za (zh (by kernel_rfl) (by rintro ⟨_,_,h⟩;exact h) ?_);go_wp2
      gi_wp2
      exact ⟨KF.out,HE.out,HB9.out⟩
     ·
      have HE:=qq (HREM.out.2.1 her);have HNE:=qq her;have t9:(er != 0)=true:=by simpa using her
      clear her;go_wp2
      repeat (first | (with_reducible refine zg ?_) | (with_reducible refine stop_range ?_) | gi_step)
      refine za (zh (by kernel_rfl) (by rintro ⟨_,_,h⟩;exact h) ?_);go_wp2
      repeat (first | (with_reducible refine zg ?_) | (with_reducible refine stop_range ?_) | gi_step)
      refine za (zh (by kernel_rfl) (by rintro ⟨_,_,h⟩;exact h) ?_);go_wp2_with (first | go_skip | (with_reducible refine qv (by decide) ?_))
      refine za (zc rfl (zd (v:=.int .i64 er) (n:=1) (by kernel_rfl) (by rfl) (by rfl) HB9.out (by rfl) (by simp [Value.cells]) (by simp [Value.cells,Value.oneCell'])) ?_);intro w10 s10;simp only [Nat.reduceAdd,qn]
      have HX:Hid (Keeps (fun b=>(w8.heap.size <= b \/ Fd b \/ b=b6) /\ ¬ Book w8 b) W3 w10 /\ SwX w8 l d Fd Rd FL RL b6 L X s n ns .ret w10):=qq ⟨KF.out.trans s10.k (fun j hj e=>by
       have e:j=b6:=e
       exact ⟨.inr (.inr e),fun h=>by unfold Book at h;have:=G.out;omega⟩),rfl,er,HNE.out,HE.out.box s10.k (fun j e=>by have:=lt2.out j e;have:=G.out;omega) (by have:=G.out;omega),s10.blk⟩
      clear s10;go_wp2
      gi_wp2
      exact HX.out
    ·
     have HSW:Hid (swept L.name s n nm=false):=qq (by
      have h1:=HCS.out.1 rfl;simp only [List.mem_cons,List.not_mem_nil,or_false] at h1;unfold swept
      rcases h1 with h1 | h1 | h1 <;> rw [decide_eq_true h1] <;> simp)
     go_wp2
     gi_wp2
     exact ⟨KX.out.of_nb,HI3.out.skip HNS.out HSW.out KX.out,KX.out.nb HB3.out⟩
   ·
    have t1:(nm == newf L.name)=false:=by rw [zas];simpa using hA
    have t2:(nm.toList == (newf L.name).toList)=false:=by rw [z83];simpa using hA
    have HA:=qq hA;clear hA;go_wp2_with fail;refine (PA.out W3 ByteArray.empty (Keeps.refl _ _) (by decide)).mono ?_;rintro _ W4 ⟨rfl,k4⟩;have K4:=qq k4;have c34:W4.cell? ⟨b3,0,none⟩=some (.pointer (some ⟨l,0,none⟩)):=(cell_of_block (k4.nb B33.out)).trans rfl;clear k4;have e1:pn (fl L.name ByteArray.empty) nm=sgn L.name nm:=rfl;rw [e1];clear e1;by_cases hS1:0 < sgn L.name nm
    ·
     have HO:Hid (ours L.name nm=true):=qq (by rw [HOU.out,decide_eq_true hS1];simp);have KX:=K4;obtain ⟨kk,hkk⟩:∃ q,sgn L.name nm=q:=⟨_,rfl⟩
     rw [hkk] at hS1 ⊢;clear hkk;go_wp2
     repeat (first | (with_reducible refine zg ?_) | (with_reducible refine stop_range ?_) | gi_step)
     refine za (zh (by kernel_rfl) (by rintro ⟨_,_,h⟩;exact h) ?_);have B7X:=qq (KX.out.nb B73.out);have B20X:=qq (KX.out.nb B203.out);have c7X:W4.cell? ⟨b7,0,none⟩=some (.slice (some ⟨b20,0,none⟩) 3 3):=(cell_of_block B7X.out).trans rfl
     have CO:=qq (Any.slices_Contains_string Tryz.lays110 b20 0 3 3 [manf L.name,snf L.name s,sgf L.name n] nm W4 (by simp) (by decide) (fun j hj=>by
      refine (cell_of_block B20X.out).trans ?_;have:j=0 \/ j=1 \/ j=2:=by simp at hj;omega
      rcases this with rfl | rfl | rfl <;> rfl))
     go_wp2_with fail;refine CO.out.mono ?_;rintro _ w9 ⟨rfl,e9⟩;rw [e9];clear CO e9;generalize hcb:Lib.containsS (List.take 3 [manf L.name,snf L.name s,sgf L.name n]) nm=cb;have hcs:(cb=true ↔ nm ∈ [manf L.name,snf L.name s,sgf L.name n]):=by rw [<- hcb];exact Lib.containsS_iff _ _
     have HCS:=qq hcs;clear hcb hcs c7X;cases cb
     ·
      have HSW:Hid (swept L.name s n nm=true):=qq (by
       have h1:¬ nm ∈ [manf L.name,snf L.name s,sgf L.name n]:=fun e=>by have:=HCS.out.2 e;cases this
       simp only [List.mem_cons,List.not_mem_nil,or_false,not_or] at h1;unfold swept
       rw [HO.out,decide_eq_false h1.1,decide_eq_false h1.2.1,decide_eq_false h1.2.2];rfl)
      have RA:=qq (z6h d nm X'.D Fd' Rd' X'.fc W4 ((GL.out.nb KX.out).disk) (by unfold maxLen;omega) (by have h1:=GP.out;have h2:=HP.out;exact z0b (k:=1) (by omega) (by omega)));have c3X:W4.cell? ⟨b3,0,none⟩=some (.pointer (some ⟨l,0,none⟩)):=(cell_of_block (KX.out.nb B33.out)).trans rfl;have clX:W4.cell? ⟨l,0,none⟩=some (.pointer (some ⟨d,0,none⟩)):=(cell_of_block (HC3.out _ KX.out)).trans rfl;go_wp2
      repeat (first | (with_reducible refine zg ?_) | (with_reducible refine stop_range ?_) | gi_step)
      refine za (zh (by kernel_rfl) (by rintro ⟨_,_,h⟩;exact h) ?_);go_wp2_with fail;refine RA.out.mono ?_;rintro _ w9 ⟨er,D',rfl,hn9,hr9⟩;have zX:W3.heap.size <= (W4).heap.size:=KX.out.size;have hrem:=SwI.rem (s:=s) (n:=n) (b6:=b6) (X:=X) (ns:=ns) (i:=i) (GL.out.nb KX.out) G2.out.1 G2.out.2.1 G2.out.2.2.1 G2.out.2.2.2 G6.out GP.out (G9.out.trans_nb KX.out) (by omega) HNS.out HSW.out hn9 hr9;have HREM:=qq hrem
      have hb9:w9.heap[b6]?=some (.cells #[.int .i64 0] 24 (0,0)):=hrem.2.2.at (KX.out.nb HB3.out) (fun e=>by
       rcases e with e | e
       ·have:=lt2.out b6 (.inl e);have:=G.out;omega
       ·have:=G.out;omega)
      have kf:Keeps (fun b=>(w8.heap.size <= b \/ Fd b \/ b=b6) /\ ¬ Book w8 b) W3 w9:=(KX.out.of_nb).trans hrem.2.2 (fun j hj e=>by
       rcases e with e | e
       ·exact ⟨.inr (.inl e),fun h=>by unfold Book at h;have:=lt2.out j (.inl e);omega⟩
       ·exact ⟨.inl (by omega),fun h=>by unfold Book at h;omega⟩)
      have HB9:=qq hb9;have KF:=qq kf;clear hn9 hr9 hrem RA c3X clX hb9 kf;by_cases her:er=0
      ·
       have HE:=qq (HREM.out.1 her);subst her;go_wp2
       repeat (first | (with_reducible refine zg ?_) | (with_reducible refine stop_range ?_) | gi_step)
       refine za (zh (by kernel_rfl) (by rintro ⟨_,_,h⟩;exact h) ?_);go_wp2
       gi_wp2
       exact ⟨KF.out,HE.out,HB9.out⟩
      ·
       have HE:=qq (HREM.out.2.1 her);have HNE:=qq her;have t9:(er != 0)=true:=by simpa using her
       clear her;go_wp2
       repeat (first | (with_reducible refine zg ?_) | (with_reducible refine stop_range ?_) | gi_step)
       refine za (zh (by kernel_rfl) (by rintro ⟨_,_,h⟩;exact h) ?_);go_wp2
       repeat (first | (with_reducible refine zg ?_) | (with_reducible refine stop_range ?_) | gi_step)
       refine za (zh (by kernel_rfl) (by rintro ⟨_,_,h⟩;exact h) ?_);go_wp2_with (first | go_skip | (with_reducible refine qv (by decide) ?_))
       refine za (zc rfl (zd (v:=.int .i64 er) (n:=1) (by kernel_rfl) (by rfl) (by rfl) HB9.out (by rfl) (by simp [Value.cells]) (by simp [Value.cells,Value.oneCell'])) ?_);intro w10 s10;simp only [Nat.reduceAdd,qn]
       have HX:Hid (Keeps (fun b=>(w8.heap.size <= b \/ Fd b \/ b=b6) /\ ¬ Book w8 b) W3 w10 /\ SwX w8 l d Fd Rd FL RL b6 L X s n ns .ret w10):=qq ⟨KF.out.trans s10.k (fun j hj e=>by
        have e:j=b6:=e
        exact ⟨.inr (.inr e),fun h=>by unfold Book at h;have:=G.out;omega⟩),rfl,er,HNE.out,HE.out.box s10.k (fun j e=>by have:=lt2.out j e;have:=G.out;omega) (by have:=G.out;omega),s10.blk⟩
       clear s10;go_wp2
       gi_wp2
       exact HX.out
     ·
      have HSW:Hid (swept L.name s n nm=false):=qq (by
       have h1:=HCS.out.1 rfl;simp only [List.mem_cons,List.not_mem_nil,or_false] at h1;unfold swept
       rcases h1 with h1 | h1 | h1 <;> rw [decide_eq_true h1] <;> simp)
      go_wp2
      gi_wp2
      exact ⟨KX.out.of_nb,HI3.out.skip HNS.out HSW.out KX.out,KX.out.nb HB3.out⟩
    ·
     have HS1:=qq hS1;obtain ⟨kk,hkk⟩:∃ q,sgn L.name nm=q:=⟨_,rfl⟩
     have HKK:=qq hkk;rw [hkk] at hS1 ⊢;clear hkk;go_wp2_with fail;refine (PA.out W4 sS K4.out (by decide)).mono ?_;rintro _ W5 ⟨rfl,k5⟩;have K5:=qq (K4.out.trans_nb k5);have e1:pn (fl L.name sS) nm=snn L.name nm:=rfl;rw [e1];clear e1 k5 c34;by_cases hS2:0 < snn L.name nm
     ·
      have HO:Hid (ours L.name nm=true):=qq (by rw [HOU.out,decide_eq_true hS2];simp);have KX:=K5;obtain ⟨kk2,hkk2⟩:∃ q,snn L.name nm=q:=⟨_,rfl⟩
      rw [hkk2] at hS2 ⊢;clear hkk2;go_wp2
      repeat (first | (with_reducible refine zg ?_) | (with_reducible refine stop_range ?_) | gi_step)
      refine za (zh (by kernel_rfl) (by rintro ⟨_,_,h⟩;exact h) ?_);have B7X:=qq (KX.out.nb B73.out);have B20X:=qq (KX.out.nb B203.out);have c7X:W5.cell? ⟨b7,0,none⟩=some (.slice (some ⟨b20,0,none⟩) 3 3):=(cell_of_block B7X.out).trans rfl
      have CO:=qq (Any.slices_Contains_string Tryz.lays110 b20 0 3 3 [manf L.name,snf L.name s,sgf L.name n] nm W5 (by simp) (by decide) (fun j hj=>by
       refine (cell_of_block B20X.out).trans ?_;have:j=0 \/ j=1 \/ j=2:=by simp at hj;omega
       rcases this with rfl | rfl | rfl <;> rfl))
      go_wp2_with fail;refine CO.out.mono ?_;rintro _ w9 ⟨rfl,e9⟩;rw [e9];clear CO e9;generalize hcb:Lib.containsS (List.take 3 [manf L.name,snf L.name s,sgf L.name n]) nm=cb;have hcs:(cb=true ↔ nm ∈ [manf L.name,snf L.name s,sgf L.name n]):=by rw [<- hcb];exact Lib.containsS_iff _ _
      have HCS:=qq hcs;clear hcb hcs c7X;cases cb
      ·
       have HSW:Hid (swept L.name s n nm=true):=qq (by
        have h1:¬ nm ∈ [manf L.name,snf L.name s,sgf L.name n]:=fun e=>by have:=HCS.out.2 e;cases this
        simp only [List.mem_cons,List.not_mem_nil,or_false,not_or] at h1;unfold swept
        rw [HO.out,decide_eq_false h1.1,decide_eq_false h1.2.1,decide_eq_false h1.2.2];rfl)
       have RA:=qq (z6h d nm X'.D Fd' Rd' X'.fc W5 ((GL.out.nb KX.out).disk) (by unfold maxLen;omega) (by have h1:=GP.out;have h2:=HP.out;exact z0b (k:=1) (by omega) (by omega)));have c3X:W5.cell? ⟨b3,0,none⟩=some (.pointer (some ⟨l,0,none⟩)):=(cell_of_block (KX.out.nb B33.out)).trans rfl;have clX:W5.cell? ⟨l,0,none⟩=some (.pointer (some ⟨d,0,none⟩)):=(cell_of_block (HC3.out _ KX.out)).trans rfl;go_wp2
       repeat (first | (with_reducible refine zg ?_) | (with_reducible refine stop_range ?_) | gi_step)
       refine za (zh (by kernel_rfl) (by rintro ⟨_,_,h⟩;exact h) ?_);go_wp2_with fail;refine RA.out.mono ?_;rintro _ w9 ⟨er,D',rfl,hn9,hr9⟩;have zX:W3.heap.size <= (W5).heap.size:=KX.out.size;have hrem:=SwI.rem (s:=s) (n:=n) (b6:=b6) (X:=X) (ns:=ns) (i:=i) (GL.out.nb KX.out) G2.out.1 G2.out.2.1 G2.out.2.2.1 G2.out.2.2.2 G6.out GP.out (G9.out.trans_nb KX.out) (by omega) HNS.out HSW.out hn9 hr9;have HREM:=qq hrem
       have hb9:w9.heap[b6]?=some (.cells #[.int .i64 0] 24 (0,0)):=hrem.2.2.at (KX.out.nb HB3.out) (fun e=>by
        rcases e with e | e
        ·have:=lt2.out b6 (.inl e);have:=G.out;omega
        ·have:=G.out;omega)
       have kf:Keeps (fun b=>(w8.heap.size <= b \/ Fd b \/ b=b6) /\ ¬ Book w8 b) W3 w9:=(KX.out.of_nb).trans hrem.2.2 (fun j hj e=>by
        rcases e with e | e
        ·exact ⟨.inr (.inl e),fun h=>by unfold Book at h;have:=lt2.out j (.inl e);omega⟩
        ·exact ⟨.inl (by omega),fun h=>by unfold Book at h;omega⟩)
       have HB9:=qq hb9;have KF:=qq kf;clear hn9 hr9 hrem RA c3X clX hb9 kf;by_cases her:er=0
       ·
        have HE:=qq (HREM.out.1 her);subst her;go_wp2
        repeat (first | (with_reducible refine zg ?_) | (with_reducible refine stop_range ?_) | gi_step)
        refine za (zh (by kernel_rfl) (by rintro ⟨_,_,h⟩;exact h) ?_);go_wp2
        gi_wp2
        exact ⟨KF.out,HE.out,HB9.out⟩
       ·
        have HE:=qq (HREM.out.2.1 her);have HNE:=qq her;have t9:(er != 0)=true:=by simpa using her
        clear her;go_wp2
        repeat (first | (with_reducible refine zg ?_) | (with_reducible refine stop_range ?_) | gi_step)
        refine za (zh (by kernel_rfl) (by rintro ⟨_,_,h⟩;exact h) ?_);go_wp2
        repeat (first | (with_reducible refine zg ?_) | (with_reducible refine stop_range ?_) | gi_step)
        refine za (zh (by kernel_rfl) (by rintro ⟨_,_,h⟩;exact h) ?_);go_wp2_with (first | go_skip | (with_reducible refine qv (by decide) ?_))
        refine za (zc rfl (zd (v:=.int .i64 er) (n:=1) (by kernel_rfl) (by rfl) (by rfl) HB9.out (by rfl) (by simp [Value.cells]) (by simp [Value.cells,Value.oneCell'])) ?_);intro w10 s10;simp only [Nat.reduceAdd,qn]
        have HX:Hid (Keeps (fun b=>(w8.heap.size <= b \/ Fd b \/ b=b6) /\ ¬ Book w8 b) W3 w10 /\ SwX w8 l d Fd Rd FL RL b6 L X s n ns .ret w10):=qq ⟨KF.out.trans s10.k (fun j hj e=>by
         have e:j=b6:=e
         exact ⟨.inr (.inr e),fun h=>by unfold Book at h;have:=G.out;omega⟩),rfl,er,HNE.out,HE.out.box s10.k (fun j e=>by have:=lt2.out j e;have:=G.out;omega) (by have:=G.out;omega),s10.blk⟩
        clear s10;go_wp2
        gi_wp2
        exact HX.out
      ·
       have HSW:Hid (swept L.name s n nm=false):=qq (by
        have h1:=HCS.out.1 rfl;simp only [List.mem_cons,List.not_mem_nil,or_false] at h1;unfold swept
        rcases h1 with h1 | h1 | h1 <;> rw [decide_eq_true h1] <;> simp)
       go_wp2
       gi_wp2
       exact ⟨KX.out.of_nb,HI3.out.skip HNS.out HSW.out KX.out,KX.out.nb HB3.out⟩
     ·
      have HSW:Hid (swept L.name s n nm=false):=qq (by
       unfold swept
       rw [HOU.out,decide_eq_false HA.out,decide_eq_false HS1.out,decide_eq_false hS2];rfl)
      obtain ⟨kk2,hkk2⟩:∃ q,snn L.name nm=q:=⟨_,rfl⟩
      rw [hkk2] at hS2 ⊢;clear hkk2;go_wp2
      repeat (first | (with_reducible refine zg ?_) | (with_reducible refine stop_range ?_) | gi_step)
      refine za (zh (by kernel_rfl) (by rintro ⟨_,_,h⟩;exact h) ?_);go_wp2
      gi_wp2
      exact ⟨K5.out.of_nb,HI3.out.skip HNS.out HSW.out K5.out,K5.out.nb HB3.out⟩
  case done =>
   rintro W ⟨hI,hb⟩ hD;rw [HLEN.out,List.take_length] at hI;have HI:=qq hI;have HD:=qq hD;have hb68:b6 < w8.heap.size:=by have:=G.out;omega
   clear hI hD;go_wp2_with (first | go_skip | (with_reducible refine qv (by decide) ?_))
   refine za (zc rfl (zd (v:=.int .i64 0) (n:=1) (by kernel_rfl) (by rfl) (by rfl) hb (by rfl) (by simp [Value.cells]) (by simp [Value.cells,Value.oneCell'])) ?_);intro W2 s2;simp only [Nat.reduceAdd,qn];have kp:=zv W2 w8.heap.size (.deferred none);have hb2:(W2.putObj w8.heap.size (.deferred none)).heap[b6]?=some (.cells #[.int .i64 0] 24 (0,0)):=kp.at s2.blk (fun e=>by omega);have hcb:(W2.putObj w8.heap.size (.deferred none)).cell? ⟨b6,0,none⟩=some (.int .i64 0):=(cell_of_block hb2).trans rfl;have HD2:=qq (s2.k.at HD.out (fun e=>by omega))
   have HF:Hid (OpE w l d Fd Rd FL RL L X 1 (sweepO L.name s n) (.returned (.int .i64 0)) (W2.putObj w8.heap.size (.deferred none))):=qq
    (((HI.out.box s2.k (fun j e=>by have:=lt2.out j e;have:=G.out;omega) hb68).book (kp.mono (fun j _ e=>by unfold Book;exact .inl e)) l8).fin ((K2.out.trans_nb K7.out).trans_nb K8.out) (by have:=G.out;omega) HPM.out)
   clear s2 kp hb2;go_wp2;refine ⟨by simp,.inl ⟨_,_,rfl,run_takeDeferred HD2.out,?_⟩⟩;exact ⟨.int .i64 0,by simp [results,Tryz.f79,go_sem,hcb],HF.out⟩
  case stop =>
   rintro c W ⟨rfl,er,hne,hI,hb⟩ hD;have hb68:b6 < w8.heap.size:=by have:=G.out;omega
   have kp:=zv W w8.heap.size (.deferred none);have hb2:(W.putObj w8.heap.size (.deferred none)).heap[b6]?=some (.cells #[.int .i64 er] 24 (0,0)):=kp.at hb (fun e=>by omega);have hcb:(W.putObj w8.heap.size (.deferred none)).cell? ⟨b6,0,none⟩=some (.int .i64 er):=(cell_of_block hb2).trans rfl
   have HF:Hid (OpE w l d Fd Rd FL RL L X 1 (sweepO L.name s n) (.returned (.int .i64 er)) (W.putObj w8.heap.size (.deferred none))):=qq
    ((hI.book (kp.mono (fun j _ e=>by unfold Book;exact .inl e)) l8).fin ((K2.out.trans_nb K7.out).trans_nb K8.out) (by have:=G.out;omega) HPM.out)
   gi_wp2
   refine ⟨by simp,.inl ⟨_,_,rfl,run_takeDeferred hD,?_⟩⟩;exact ⟨.int .i64 er,by simp [results,Tryz.f79,go_sem,hcb],HF.out⟩
end Go.Proofs.YtpjomdmjohjheaaGreatDoor
end
section
namespace Go.Proofs.YtpjomdmjohjheaaGreatDoor
open Go.RowKit Go.Lk Go.Vfs Go.Log
theorem zgf (l d b2 b6 b8 s n:Nat) (L:Lg) (hs:s <= 4294967296) (hn:n <= 4294967296):OpC l d L 9 ⟨71,#[],#[.pointer (some ⟨b2,0,none⟩),.pointer (some ⟨b6,0,none⟩),.pointer (some ⟨b8,0,none⟩)]⟩ (manO L.name s n) (fun w a b=>LB b2 l w a b /\ NB b6 s w a b /\ NB b8 n w a b):=by
 rintro w Fd Rd FL RL X h hv ⟨⟨hb2,o2⟩,⟨hb6,o6⟩,⟨hb8,o8⟩⟩ hp;have c2:w.cell? ⟨b2,0,none⟩=some (.pointer (some ⟨l,0,none⟩)):=(cell_of_block hb2).trans rfl;have c6:w.cell? ⟨b6,0,none⟩=some (.int .i64 (s:Nat)):=(cell_of_block hb6).trans rfl;have c8:w.cell? ⟨b8,0,none⟩=some (.int .i64 (n:Nat)):=(cell_of_block hb8).trans rfl;have MW:=qq (zfh l d Fd Rd FL RL L X s n w h hv hs hn hp);clear h hv hp hb2 hb6 hb8;show Calls Tryz.prog 71 #[.pointer (some ⟨b2,0,none⟩),.pointer (some ⟨b6,0,none⟩),.pointer (some ⟨b8,0,none⟩)] w _;go_enter Tryz.func71,Tryz.ntmps71;go_wp2_with fail;refine MW.out.mono ?_;rintro e w1 hE;obtain ⟨er,X',L',rfl,-⟩:=id hE;have F:=qq hE;clear hE MW;go_wp2;go_ret;exact F.out
theorem zdf (l d b2 b6 b8 s n:Nat) (L:Lg) (hs:s <= 4294967296) (hn:n <= 4294967296):OpC l d L 1 ⟨78,#[],#[.pointer (some ⟨b2,0,none⟩),.pointer (some ⟨b6,0,none⟩),.pointer (some ⟨b8,0,none⟩)]⟩ (sweepO L.name s n) (fun w a b=>LB b2 l w a b /\ NB b6 s w a b /\ NB b8 n w a b):=by
 rintro w Fd Rd FL RL X h hv ⟨⟨hb2,o2⟩,⟨hb6,o6⟩,⟨hb8,o8⟩⟩ hp;have c2:w.cell? ⟨b2,0,none⟩=some (.pointer (some ⟨l,0,none⟩)):=(cell_of_block hb2).trans rfl;have c6:w.cell? ⟨b6,0,none⟩=some (.int .i64 (s:Nat)):=(cell_of_block hb6).trans rfl;have c8:w.cell? ⟨b8,0,none⟩=some (.int .i64 (n:Nat)):=(cell_of_block hb8).trans rfl;have MW:=qq (zf2 l d s n Fd Rd FL RL L X w h hv hs hn hp);clear h hv hp hb2 hb6 hb8;show Calls Tryz.prog 78 #[.pointer (some ⟨b2,0,none⟩),.pointer (some ⟨b6,0,none⟩),.pointer (some ⟨b8,0,none⟩)] w _;go_enter Tryz.func78,Tryz.ntmps78;go_wp2_with fail;refine MW.out.mono ?_;rintro e w1 hE;obtain ⟨er,X',L',rfl,-⟩:=id hE;have F:=qq hE;clear hE MW;go_wp2;go_ret;exact F.out
theorem zgp (l d b2 b6 b3 s:Nat) (L:Lg) (ad:Option Addr) (m c:Nat) (bs:List Nat) (hs:s <= 4294967296) (hl:bs.length <= mxr):OpC l d L 5 ⟨74,#[],#[.pointer (some ⟨b2,0,none⟩),.pointer (some ⟨b6,0,none⟩),.pointer (some ⟨b3,0,none⟩)]⟩ (putO (snf L.name s) bs) (fun w a b=>LB b2 l w a b /\ NB b6 s w a b /\ YB b3 (.slice ad m c) bs w a b):=by
 rintro w Fd Rd FL RL X h hv ⟨⟨hb2,o2⟩,⟨hb6,o6⟩,⟨⟨hb3,o3⟩,hy⟩⟩ hp;have OO:=qq (And.intro o2 (And.intro o6 o3));obtain ⟨sv,lv,hcs⟩:=h.cells;have c2:w.cell? ⟨b2,0,none⟩=some (.pointer (some ⟨l,0,none⟩)):=(cell_of_block hb2).trans rfl;have c6:w.cell? ⟨b6,0,none⟩=some (.int .i64 (s:Nat)):=(cell_of_block hb6).trans rfl;have c3:w.cell? ⟨b3,0,none⟩=some (.slice ad m c):=(cell_of_block hb3).trans rfl;have H:=qq h;have HV:=qq hv;have HY:=qq hy;have HP:=qq hp;have h16:=h.nums.n16;have SA:=qq (z3q l L.name s w.drew (hv.nb (Keeps.refl Nb w).drew) ((cell_of_block (hcs w.drew (Keeps.refl Nb w).drew)).trans rfl) (by omega) (by omega));clear h hv hb2 hb6 hb3 hcs hp hy o2 o6 o3;show Calls Tryz.prog 74 #[.pointer (some ⟨b2,0,none⟩),.pointer (some ⟨b6,0,none⟩),.pointer (some ⟨b3,0,none⟩)] w _;go_enter Tryz.func74,Tryz.ntmps74;go_wp2;refine WT.region (fun u=>u.cell? ⟨b2,0,none⟩=some (.pointer (some ⟨l,0,none⟩)) /\ u.cell? ⟨b6,0,none⟩=some (.int .i64 (s:Nat)) /\ u.cell? ⟨b3,0,none⟩=some (.slice ad m c)) 6 7 [0,1,2,4,3,5,6] (by kernel_rfl) rfl ?_
 have fac:∀ u,Keeps (fun k=>Fd k \/ FL k) w u -> (fun u:World=>u.cell? ⟨b2,0,none⟩=some (.pointer (some ⟨l,0,none⟩)) /\ u.cell? ⟨b6,0,none⟩=some (.int .i64 (s:Nat)) /\ u.cell? ⟨b3,0,none⟩=some (.slice ad m c)) u:=fun u hu =>
  ⟨(hu.cell (lt_of_cell c2) (fun e=>e.elim OO.out.1.1 OO.out.1.2)).trans c2,(hu.cell (lt_of_cell c6) (fun e=>e.elim OO.out.2.1.1 OO.out.2.1.2)).trans c6,(hu.cell (lt_of_cell c3) (fun e=>e.elim OO.out.2.2.1 OO.out.2.2.2)).trans c3⟩
 have FAC:=qq fac;have HS:=qq (fac w.drew (Keeps.refl _ w).drew);clear fac;refine WT.t 0 (v:=.pointer (some ⟨l,0,none⟩)) (y:=by rintro w ⟨C1,C2,C3⟩;exact zb (by kernel_rfl) (by rfl) C1) (s:=HS.out) (h:=?_);refine WT.t 1 (v:=.pointer (some ⟨l,0,none⟩)) (y:=by rintro w ⟨C1,C2,C3⟩;exact zb (by kernel_rfl) (by rfl) C1) (s:=HS.out) (h:=?_);refine WT.t 2 (v:=.int .i64 (s:Nat)) (y:=by rintro w ⟨C1,C2,C3⟩;exact zb (by kernel_rfl) (by rfl) C2) (s:=HS.out) (h:=?_);refine WT.t 4 (v:=.slice ad m c) (y:=by rintro w ⟨C1,C2,C3⟩;exact zb (by kernel_rfl) (by rfl) C3) (s:=HS.out) (h:=?_);refine WT.call 3 (by simp only [qi];rfl) (by kernel_rfl) (by rfl) (by go_simp;first | done | rfl | exact ⟨⟨rfl,rfl⟩,rfl⟩ | exact ⟨⟨rfl,rfl,rfl⟩,rfl⟩ | exact ⟨⟨rfl,rfl,rfl,rfl⟩,rfl⟩ | exact ⟨⟨rfl,rfl,rfl,rfl,rfl⟩,rfl⟩) SA.out ?_;rintro _ w1 ⟨rfl,k1⟩;have K1:Hid (Keeps Nb w w1):=qq (((Keeps.refl Nb w).drew).trans_nb k1);refine ⟨_,rfl,FAC.out w1 K1.out.of_nb,?_⟩;simp only [Nat.reduceAdd,qn];have PW:=qq (zfi l d Fd Rd FL RL L X (snf L.name s) (.slice ad m c) bs w1 (H.out.nb K1.out) (HV.out.nb K1.out) (by exact z5c h16 (by rw [ByteArray.size_append];have:=z3t (n:=s) (by omega);have:sS.size=1:=rfl;omega)) (((HY.out.keeps K1.out (fun _ _ e=>e)).mono (fun k hk=>⟨Nat.lt_of_lt_of_le hk.1 K1.out.size,hk.2⟩))) hl HP.out);refine WT.call 5 (by simp only [qi];rfl) (by kernel_rfl) (by rfl) (by go_simp;first | done | rfl | exact ⟨⟨rfl,rfl⟩,rfl⟩ | exact ⟨⟨rfl,rfl,rfl⟩,rfl⟩ | exact ⟨⟨rfl,rfl,rfl,rfl⟩,rfl⟩ | exact ⟨⟨rfl,rfl,rfl,rfl,rfl⟩,rfl⟩) PW.out ?_;rintro e w2 hE;obtain ⟨er,X',L',rfl,hq⟩:=id hE;have hF:=OpE.from hE K1.out;have hS2:=FAC.out w2 (by obtain ⟨er2,X2,L2,-,hnow,-⟩:=hF;obtain ⟨_,_,_,_,_,_,_,_,_,hk⟩:=hnow;exact hk);have F:=qq hF;clear hE hq PW hF SA k1 HS;refine ⟨_,rfl,hS2,?_⟩;simp only [Nat.reduceAdd,qn];refine WT.stop (by kernel_rfl) ?_;refine WP.o 6 (v:=_) (y:=by go_simp;first | with_reducible rfl | exact ⟨rfl,rfl⟩) (h:=?_);refine WP.done (by kernel_rfl) ?_;go_wp2;go_ret;exact F.out
end Go.Proofs.YtpjomdmjohjheaaGreatDoor
end
section
namespace Go.Proofs.YtpjomdmjohjheaaGreatDoor
open Go.RowKit Go.Lk Go.Vfs Go.Log
def TuP (l s n b2 b3 b6 b7 b8:Nat) (f:Int) (v:Value) (bs:List Nat):World -> (Nat -> Prop) -> (Nat -> Prop) -> Prop:=fun w a b=>LB b2 l w a b /\ NB b6 s w a b /\ NB b8 n w a b /\ EB b7 f w a b /\ YB b3 v bs w a b
theorem z1i (l s n b2 b3 b6 b7 b8:Nat) (f:Int) (v:Value) (bs:List Nat):Stable (TuP l s n b2 b3 b6 b7 b8 f v bs):=(zr _ _).and ((zr _ _).and ((zr _ _).and ((zr _ _).and (z2e _ _ _))))
def tuF (b2 b3 b6 b7 b8:Nat):List Fv:=[⟨72,#[],#[.pointer (some ⟨b2,0,none⟩)]⟩,⟨73,#[],#[.pointer (some ⟨b7,0,none⟩)]⟩,⟨74,#[],#[.pointer (some ⟨b2,0,none⟩),.pointer (some ⟨b6,0,none⟩),.pointer (some ⟨b3,0,none⟩)]⟩,
 ⟨77,#[],#[.pointer (some ⟨b2,0,none⟩),.pointer (some ⟨b8,0,none⟩)]⟩,⟨71,#[],#[.pointer (some ⟨b2,0,none⟩),.pointer (some ⟨b6,0,none⟩),.pointer (some ⟨b8,0,none⟩)]⟩,⟨78,#[],#[.pointer (some ⟨b2,0,none⟩),.pointer (some ⟨b6,0,none⟩),.pointer (some ⟨b8,0,none⟩)]⟩]
theorem tu_l (l d s n b2 b3 b6 b7 b8:Nat) (f:Int) (L:Lg) (ad:Option Addr) (m c:Nat) (bs:List Nat) (hs:s <= 4294967296) (hn:n <= 4294967296) (hl:bs.length <= mxr):OpL l d L (TuP l s n b2 b3 b6 b7 b8 f (.slice ad m c) bs) (tuF b2 b3 b6 b7 b8)
  [syO L.seg,erO f,putO (snf L.name s) bs,mkO (sgf L.name n),manO L.name s n,sweepO L.name s n] [1,0,5,3,9,1] :=
 ⟨(sy72_c l d b2 L).mono (fun _ _ _ h=>h.1),enters_of Tryz.func72 (by kernel_rfl) rfl,by omega,(zg3 l d b7 f L).mono (fun _ _ _ h=>h.2.2.2.1),enters_of Tryz.func73 (by kernel_rfl) rfl,by omega,
  (zgp l d b2 b6 b3 s L ad m c bs hs hl).mono (fun _ _ _ h=>⟨h.1,h.2.1,h.2.2.2.2⟩),enters_of Tryz.func74 (by kernel_rfl) rfl,by omega,(mk77_c l d b2 b8 n L (by omega)).mono (fun _ _ _ h=>⟨h.1,h.2.2.1⟩),enters_of Tryz.func77 (by kernel_rfl) rfl,by omega,
  (zgf l d b2 b6 b8 s n L hs hn).mono (fun _ _ _ h=>⟨h.1,h.2.1,h.2.2.1⟩),enters_of Tryz.func71 (by kernel_rfl) rfl,by omega,(zdf l d b2 b6 b8 s n L hs hn).mono (fun _ _ _ h=>⟨h.1,h.2.1,h.2.2.1⟩),enters_of Tryz.func78 (by kernel_rfl) rfl,by omega,trivial⟩
theorem zhe (l d:Nat) (Fd Rd FL RL:Nat -> Prop) (L:Lg) (X:Ds) (v:Value) (bs:List Nat) (w:World) (h:LgAt w l d Fd Rd FL RL L X) (hv:Vars w) (hb:BytesO v bs w Fd FL) (hp:pot X + 19 <= 999999) :
  Calls Tryz.prog 23 #[.pointer (some ⟨l,0,none⟩),v] w (LogD w l d Fd Rd FL RL L X 19 (fun L X e L' Y=>turnR L bs X e L' Y)):=by
 obtain ⟨va,vc,rfl,hq⟩:=id hb;have H:=qq h;have HV:=qq hv;have HP:=qq hp;have HB:=qq hb;obtain ⟨m,hm⟩:∃ m,bs.length=m:=⟨_,rfl⟩
 have HM:=qq hm;rw [hm] at HB ⊢;clear h hv hp hb hq hm;go_enter Tryz.func23,Tryz.ntmps23;go_wp2_with (first | go_skip | (with_reducible refine zm (t:=40) ?_) | (with_reducible refine zm (t:=22) ?_))
 refine za (vbox1 (v:=.pointer (some ⟨l,0,none⟩)) (by rfl) rfl ?_);intro b2 w0 n0;simp only [Nat.reduceAdd,qn];go_wp2_with (first | go_skip | (with_reducible refine zm (t:=40) ?_) | (with_reducible refine zm (t:=22) ?_))
 refine za (vbox1 (v:=.slice va m vc) (by rfl) rfl ?_);intro b3 w1 n1;simp only [Nat.reduceAdd,qn];have B2:=qq (n1.k.nb n0.blk);have B3:=qq n1.blk;have G2:Hid (w.heap.size <= b2 /\ b2 < b3 /\ b3 < w1.heap.size):=qq ⟨n0.ge,by have:=n0.lt;have:=n1.ge;omega,n1.lt⟩;have K1:=qq (n0.k.trans_nb n1.k);clear n0 n1;have H1:=qq (H.out.nb K1.out);have HV1:=qq (HV.out.nb K1.out);obtain ⟨sv,lv,vs,q1,-⟩:=H1.out.ex;have MA:=qq (z8m l d sv lv L va m vc w1 q1);have c2:w1.cell? ⟨b2,0,none⟩=some (.pointer (some ⟨l,0,none⟩)):=(cell_of_block B2.out).trans rfl;have c3:w1.cell? ⟨b3,0,none⟩=some (.slice va m vc):=(cell_of_block B3.out).trans rfl;obtain ⟨f0,hf0⟩:∃ f,mayE L m=f:=⟨_,rfl⟩
 rw [hf0] at MA;have HF0:=qq hf0;clear hf0 q1;go_wp2_with fail;refine MA.out.mono ?_;rintro _ _ ⟨rfl,rfl⟩;clear MA;by_cases h0:f0=0
 ·
  subst h0;have hmx:m <= mxr:=by
   have:=HF0.out;unfold mayE at this;split at this
   ·cases this
   ·omega
  have NX:=qq (z6w l d Fd Rd FL RL L X w1 H1.out HV1.out);have hnxb:nxN L.name X <= 2147483647 /\ (nxE L.name X=0 -> nxN L.name X=nx L.name X + 1) /\ (nxE L.name X=0 \/ nxE L.name X=5):=by
   unfold nxN nxE mxn;split
   ·exact ⟨by omega,by simp,.inr rfl⟩
   ·exact ⟨by omega,by simp,.inl rfl⟩
  generalize hn:nxN L.name X=s at NX hnxb;generalize hf:nxE L.name X=f at NX hnxb;have HF:=qq hf;have HNX:=qq hnxb;have hn31:=hnxb.1;clear hn hf hnxb c3;go_wp2_with fail;refine NX.out.mono ?_;rintro _ w8 ⟨rfl,k8⟩;go_wp2_with (first | go_skip | (with_reducible refine qv (by decide) ?_))
  refine za (valloc (z:=.int .i64 0) (by kernel_rfl) ?_);intro b6 w9 n9;simp only [Nat.reduceAdd,qn];go_wp2_with (first | go_skip | (with_reducible refine qv (by decide) ?_))
  refine za (valloc (z:=.int .i64 0) (by kernel_rfl) ?_);intro b7 w10 n10;simp only [Nat.reduceAdd,qn];go_wp2_with (first | go_skip | (with_reducible refine qv (by decide) ?_))
  refine za (zc rfl (zd (v:=.int .i64 (s:Nat)) (n:=1) (by kernel_rfl) (by rfl) (by rfl) (n10.k.nb n9.blk) (by rfl) (by simp [Value.cells]) (by simp [Value.cells,Value.oneCell'])) ?_);intro w11 s11;simp only [Nat.reduceAdd,qn];go_wp2_with (first | go_skip | (with_reducible refine qv (by decide) ?_))
  refine za (zc rfl (zd (v:=.int .i64 f) (n:=1) (by kernel_rfl) (by rfl) (by rfl) (s11.k.at n10.blk (fun e=>by have:=n9.lt;have:=n10.ge;omega)) (by rfl) (by simp [Value.cells]) (by simp [Value.cells,Value.oneCell'])) ?_);intro w12 s12;simp only [Nat.reduceAdd,qn];have h34:b6 < b7:=by have:=n9.lt;have:=n10.ge;omega
  have B7:=qq s12.blk;have B6:=qq (s12.k.at s11.blk (fun e=>by omega));have hz8:=k8.size;have G6:Hid (w1.heap.size <= b6 /\ b6 < b7 /\ b7 < w12.heap.size):=qq ⟨by have:=n9.ge;omega,h34,lt_of_block s12.blk⟩;have K112:Hid (Keeps Nb w1 w12):=qq ((((k8.trans_nb n9.k).trans_nb n10.k).own (k:=b6) (by have:=n9.ge;omega) s11.k).own (k:=b7) (by have:=n9.ge;omega) s12.k);clear k8 n9 n10 s11 s12 NX c2 hz8 h34;have c6:w12.cell? ⟨b6,0,none⟩=some (.int .i64 (s:Nat)):=(cell_of_block B6.out).trans rfl;obtain ⟨n,hsn⟩:∃ n,s + 1=n:=⟨_,rfl⟩
  have HSN:=qq hsn;have iw:IntKind.i64.wrap ((s:Int) + 1)=(n:Int):=by rw [IntWalk.i64_in _ (by omega)];omega
  clear hsn;go_wp2_with (first | go_skip | (with_reducible refine qv (by decide) ?_))
  refine za (valloc (z:=.int .i64 0) (by kernel_rfl) ?_);intro b8 w13 n13;simp only [Nat.reduceAdd,qn];go_wp2_with (first | go_skip | (with_reducible refine qv (by decide) ?_))
  refine za (zc rfl (zd (v:=.int .i64 (n:Int)) (n:=1) (by kernel_rfl) (by rfl) (by rfl) n13.blk (by rfl) (by simp [Value.cells]) (by simp [Value.cells,Value.oneCell'])) ?_);intro w14 s14;simp only [Nat.reduceAdd,qn];have B8:=qq s14.blk;have G8:Hid (w12.heap.size <= b8 /\ b8 < w14.heap.size):=qq ⟨n13.ge,lt_of_block s14.blk⟩;have K1214:Hid (Keeps Nb w12 w14):=qq (n13.k.own (k:=b8) n13.ge s14.k);have B64:=qq (K1214.out.nb B6.out);have B74:=qq (K1214.out.nb B7.out);have B24:=qq (K1214.out.nb (K112.out.nb B2.out));have B34:=qq (K1214.out.nb (K112.out.nb B3.out));clear n13 s14 c6 iw B6 B7;have c7:w14.cell? ⟨b7,0,none⟩=some (.int .i64 f):=(cell_of_block B74.out).trans rfl;have c8:w14.cell? ⟨b8,0,none⟩=some (.int .i64 (n:Int)):=(cell_of_block B8.out).trans rfl;by_cases hf0:f=0
  ·
   subst hf0;have hs:=HNX.out.2.1 rfl;have HS1:=qq hs;clear hs;by_cases hov:2147483647 < n
   ·
    have i1:(2147483647:Int) < (n:Int):=by omega
    have hte:Hid (turnE L.name X=5):=qq (by unfold turnE mxn;rw [if_pos (by have:=HS1.out;have:=HSN.out;omega)]);have hs4:s <= 4294967295:=by omega
    have HS4:=qq hs4;clear hov hn31 hs4;go_wp2_with (first | go_skip | (with_reducible refine qv (by decide) ?_))
    refine za (zc rfl (zd (v:=.int .i64 5) (n:=1) (by kernel_rfl) (by rfl) (by rfl) B74.out (by rfl) (by simp [Value.cells,splice]) (by simp [Value.cells,Value.oneCell'])) ?_);intro w15 s15;simp only [Nat.reduceAdd,qn];have hne7:b8 ≠ b7 /\ b6 ≠ b7 /\ b2 ≠ b7 /\ b3 ≠ b7:=by have:=G6.out;have:=G8.out;have:=G2.out;have:=lt_of_block B74.out;omega
    have B85:=qq (s15.k.at B8.out hne7.1);have B65:=qq (s15.k.at B64.out hne7.2.1);have B25:=qq (s15.k.at B24.out hne7.2.2.1);have B35:=qq (s15.k.at B34.out hne7.2.2.2);have B75:=qq s15.blk;have K115:Hid (Keeps Nb w1 w15):=qq ((K112.out.trans_nb K1214.out).own (k:=b7) (by have:=G6.out;omega) s15.k);clear s15 hne7 c7 c8 i1;have KA:Hid (Keeps Nb w1 w15):=K115;have HA:=qq (H1.out.nb KA.out);have KW:=qq (K1.out.trans_nb KA.out)
    have NOF:Hid (((¬ Fd b2 /\ ¬ FL b2) /\ (¬ Fd b3 /\ ¬ FL b3) /\ (¬ Fd b8 /\ ¬ FL b8)) /\ (¬ Fd b6 /\ ¬ FL b6) /\ (¬ Fd b7 /\ ¬ FL b7) /\ b2 ≠ l /\ b3 ≠ l /\ b8 ≠ l):=qq (by
     have h1:=G2.out;have h2:=G6.out;have h4:=G8.out;have h3:=H.out.ltF l H.out.fl;have h5:=K112.out.size
     exact ⟨⟨zq H.out (by omega),zq H.out (by omega),zq H.out (by omega)⟩,zq H.out (by omega),zq H.out (by omega),by omega,by omega,by omega⟩)
    have hP:TuP l s n b2 b3 b6 b7 b8 (5:Int) (.slice va m vc) bs w15 Fd FL:=⟨⟨B25.out,NOF.out.1.1⟩,⟨B65.out,NOF.out.2.1⟩,⟨B85.out,NOF.out.1.2.2⟩,⟨B75.out,NOF.out.2.2.1⟩,⟨⟨B35.out,NOF.out.1.2.1⟩,(Bytes.keeps HB.out KW.out (fun _ _ e=>e)).mono (fun k hk=>⟨Nat.lt_of_lt_of_le hk.1 KW.out.size,hk.2⟩)⟩⟩
    have HP2:=qq hP;have c2:w15.cell? ⟨b2,0,none⟩=some (.pointer (some ⟨l,0,none⟩)):=(cell_of_block B25.out).trans rfl;clear hP;go_wp2_with (first | go_skip | (with_reducible refine qv (by decide) ?_))
    refine za (zi rfl (zl el138 ((tuF b2 b3 b6 b7 b8).map Fv.v) rfl (by simp [List.range'_succ];first | done | rfl | exact ⟨rfl,rfl⟩ | exact ⟨rfl,rfl,rfl⟩ | exact ⟨rfl,rfl,rfl,rfl⟩ | exact ⟨rfl,rfl,rfl,rfl,rfl⟩ | exact ⟨rfl,rfl,rfl,rfl,rfl,rfl⟩) (by simp [Value.cells,tuF,Fv.v]) (by simp [tuF])) ?_);rintro _ wS ⟨b20,rfl,nS⟩;simp only [Nat.reduceAdd,qn];have hrow:Has wS (some ⟨b20,0,none⟩) ((tuF b2 b3 b6 b7 b8).map Fv.v):=zt nS.blk;have KS:=qq nS.k;have hbl:bs.length <= mxr:=by rw [HM.out];exact hmx
    have AR:=qq (z16 (n:=6) (z1i l s n b2 b3 b6 b7 b8 (5:Int) (.slice va m vc) bs) (tu_l l d s n b2 b3 b6 b7 b8 (5:Int) L va m vc bs (by have:=HS4.out;omega) (by have:=HS4.out;have:=HSN.out;omega) hbl) (HA.out.nb nS.k) ((HV1.out.nb KA.out).nb nS.k) (z1i l s n b2 b3 b6 b7 b8 (5:Int) (.slice va m vc) bs _ _ _ _ _ _ HP2.out nS.k.of_nb (fun _ _ e=>e) (fun _ _ e=>e)) rfl (by omega) (by have:=HP.out;simpa using this) hrow (zq HA.out nS.ge));clear hrow nS c2 hbl;go_wp2_with fail;refine AR.out.mono ?_;rintro _ wT ⟨er,Y,L',rfl,hnow,hask,hL',hpot⟩;have HASK:=qq hask;have HL':=qq hL';have HPO:=qq hpot;clear AR hask hL' hpot;have he:er ≠ 0:=(z1q (l':=[]) (by decide) HASK.out).2;have HE:=qq he;have e2:L'={ L with bad:=true }:=by rw [HL'.out,if_neg he]
    subst e2;have F:Hid (LNow w wT l d Fd Rd FL RL { L with bad:=true } Y):=qq ((hnow.from KS.out).from KW.out);have t9:(er != 0)=true:=by simpa using he
    have hor:askO [syO L.seg,erO (turnE L.name X),putO (snf L.name (nx L.name X + 1)) bs,mkO (sgf L.name (nx L.name X + 2)),manO L.name (nx L.name X + 1) (nx L.name X + 2),sweepO L.name (nx L.name X + 1) (nx L.name X + 2)] X er Y:=by rw [hte.out];exact (z1q (by decide) HASK.out).1
    have HO:=qq hor;clear he hor hnow;go_wp2;go_ret;exact ⟨er,_,Y,rfl,F.out,.inr ⟨by rw [HM.out];exact HF0.out,HO.out,.inl ⟨HE.out,rfl⟩⟩,by have:=HPO.out;simpa using this⟩
   ·
    have i1:(n:Int) <= 2147483647:=by omega
    have hte:Hid (turnE L.name X=0):=qq (by unfold turnE mxn;rw [if_neg (by have:=HS1.out;have:=HSN.out;omega)]);have hs4:s <= 4294967295:=by omega
    have hn4:n <= 2147483647:=by omega
    have HS4:=qq hs4;have HN4:=qq hn4;have K114:Hid (Keeps Nb w1 w14):=qq (K112.out.trans_nb K1214.out);clear hov hn31 hs4 hn4;have KA:Hid (Keeps Nb w1 w14):=K114;have HA:=qq (H1.out.nb KA.out);have KW:=qq (K1.out.trans_nb KA.out)
    have NOF:Hid (((¬ Fd b2 /\ ¬ FL b2) /\ (¬ Fd b3 /\ ¬ FL b3) /\ (¬ Fd b8 /\ ¬ FL b8)) /\ (¬ Fd b6 /\ ¬ FL b6) /\ (¬ Fd b7 /\ ¬ FL b7) /\ b2 ≠ l /\ b3 ≠ l /\ b8 ≠ l):=qq (by
     have h1:=G2.out;have h2:=G6.out;have h4:=G8.out;have h3:=H.out.ltF l H.out.fl;have h5:=K112.out.size
     exact ⟨⟨zq H.out (by omega),zq H.out (by omega),zq H.out (by omega)⟩,zq H.out (by omega),zq H.out (by omega),by omega,by omega,by omega⟩)
    have hP:TuP l s n b2 b3 b6 b7 b8 (0:Int) (.slice va m vc) bs w14 Fd FL:=⟨⟨B24.out,NOF.out.1.1⟩,⟨B64.out,NOF.out.2.1⟩,⟨B8.out,NOF.out.1.2.2⟩,⟨B74.out,NOF.out.2.2.1⟩,⟨⟨B34.out,NOF.out.1.2.1⟩,(Bytes.keeps HB.out KW.out (fun _ _ e=>e)).mono (fun k hk=>⟨Nat.lt_of_lt_of_le hk.1 KW.out.size,hk.2⟩)⟩⟩
    have HP2:=qq hP;have c2:w14.cell? ⟨b2,0,none⟩=some (.pointer (some ⟨l,0,none⟩)):=(cell_of_block B24.out).trans rfl;clear hP;go_wp2_with (first | go_skip | (with_reducible refine qv (by decide) ?_))
    refine za (zi rfl (zl el138 ((tuF b2 b3 b6 b7 b8).map Fv.v) rfl (by simp [List.range'_succ];first | done | rfl | exact ⟨rfl,rfl⟩ | exact ⟨rfl,rfl,rfl⟩ | exact ⟨rfl,rfl,rfl,rfl⟩ | exact ⟨rfl,rfl,rfl,rfl,rfl⟩ | exact ⟨rfl,rfl,rfl,rfl,rfl,rfl⟩) (by simp [Value.cells,tuF,Fv.v]) (by simp [tuF])) ?_);rintro _ wS ⟨b20,rfl,nS⟩;simp only [Nat.reduceAdd,qn];have hrow:Has wS (some ⟨b20,0,none⟩) ((tuF b2 b3 b6 b7 b8).map Fv.v):=zt nS.blk;have KS:=qq nS.k;have hbl:bs.length <= mxr:=by rw [HM.out];exact hmx
    have AR:=qq (z16 (n:=6) (z1i l s n b2 b3 b6 b7 b8 (0:Int) (.slice va m vc) bs) (tu_l l d s n b2 b3 b6 b7 b8 (0:Int) L va m vc bs (by have:=HS4.out;omega) (by have:=HS4.out;have:=HSN.out;omega) hbl) (HA.out.nb nS.k) ((HV1.out.nb KA.out).nb nS.k) (z1i l s n b2 b3 b6 b7 b8 (0:Int) (.slice va m vc) bs _ _ _ _ _ _ HP2.out nS.k.of_nb (fun _ _ e=>e) (fun _ _ e=>e)) rfl (by omega) (by have:=HP.out;simpa using this) hrow (zq HA.out nS.ge));clear hrow nS c2 hbl;go_wp2_with fail;refine AR.out.mono ?_;rintro _ wT ⟨er,Y,L',rfl,hnow,hask,hL',hpot⟩;have HASK:=qq hask;have HL':=qq hL';have HPO:=qq hpot;clear AR hask hL' hpot;have hk14:Keeps (fun k=>Fd k \/ FL k) wS wT:=by obtain ⟨_,_,_,_,_,_,_,_,_,hk⟩:=hnow;exact hk
    have B2T:=qq (hk14.at (KS.out.nb B24.out) (fun e=>e.elim NOF.out.1.1.1 NOF.out.1.1.2));have B3T:=qq (hk14.at (KS.out.nb B34.out) (fun e=>e.elim NOF.out.1.2.1.1 NOF.out.1.2.1.2));have B8T:=qq (hk14.at (KS.out.nb B8.out) (fun e=>e.elim NOF.out.1.2.2.1 NOF.out.1.2.2.2));have HBT:Hid (Bytes wT (Out w Fd FL) (.slice va m vc) bs):=qq ((Bytes.keeps HB.out (KW.out.trans_nb KS.out) (fun _ _ e=>e)).keeps hk14 (fun k hk e=>e.elim hk.2.1 hk.2.2));have hnow1:=(hnow.from KS.out).from KW.out;obtain ⟨Fd',Rd',FL',RL',g1,g2,g3,g4,g5,g6⟩:=hnow1;obtain ⟨sv3,lv3,vs3,q1,q2,q3,q4⟩:=g1.ex;have Q1:=qq q1;have HG1:=qq g1;have HR:=qq (And.intro g2 (And.intro g3 (And.intro g4 (And.intro g5 g6))));clear g1 g2 g3 g4 g5 g6 q1 q2 q3 q4 hk14 B24 B34 B64 B74 B8 c8 c7;by_cases he:er=0
    ·
     subst he;have e2:L'=L:=by rw [HL'.out,if_pos rfl]
     subst e2
     have hor:Hid (askO [syO L'.seg,erO (turnE L'.name X),putO (snf L'.name (nx L'.name X + 1)) bs,mkO (sgf L'.name (nx L'.name X + 2)),manO L'.name (nx L'.name X + 1) (nx L'.name X + 2),sweepO L'.name (nx L'.name X + 1) (nx L'.name X + 2)] X 0 Y):=qq (by
      have e1:nx L'.name X + 1=s:=HS1.out.symm;have e2:nx L'.name X + 2=n:=by have:=HSN.out;omega
      rw [hte.out,e1,e2];exact HASK.out)
     clear hnow;go_wp2;refine WT.region (fun u=>u.cell? ⟨b2,0,none⟩=some (.pointer (some ⟨l,0,none⟩)) /\ u.cell? ⟨b3,0,none⟩=some (.slice va m vc)) 15 18 [0,1,2,3,4,5,6,7,8,9,10,11,12,13,14,15,16,17] (by kernel_rfl) rfl ?_;have K0:Hid (Keeps Nb wT wT.drew):=qq (Keeps.refl _ wT).drew;have HS:Hid ((fun u:World=>u.cell? ⟨b2,0,none⟩=some (.pointer (some ⟨l,0,none⟩)) /\ u.cell? ⟨b3,0,none⟩=some (.slice va m vc)) wT.drew):=qq ⟨(cell_of_block (w:=wT.drew) B2T.out).trans rfl,(cell_of_block (w:=wT.drew) B3T.out).trans rfl⟩;have CA:=qq (z2u (.slice va m vc) bs _ wT.drew (HBT.out.keeps K0.out (fun _ _ e=>e)) (by rw [HM.out];unfold mxr at hmx;omega));refine WT.t 0 (v:=.pointer (some ⟨l,0,none⟩)) (y:=by rintro w ⟨C1,C2⟩;exact zb (by kernel_rfl) (by rfl) C1) (s:=HS.out) (h:=?_);refine WT.t 1 (v:=.pointer (some ⟨l,0,none⟩)) (y:=by rintro w ⟨C1,C2⟩;exact zb (by kernel_rfl) (by rfl) C1) (s:=HS.out) (h:=?_);refine WT.t 2 (v:=.pointer (some ⟨l,0,none⟩)) (y:=by rintro w ⟨C1,C2⟩;exact zb (by kernel_rfl) (by rfl) C1) (s:=HS.out) (h:=?_);refine WT.t 3 (v:=.pointer (some ⟨l,0,none⟩)) (y:=by rintro w ⟨C1,C2⟩;exact zb (by kernel_rfl) (by rfl) C1) (s:=HS.out) (h:=?_);refine WT.t 4 (v:=.slice va m vc) (y:=by rintro w ⟨C1,C2⟩;exact zb (by kernel_rfl) (by rfl) C2) (s:=HS.out) (h:=?_);refine WT.call 5 (by simp only [qi];rfl) (by kernel_rfl) (by rfl) (by go_simp;first | done | rfl | exact ⟨⟨rfl,rfl⟩,rfl⟩ | exact ⟨⟨rfl,rfl,rfl⟩,rfl⟩ | exact ⟨⟨rfl,rfl,rfl,rfl⟩,rfl⟩ | exact ⟨⟨rfl,rfl,rfl,rfl,rfl⟩,rfl⟩) CA.out ?_;rintro _ wU ⟨cv,rfl,hco,kU⟩;have KU:Hid (Keeps Nb wT wU):=qq (K0.out.trans_nb kU);have HCV:Hid (Bytes wU (fun k=>(wT.heap.size <= k /\ k < wU.heap.size) /\ IsT wU 5 k) cv bs):=qq (z0m hco (by obtain ⟨_,_,_,_,_,_,hlt,_⟩:=HBT.out;exact hlt));obtain ⟨ca,cc,rfl,-⟩:=id HCV.out;rw [HM.out] at HCV ⊢;clear hco kU CA;have B2U:=qq (KU.out.nb B2T.out);have B3U:=qq (KU.out.nb B3T.out);have B8U:=qq (KU.out.nb B8T.out);have QU:=qq (KU.out.nb Q1.out);replace HS:Hid ((fun u:World=>u.cell? ⟨b2,0,none⟩=some (.pointer (some ⟨l,0,none⟩)) /\ u.cell? ⟨b3,0,none⟩=some (.slice va m vc)) wU):=qq ⟨(cell_of_block B2U.out).trans rfl,(cell_of_block B3U.out).trans rfl⟩;refine ⟨_,rfl,HS.out,?_⟩;simp only [Nat.reduceAdd,qn];refine WT.t 6 (v:=_) (y:=by rintro w ⟨C1,C2⟩;go_simp;with_reducible rfl) (s:=HS.out) (h:=?_);refine WT.t 7 (v:=_) (y:=by rintro w ⟨C1,C2⟩;go_simp;with_reducible rfl) (s:=HS.out) (h:=?_);refine WT.onlySkipE 8 (by simp only [qi];rfl) (by kernel_rfl) (by rfl) (zd (v:=.slice ca m cc) (n:=1) (by kernel_rfl) (by rfl) (by rfl) QU.out (by rfl) (by simp [Value.cells,lcs]) (by simp [Value.cells,Value.oneCell'])) ?_;intro wa sa;have B2a:=qq (sa.k.at B2U.out NOF.out.2.2.2.1);have B3a:=qq (sa.k.at B3U.out NOF.out.2.2.2.2.1);have B8a:=qq (sa.k.at B8U.out NOF.out.2.2.2.2.2);replace HS:Hid ((fun u:World=>u.cell? ⟨b2,0,none⟩=some (.pointer (some ⟨l,0,none⟩)) /\ u.cell? ⟨b3,0,none⟩=some (.slice va m vc)) wa):=qq ⟨(cell_of_block B2a.out).trans rfl,(cell_of_block B3a.out).trans rfl⟩;refine ⟨HS.out,?_⟩;simp only [Nat.reduceAdd,qn];refine WT.t 9 (v:=_) (y:=by rintro w ⟨C1,C2⟩;go_simp;with_reducible rfl) (s:=HS.out) (h:=?_);refine WT.t 10 (v:=_) (y:=by rintro w ⟨C1,C2⟩;go_simp;with_reducible rfl) (s:=HS.out) (h:=?_);refine WT.onlySkipE 11 (by simp only [qi];rfl) (by kernel_rfl) (by rfl) (zd (v:=.bool true) (n:=1) (by kernel_rfl) (by rfl) (by rfl) sa.blk (by rfl) (by simp [Value.cells,lcs,splice]) (by simp [Value.cells,Value.oneCell'])) ?_;intro wb sb;have B2b:=qq (sb.k.at B2a.out NOF.out.2.2.2.1);have B3b:=qq (sb.k.at B3a.out NOF.out.2.2.2.2.1);have B8b:=qq (sb.k.at B8a.out NOF.out.2.2.2.2.2);replace HS:Hid ((fun u:World=>u.cell? ⟨b2,0,none⟩=some (.pointer (some ⟨l,0,none⟩)) /\ u.cell? ⟨b3,0,none⟩=some (.slice va m vc)) wb):=qq ⟨(cell_of_block B2b.out).trans rfl,(cell_of_block B3b.out).trans rfl⟩;refine ⟨HS.out,?_⟩;simp only [Nat.reduceAdd,qn];refine WT.t 12 (v:=_) (y:=by rintro w ⟨C1,C2⟩;go_simp;with_reducible rfl) (s:=HS.out) (h:=?_);refine WT.t 13 (v:=_) (y:=by rintro w ⟨C1,C2⟩;go_simp;with_reducible rfl) (s:=HS.out) (h:=?_);refine WT.onlySkipE 14 (by simp only [qi];rfl) (by kernel_rfl) (by rfl) (zd (v:=.slice none 0 0) (n:=1) (by kernel_rfl) (by rfl) (by rfl) sb.blk (by rfl) (by simp [Value.cells,lcs,splice]) (by simp [Value.cells,Value.oneCell'])) ?_;intro wc sc;have B2c:=qq (sc.k.at B2b.out NOF.out.2.2.2.1);have B3c:=qq (sc.k.at B3b.out NOF.out.2.2.2.2.1);have B8c:=qq (sc.k.at B8b.out NOF.out.2.2.2.2.2);replace HS:Hid ((fun u:World=>u.cell? ⟨b2,0,none⟩=some (.pointer (some ⟨l,0,none⟩)) /\ u.cell? ⟨b3,0,none⟩=some (.slice va m vc)) wc):=qq ⟨(cell_of_block B2c.out).trans rfl,(cell_of_block B3c.out).trans rfl⟩;refine ⟨HS.out,?_⟩;simp only [Nat.reduceAdd,qn];refine WT.stop (by kernel_rfl) ?_;refine WP.o 15 (v:=_) (y:=by go_simp;first | with_reducible rfl | exact ⟨rfl,rfl⟩) (h:=?_);refine WP.o 16 (v:=_) (y:=by go_simp;first | with_reducible rfl | exact ⟨rfl,rfl⟩) (h:=?_);refine WP.onlySkipE 17 (by simp only [qi];rfl) (by kernel_rfl) (by rfl) (zd (v:=.int .i64 0) (n:=1) (by kernel_rfl) (by rfl) (by rfl) sc.blk (by rfl) (by simp [Value.cells,lcs,splice]) (by simp [Value.cells,Value.oneCell'])) ?_;intro wd sd;simp only [Nat.reduceAdd,qn];refine WP.done (by kernel_rfl) ?_;have B2d:=qq (sd.k.at B2c.out NOF.out.2.2.2.1);have B8d:=qq (sd.k.at B8c.out NOF.out.2.2.2.2.2);have SD:Hid (SetAt wU wd l (.cells (lcs d (.slice ca m cc) (.slice none 0 0) { L' with snap:=bs,has:=true,recs:=[],synced:=0 }) 78 (0,0))):=qq ⟨sd.blk,((sa.k.trans sb.k (fun _ _ e=>e)).trans sc.k (fun _ _ e=>e)).trans sd.k (fun _ _ e=>e)⟩;clear sa sb sc sd HS B2a B3a B8a B2b B3b B8b B2c B3c B8c;go_wp2;refine WT.region (fun u=>u.cell? ⟨b2,0,none⟩=some (.pointer (some ⟨l,0,none⟩)) /\ u.cell? ⟨b8,0,none⟩=some (.int .i64 (n:Nat))) 15 18 [0,1,2,3,4,5,6,7,8,9,10,11,12,13,14,15,16,17] (by kernel_rfl) rfl ?_;have HS:Hid ((fun u:World=>u.cell? ⟨b2,0,none⟩=some (.pointer (some ⟨l,0,none⟩)) /\ u.cell? ⟨b8,0,none⟩=some (.int .i64 (n:Nat))) wd.drew):=qq ⟨(cell_of_block (w:=wd.drew) B2d.out).trans rfl,(cell_of_block (w:=wd.drew) B8d.out).trans rfl⟩;refine WT.t 0 (v:=.pointer (some ⟨l,0,none⟩)) (y:=by rintro w ⟨C1,C2⟩;exact zb (by kernel_rfl) (by rfl) C1) (s:=HS.out) (h:=?_);refine WT.t 1 (v:=.pointer (some ⟨l,0,none⟩)) (y:=by rintro w ⟨C1,C2⟩;exact zb (by kernel_rfl) (by rfl) C1) (s:=HS.out) (h:=?_);refine WT.t 2 (v:=.pointer (some ⟨l,0,none⟩)) (y:=by rintro w ⟨C1,C2⟩;exact zb (by kernel_rfl) (by rfl) C1) (s:=HS.out) (h:=?_);refine WT.t 3 (v:=.pointer (some ⟨l,0,none⟩)) (y:=by rintro w ⟨C1,C2⟩;exact zb (by kernel_rfl) (by rfl) C1) (s:=HS.out) (h:=?_);refine WT.t 4 (v:=.int .i64 (n:Nat)) (y:=by rintro w ⟨C1,C2⟩;exact zb (by kernel_rfl) (by rfl) C2) (s:=HS.out) (h:=?_);refine WT.t 5 (v:=.int .i64 (n:Nat)) (y:=by rintro w ⟨C1,C2⟩;exact zb (by kernel_rfl) (by rfl) C2) (s:=HS.out) (h:=?_);refine WT.t 6 (v:=_) (y:=by rintro w ⟨C1,C2⟩;go_simp;with_reducible rfl) (s:=HS.out) (h:=?_);refine WT.t 7 (v:=_) (y:=by rintro w ⟨C1,C2⟩;go_simp;with_reducible rfl) (s:=HS.out) (h:=?_);refine WT.onlySkipE 8 (by simp only [qi];rfl) (by kernel_rfl) (by rfl) (zd (w:=wd.drew) (v:=.int .i64 (n:Nat)) (n:=1) (by kernel_rfl) (by rfl) (by rfl) SD.out.blk (by rfl) (by simp [Value.cells,lcs,splice]) (by simp [Value.cells,Value.oneCell'])) ?_;intro we swe;have B2we:=qq (swe.k.at (w:=wd.drew) B2d.out NOF.out.2.2.2.1);have B8we:=qq (swe.k.at (w:=wd.drew) B8d.out NOF.out.2.2.2.2.2);replace HS:Hid ((fun u:World=>u.cell? ⟨b2,0,none⟩=some (.pointer (some ⟨l,0,none⟩)) /\ u.cell? ⟨b8,0,none⟩=some (.int .i64 (n:Nat))) we):=qq ⟨(cell_of_block B2we.out).trans rfl,(cell_of_block B8we.out).trans rfl⟩;refine ⟨HS.out,?_⟩;simp only [Nat.reduceAdd,qn];refine WT.t 9 (v:=_) (y:=by rintro w ⟨C1,C2⟩;go_simp;with_reducible rfl) (s:=HS.out) (h:=?_);refine WT.t 10 (v:=_) (y:=by rintro w ⟨C1,C2⟩;go_simp;with_reducible rfl) (s:=HS.out) (h:=?_);refine WT.onlySkipE 11 (by simp only [qi];rfl) (by kernel_rfl) (by rfl) (zd (v:=.int .i64 (n:Nat)) (n:=1) (by kernel_rfl) (by rfl) (by rfl) swe.blk (by rfl) (by simp [Value.cells,lcs,splice]) (by simp [Value.cells,Value.oneCell'])) ?_;intro wf swf;have B2wf:=qq (swf.k.at B2we.out NOF.out.2.2.2.1);have B8wf:=qq (swf.k.at B8we.out NOF.out.2.2.2.2.2);replace HS:Hid ((fun u:World=>u.cell? ⟨b2,0,none⟩=some (.pointer (some ⟨l,0,none⟩)) /\ u.cell? ⟨b8,0,none⟩=some (.int .i64 (n:Nat))) wf):=qq ⟨(cell_of_block B2wf.out).trans rfl,(cell_of_block B8wf.out).trans rfl⟩;refine ⟨HS.out,?_⟩;simp only [Nat.reduceAdd,qn];refine WT.t 12 (v:=_) (y:=by rintro w ⟨C1,C2⟩;go_simp;with_reducible rfl) (s:=HS.out) (h:=?_);refine WT.t 13 (v:=_) (y:=by rintro w ⟨C1,C2⟩;go_simp;with_reducible rfl) (s:=HS.out) (h:=?_);refine WT.onlySkipE 14 (by simp only [qi];rfl) (by kernel_rfl) (by rfl) (zd (v:=.int .i64 1) (n:=1) (by kernel_rfl) (by rfl) (by rfl) swf.blk (by rfl) (by simp [Value.cells,lcs,splice]) (by simp [Value.cells,Value.oneCell'])) ?_;intro wg swg;have B2wg:=qq (swg.k.at B2wf.out NOF.out.2.2.2.1);have B8wg:=qq (swg.k.at B8wf.out NOF.out.2.2.2.2.2);replace HS:Hid ((fun u:World=>u.cell? ⟨b2,0,none⟩=some (.pointer (some ⟨l,0,none⟩)) /\ u.cell? ⟨b8,0,none⟩=some (.int .i64 (n:Nat))) wg):=qq ⟨(cell_of_block B2wg.out).trans rfl,(cell_of_block B8wg.out).trans rfl⟩;refine ⟨HS.out,?_⟩;simp only [Nat.reduceAdd,qn];refine WT.stop (by kernel_rfl) ?_;refine WP.o 15 (v:=_) (y:=by go_simp;first | with_reducible rfl | exact ⟨rfl,rfl⟩) (h:=?_);refine WP.o 16 (v:=_) (y:=by go_simp;first | with_reducible rfl | exact ⟨rfl,rfl⟩) (h:=?_);refine WP.onlySkipE 17 (by simp only [qi];rfl) (by kernel_rfl) (by rfl) (zd (v:=.int .i64 0) (n:=1) (by kernel_rfl) (by rfl) (by rfl) swg.blk (by rfl) (by simp [Value.cells,lcs,splice]) (by simp [Value.cells,Value.oneCell'])) ?_;intro wh swh;simp only [Nat.reduceAdd,qn];refine WP.done (by kernel_rfl) ?_;have SH:Hid (SetAt wU wh l (.cells (lcs d (.slice ca m cc) (.slice none 0 0) { L' with snap:=bs,has:=true,recs:=[],synced:=0,first:=n,segment:=n,segments:=1,size:=0 }) 78 (0,0))):=qq ⟨swh.blk,(((SD.out.k.drew.trans swe.k (fun _ _ e=>e)).trans swf.k (fun _ _ e=>e)).trans swg.k (fun _ _ e=>e)).trans swh.k (fun _ _ e=>e)⟩;clear swe swf swg swh HS;have hg:LgAt wh l d Fd' Rd' (fun k=>FL' k \/ (wT.heap.size <= k /\ k < wU.heap.size /\ IsT wU 22 k)) (fun k=>RL' k \/ (wT.heap.size <= k /\ k < wU.heap.size /\ IsT wU 5 k)) { L' with snap:=bs,has:=true,recs:=[],synced:=0,first:=n,segment:=n,segments:=1,size:=0 } Y:=by
      have hh:=HG1.out.nums;refine LgAt.put (w0:=wT) (vs:=[]) HG1.out KU.out.size (HG1.out.disk.nb KU.out) ⟨_,QU.out⟩ SH.out ?_ HG1.out.lt6 ⟨hh.name,hh.n16,hh.most,(by have:=HN4.out;show n <= _;omega),(by have:=HN4.out;show n <= _;omega),(by show 1 <= 1000000;omega),Nat.zero_le _,(fun b hb=>by cases hb),Nat.zero_le _,(by show bs.length <= _;rw [HM.out];exact hmx)⟩ ?_ (RowS.nil _ _ _ _ _) (.nil _ _)
      ·exact fun k e=>e.elim (HG1.out.disk.ltF k) fun e=>e.elim (HG1.out.disk.ltR k) fun e=>e.elim (HG1.out.ltF k) (HG1.out.ltR k)
      ·exact HCV.out.mono fun k hk=>.inr ⟨hk.1.1,hk.1.2,hk.2⟩
     have zU:=KU.out.size;have z1:w.heap.size <= wT.heap.size:=HR.out.2.2.2.2.size
     have F:Hid (LNow w wh l d Fd Rd FL RL { L' with snap:=bs,has:=true,recs:=[],synced:=0,first:=n,segment:=n,segments:=1,size:=0 } Y):=qq (by
      obtain ⟨g2,g3,g4,g5,g6⟩:=HR.out
      exact ⟨Fd',Rd',_,_,hg,g2,g3,fun k e=>e.elim (g4 k) (fun e=>.inr (by omega)),fun k e=>e.elim (g5 k) (fun e=>.inr (by omega)),(g6.trans_nb KU.out).trans SH.out.k (fun j hj e=>by
       have e:j=l:=e;subst e
       exact .inr H.out.fl)⟩)
     clear hg zU z1;go_wp2;go_ret;refine ⟨0,_,Y,rfl,F.out,.inr ⟨by rw [HM.out];exact HF0.out,hor.out,.inr ⟨rfl,?_⟩⟩,by have:=HPO.out;simpa using this⟩;have e2:nx L'.name X + 2=n:=by have:=HSN.out;have:=HS1.out;omega
     rw [e2]
    ·
     skip
     have he:er ≠ 0:=he;have HE:=qq he;have e2:L'={ L with bad:=true }:=by rw [HL'.out,if_neg he]
     subst e2;have F:Hid (LNow w wT l d Fd Rd FL RL { L with bad:=true } Y):=qq ((hnow.from KS.out).from KW.out);have t9:(er != 0)=true:=by simpa using he
     have hor:askO [syO L.seg,erO (turnE L.name X),putO (snf L.name (nx L.name X + 1)) bs,mkO (sgf L.name (nx L.name X + 2)),manO L.name (nx L.name X + 1) (nx L.name X + 2),sweepO L.name (nx L.name X + 1) (nx L.name X + 2)] X er Y:=by have e1:nx L.name X + 1=s:=HS1.out.symm;have e2:nx L.name X + 2=n:=(by have:=HSN.out;omega);rw [hte.out,e1,e2];exact HASK.out
     have HO:=qq hor;clear he hor hnow;go_wp2;go_ret;exact ⟨er,_,Y,rfl,F.out,.inr ⟨by rw [HM.out];exact HF0.out,HO.out,.inl ⟨HE.out,rfl⟩⟩,by have:=HPO.out;simpa using this⟩
  ·
   have t7:(f == 0)=false:=by simpa using hf0
   have K114:Hid (Keeps Nb w1 w14):=qq (K112.out.trans_nb K1214.out);have HFN:=qq hf0;have hs4:s <= 4294967295:=by omega
   have HS4:=qq hs4;clear hf0 c8 hn31 hs4;have KA:Hid (Keeps Nb w1 w14):=K114;have HA:=qq (H1.out.nb KA.out);have KW:=qq (K1.out.trans_nb KA.out)
   have NOF:Hid (((¬ Fd b2 /\ ¬ FL b2) /\ (¬ Fd b3 /\ ¬ FL b3) /\ (¬ Fd b8 /\ ¬ FL b8)) /\ (¬ Fd b6 /\ ¬ FL b6) /\ (¬ Fd b7 /\ ¬ FL b7) /\ b2 ≠ l /\ b3 ≠ l /\ b8 ≠ l):=qq (by
    have h1:=G2.out;have h2:=G6.out;have h4:=G8.out;have h3:=H.out.ltF l H.out.fl;have h5:=K112.out.size
    exact ⟨⟨zq H.out (by omega),zq H.out (by omega),zq H.out (by omega)⟩,zq H.out (by omega),zq H.out (by omega),by omega,by omega,by omega⟩)
   have hP:TuP l s n b2 b3 b6 b7 b8 f (.slice va m vc) bs w14 Fd FL:=⟨⟨B24.out,NOF.out.1.1⟩,⟨B64.out,NOF.out.2.1⟩,⟨B8.out,NOF.out.1.2.2⟩,⟨B74.out,NOF.out.2.2.1⟩,⟨⟨B34.out,NOF.out.1.2.1⟩,(Bytes.keeps HB.out KW.out (fun _ _ e=>e)).mono (fun k hk=>⟨Nat.lt_of_lt_of_le hk.1 KW.out.size,hk.2⟩)⟩⟩
   have HP2:=qq hP;have c2:w14.cell? ⟨b2,0,none⟩=some (.pointer (some ⟨l,0,none⟩)):=(cell_of_block B24.out).trans rfl;clear hP;go_wp2_with (first | go_skip | (with_reducible refine qv (by decide) ?_))
   refine za (zi rfl (zl el138 ((tuF b2 b3 b6 b7 b8).map Fv.v) rfl (by simp [List.range'_succ];first | done | rfl | exact ⟨rfl,rfl⟩ | exact ⟨rfl,rfl,rfl⟩ | exact ⟨rfl,rfl,rfl,rfl⟩ | exact ⟨rfl,rfl,rfl,rfl,rfl⟩ | exact ⟨rfl,rfl,rfl,rfl,rfl,rfl⟩) (by simp [Value.cells,tuF,Fv.v]) (by simp [tuF])) ?_);rintro _ wS ⟨b20,rfl,nS⟩;simp only [Nat.reduceAdd,qn];have hrow:Has wS (some ⟨b20,0,none⟩) ((tuF b2 b3 b6 b7 b8).map Fv.v):=zt nS.blk;have KS:=qq nS.k;have hbl:bs.length <= mxr:=by rw [HM.out];exact hmx
   have AR:=qq (z16 (n:=6) (z1i l s n b2 b3 b6 b7 b8 f (.slice va m vc) bs) (tu_l l d s n b2 b3 b6 b7 b8 f L va m vc bs (by have:=HS4.out;omega) (by have:=HS4.out;have:=HSN.out;omega) hbl) (HA.out.nb nS.k) ((HV1.out.nb KA.out).nb nS.k) (z1i l s n b2 b3 b6 b7 b8 f (.slice va m vc) bs _ _ _ _ _ _ HP2.out nS.k.of_nb (fun _ _ e=>e) (fun _ _ e=>e)) rfl (by omega) (by have:=HP.out;simpa using this) hrow (zq HA.out nS.ge));clear hrow nS c2 hbl;go_wp2_with fail;refine AR.out.mono ?_;rintro _ wT ⟨er,Y,L',rfl,hnow,hask,hL',hpot⟩;have HASK:=qq hask;have HL':=qq hL';have HPO:=qq hpot;clear AR hask hL' hpot
   have hte:Hid (turnE L.name X=f):=qq (by
    have h1:=HF.out;have h5:f=5:=HNX.out.2.2.resolve_left HFN.out;rw [h5] at h1 ⊢;unfold nxE at h1;split at h1
    ·unfold turnE;rw [if_pos (by omega)]
    ·cases h1)
   have he:er ≠ 0:=(z1q (l':=[]) HFN.out HASK.out).2;have HE:=qq he;have e2:L'={ L with bad:=true }:=by rw [HL'.out,if_neg he]
   subst e2;have F:Hid (LNow w wT l d Fd Rd FL RL { L with bad:=true } Y):=qq ((hnow.from KS.out).from KW.out);have t9:(er != 0)=true:=by simpa using he
   have hor:askO [syO L.seg,erO (turnE L.name X),putO (snf L.name (nx L.name X + 1)) bs,mkO (sgf L.name (nx L.name X + 2)),manO L.name (nx L.name X + 1) (nx L.name X + 2),sweepO L.name (nx L.name X + 1) (nx L.name X + 2)] X er Y:=by rw [hte.out];exact (z1q HFN.out HASK.out).1
   have HO:=qq hor;clear he hor hnow;go_wp2;go_ret;exact ⟨er,_,Y,rfl,F.out,.inr ⟨by rw [HM.out];exact HF0.out,HO.out,.inl ⟨HE.out,rfl⟩⟩,by have:=HPO.out;simpa using this⟩
 ·
  have t9:(f0 != 0)=true:=by simpa using h0
  have HE:=qq h0;have F:Hid (LNow w w1 l d Fd Rd FL RL L X):=qq (LNow.of H1.out K1.out);clear h0 c2 c3;go_wp2;go_ret;exact ⟨f0,L,X,rfl,F.out,.inl ⟨by rw [HM.out,HF0.out];exact HE.out,by rw [HM.out];exact HF0.out.symm,rfl,rfl⟩,by omega⟩
end Go.Proofs.YtpjomdmjohjheaaGreatDoor
end
section
namespace Go.Proofs.YtpjomdmjohjheaaGreatDoor
open Go.RowKit Go.Lk Go.Vfs Go.Log
def RecsAt (w:World) (R:Nat -> Prop) (g:Nat) (rs:List (List Nat)):Prop :=
 ∃ lv vs,w.heap[g]?=some (.cells #[lv] 27 (0,0)) /\ RowS w R (fun _=>False) 22 1 lv rs.length vs /\ BytesL w R vs rs /\ R g
theorem RecsAt.keeps {w w':World} {R S:Nat -> Prop} {g:Nat} {rs:List (List Nat)} (h:RecsAt w R g rs) (hk:Keeps S w w') (hn:∀ k,R k -> ¬ S k):RecsAt w' R g rs:=by
 obtain ⟨lv,vs,h1,h2,h3,h4⟩:=h;exact ⟨lv,vs,hk.at h1 (hn g h4),h2.keeps hk (fun k hk _=>hk.elim (hn k) (fun e=>e.elim)),h3.keeps hk hn,h4⟩
theorem zbg (l d:Nat) (Fd Rd FL RL:Nat -> Prop) (L:Lg) (X:Ds) (w:World) (h:LgAt w l d Fd Rd FL RL L X) :
  Calls Tryz.prog 97 #[.pointer (some ⟨l,0,none⟩)] w fun e w'=>∃ g,e=.returned (.func (.func 137) #[] #[.pointer (some ⟨g,0,none⟩)]) /\ w.heap.size <= g /\ g < w'.heap.size /\ RecsAt w' (fun k=>FL k \/ RL k \/ k=g) g L.recs /\ Keeps Nb w w':=by
 have H:=qq h;clear h;go_enter Tryz.func97,Tryz.ntmps97;go_wp2_with (first | go_skip | (with_reducible refine qv (by decide) ?_))
 refine za (valloc (z:=.slice none 0 0) (by kernel_rfl) ?_);intro g w1 n1;simp only [Nat.reduceAdd,qn];have H1:=H.out.nb n1.k;obtain ⟨sv,lv,vs,q1,q2,q3,q4⟩:=H1.ex;have Q1:=qq q1;have Q3:=qq q3;have Q4:=qq q4;have TH:=qq (z6o ((cell_of_block q1).trans rfl));have c9:w1.cell? ⟨l,9,none⟩=some lv:=(cell_of_block q1).trans rfl;have hgl:g ≠ l:=fun e=>by have:=H.out.ltF l H.out.fl;have:=n1.ge;omega
 obtain ⟨-,-,la,lc,rfl,-⟩:=id q3;clear q1 q2 q3 q4 H1;go_wp2_with fail;refine TH.out.mono ?_;rintro _ _ ⟨rfl,rfl⟩;clear TH;go_wp2_with (first | go_skip | (with_reducible refine qv (by decide) ?_))
 refine za (zc rfl (zd (v:=.slice la L.recs.length lc) (n:=1) (by kernel_rfl) (by rfl) (by rfl) n1.blk (by rfl) (by simp [Value.cells]) (by simp [Value.cells,Value.oneCell'])) ?_);intro w2 s2;simp only [Nat.reduceAdd,qn]
 have F:Hid (w.heap.size <= g /\ g < w2.heap.size /\ RecsAt w2 (fun k=>FL k \/ RL k \/ k=g) g L.recs /\ Keeps Nb w w2):=qq (by
  have hg:=n1.ge;have h1:=H.out.ltF;have h2:=H.out.ltR;refine ⟨hg,lt_of_block s2.blk,⟨_,vs,s2.blk,(Q3.out.keeps s2.k (fun k hk _ e=>?_)).mono (fun k e=>.inl e) (fun k e=>e.elim),(Q4.out.keeps s2.k (fun k hk e=>?_)).mono (fun k e=>.inr (.inl e)),.inr (.inr rfl)⟩,n1.k.own (k:=g) hg s2.k⟩
  ·have e:k=g:=e;subst e;exact hk.elim (fun hk=>by have:=h1 k hk;omega) (fun e=>e.elim)
  ·
   have e:k=g:=e;subst e
   have:=h2 k hk;omega)
 clear n1 s2 c9;go_wp2;go_ret;exact ⟨g,rfl,F.out⟩
attribute [local go_sem] Oper.semAt_some
def HandB (w:World) (rs:List (List Nat)) (i:Nat) (args:Array Value) (W:World):Prop :=
 ∃ x v,rs[i]?=some x /\ args=#[v] /\ W.ownsRow (w.heap.size + 2) 5 1 v x.length (x.map fun z=>.int .u8 (z:Nat))
theorem zd6 (n:Nat) (hn:1 <= n) (g:Nat) (R S:Nat -> Prop) (rs:List (List Nat)) (w:World) (h:RecsAt w R g rs) (hR:Recs rs) (hS:∀ k,R k -> ¬ S k) :
  Iter Tryz.prog n 137 #[.pointer (some ⟨g,0,none⟩)] rs.length (HandB w rs) S w:=by
 intro l J Jx W kW hW2 hJ hJx hY h0;have HA:=qq (h.keeps kW (fun _ _ e=>e));have HKW:=qq kW;have HJ:=qq hJ;have HJX:=qq hJx;have HY:=qq hY;have H0:=qq h0;have HS:=qq hS;have HRR:=qq hR;obtain ⟨m,hm⟩:∃ m,rs.length=m:=⟨_,rfl⟩
 have HM:=qq hm;obtain ⟨lv,vs,q1,q2,q3,q4⟩:=HA.out;obtain ⟨-,-,la,lc,rfl,hlc,hlm,hh,hin,-⟩:=id q2;rw [hm] at hlc hY q1 q2 ⊢;unfold maxLen at hlm;have HH:=qq hh;have HIN:=qq hin;have HB:=qq q3;have c0:W.cell? ⟨g,0,none⟩=some (.slice la m lc):=(cell_of_block q1).trans rfl;clear h hJ hJx hY h0 hS hR q1 q2 q3 hh hin kW;refine callsIn_of_wp Tryz.func137 rfl trivial ?_ rfl;simp only [Tryz.ntmps137,List.size_toArray,List.length_cons,List.length_nil,Nat.reduceAdd,Nat.reduceSub,Array.replicate_succ,Array.replicate_zero,List.push_toArray,List.append_toArray,List.nil_append,List.cons_append]
 gi_wp2
 clear c0
 gi_loopw [7] (fun i wr=>∃ k:Nat,k <= m /\ i=.int .i64 k /\ J k wr /\ Keeps S W wr) (fun i _=>m - (intOf i).toNat)
 case atStart=>exact ⟨0,Nat.zero_le _,rfl,H0.out,Keeps.refl _ _⟩
 case round =>
  obtain ⟨k,hk,rfl,hj,kw⟩:=hrel;by_cases hlt:k < m
  ·
   have i1:(k:Int) < (m:Int):=by omega
   obtain ⟨x,hx⟩:∃ x,rs[k]?=some x:=⟨_,List.getElem?_eq_getElem (by rw [HM.out];exact hlt)⟩
   obtain ⟨v,hv⟩:∃ v,vs[k]?=some v:=⟨_,List.getElem?_eq_getElem (by rw [HB.out.1,HM.out];exact hlt)⟩
   have hxr:=HRR.out x (List.mem_of_getElem? hx);have hbv:=HB.out.2 k v x hv hx;obtain ⟨b1,o1,rfl,c1⟩:∃ b off,la=some ⟨b,off,none⟩ /\ wr.cell? ⟨b,off + k,none⟩=some v:=by
    have hne:vs ≠ []:=by rintro rfl;cases hv
    rcases HH.out with h | ⟨b,off,rfl,hc⟩
    ·exact absurd h hne
    ·have hRb:=(HIN.out b off rfl hne).1;have hc1:=hc k v hv;exact ⟨b,off,rfl,(kw.cell (lt_of_cell hc1) (HS.out b (hRb.elim id (fun e=>e.elim)))).trans hc1⟩
   have HBV:=qq (hbv.keeps kw HS.out);obtain ⟨va,vc,rfl,-⟩:=id hbv;have CA:=qq (z2u (.slice va x.length vc) x R wr HBV.out (by have:=hxr.1;unfold mxr at this;omega));have HX:=qq hx;have HJJ:=qq hj;have KW:=qq kw;clear hx hv hbv hxr hj kw
   repeat (first | (with_reducible refine zg ?_) | (with_reducible refine stop_range ?_) | gi_step)
   refine za (wpIn_wide.2 ?_);go_wp2
   repeat (first | (with_reducible refine zg ?_) | (with_reducible refine stop_range ?_) | gi_step)
   refine za ?_
   gi_wp2_with fail
   refine ⟨trivial,(callsIn_wide.2 CA.out).mono ?_⟩;rintro _ w6 ⟨v',rfl,hown,k6⟩;have q7:Keeps Nb wr w6:=k6;have hown7:w6.ownsRow (w.heap.size + 2) 5 1 v' x.length (x.map fun z=>.int .u8 (z:Nat)):=z3b hown (by have:=KW.out.size;have:=HKW.out.size;omega);obtain ⟨fn,tmps,assign,body,hy,hR⟩:=HY.out k #[v'] w6 (HJ.out _ _ _ HJJ.out q7) (by rw [HM.out];exact hlt) ⟨x,v',HX.out,rfl,hown7⟩;have HR:=qq hR;have K6:=qq q7;clear CA hown hown7 hR k6 q7 c1
   gi_wp2
   refine HR.out.mono ?_;rintro e W3 (⟨rfl,hJ3,hk3⟩ | ⟨rfl,hJx3⟩)
   ·
    have KF:Hid (Keeps S W W3):=qq ((KW.out.trans_nb K6.out).trans hk3 (fun i _ e=>e));have HF:=qq hJ3;clear hJ3 hk3
    gi_wp2
    go_roundw
    case rel=>exact ⟨k + 1,by omega,by go_num,HF.out,KF.out⟩
    case measure=>simp [intOf];omega
   ·
    have HF:=qq hJx3;clear hJx3
    gi_wp2
    refine bodyPost_ret (results_none rfl _ _ _) rfl ?_;exact ⟨⟨_,rfl⟩,.inr HF.out⟩
  ·
   have hkl:k=m:=by omega
   subst hkl;have HF:=qq hj;clear hj
   gi_wp2
   go_end0;exact ⟨⟨_,rfl⟩,.inl HF.out⟩
end Go.Proofs.YtpjomdmjohjheaaGreatDoor
end
section
namespace Go.Vfs
open Go.Lk Go.RowKit
def bstr (l:List Nat):ByteArray:=strOfNums (l.map fun x:Nat=>(x:Int))
theorem z8z {P:Program} {w:World} {dst:Option Tmp} {x:Operand} {src t e ty:TypeId} {pos:String} {aft:Array Edge} {gd:Option (Nat × Bool)} {a:Act} {ad:Option Addr} {n c:Nat} {l:List Nat} (hs:P.underlying src=some (.slice e)) (he:P.underlying e=some (.int .u8)) (hd:P.underlying t=some .string)
  (hx:a.eval x=.slice ad n c) (hh:Has w ad (l.map fun x=>Value.int .u8 (x:Nat))) (hl:l.length=n):(execOp a.eval ⟨dst,.convert src t x,ty,pos,aft,gd⟩).run P w=.ok (.value (.string (bstr l))) w:=by
 unfold execOp;rcases hh with h | ⟨b,off,rfl,hc⟩
 ·
  have h0:l=[]:=List.map_eq_nil_iff.1 h;subst h0;simp at hl;subst hl;cases ad with
  | none=>simp only [hx,Sem.run_bind,run_convert_bytes_nil w src e hs he 0 c t hd,Result.andThen_ok,Sem.run_pure];rfl
  | some ad =>
   have hz:(convert src t (.slice (some ad) 0 c)).run P w=.ok (.string (bstr [])) w:=by
    rw [run_convert_bytes_string w src t e _ 0 c hs he hd,run_bytesToString w ad 0 c [] (by simpa using run_loadCells_list (P:=P) w ad [] (by simp))];rfl
   simp only [hx,Sem.run_bind,hz,Result.andThen_ok,Sem.run_pure]
 ·
  have:=run_convert_bytes_arg w src e hs he b off n c (l.map fun x:Nat=>(x:Int)) (by simpa using hl) (fun i hi=>by
   have h1:=hc i (.int .u8 (ntn l i:Nat)) (by rw [List.getElem?_map,List.getElem?_eq_getElem (by omega),z15 (by omega)];rfl);rw [h1]
   simp [ntn,List.getD_eq_getElem?_getD,List.getElem?_eq_getElem (show i < l.length by omega)]) t hd
  simp only [hx,Sem.run_bind,this,Result.andThen_ok,Sem.run_pure];rfl
end Go.Vfs
namespace Go.Proofs.YtpjomdmjohjheaaGreatDoor
open Go.RowKit Go.Lk Go.Vfs Go.Log
attribute [local go_sem] Oper.semAt_some
def Bts (w:World) (g n:Nat):Prop:=∃ cur:Array Value,w.heap[g]?=some (.cells cur 5 (0,0)) /\ n <= cur.size /\ ∀ i,i < n -> ∃ z:Int,cur[i]?=some (.int .u8 z)
theorem Bts.set {w w':World} {g n k:Nat} {cur:Array Value} {z:Int} (h2:n <= cur.size) (h3:∀ i,i < n -> ∃ z:Int,cur[i]?=some (.int .u8 z)) (hk:k < n) (hs:SetAt w w' g (.cells (splice cur #[.int .u8 z] k) 5 (0,0))):Bts w' g n:=by
 have hb:=hs.blk;rw [z6n (by omega)] at hb;refine ⟨_,hb,by simpa using h2,fun i hi=>?_⟩;rw [Array.getElem?_setIfInBounds];split
 ·rename_i e;subst e;rw [if_pos (by omega)];exact ⟨z,rfl⟩
 ·exact h3 i hi
def OnI (w0:World) (b6 b7:Nat) (i:Nat) (W:World):Prop :=
 W.heap[b7]?=some (.cells #[.int .i64 (i:Nat)] 3 (0,0)) /\ W.heap[b6]?=some (.cells #[.bool false] 4 (0,0)) /\ Keeps (fun b=>w0.heap.size <= b \/ b=b6 \/ b=b7) w0 W
theorem OnI.nb {w0 W W':World} {b6 b7 i:Nat} (h:OnI w0 b6 b7 i W) (k:Keeps (Book w0) W W') (h6:b6 < w0.heap.size) (h7:b7 < w0.heap.size):OnI w0 b6 b7 i W':=by
 obtain ⟨e1,e2,e3⟩:=h;have nl:∀ {b:Nat},b < w0.heap.size -> ¬ Book w0 b:=fun h e=>by unfold Book at e;omega
 exact ⟨k.at e1 (nl h7),k.at e2 (nl h6),e3.trans k (fun j hj e=>by unfold Book at e;omega)⟩
def RecsD (w0 w:World) (rs:List (List Nat)) (e:Ending) (w':World):Prop :=
 ∃ g R,e=.returned (.func (.func 137) #[] #[.pointer (some ⟨g,0,none⟩)]) /\ w.heap.size <= g /\ g < w'.heap.size /\ (∀ k,R k -> k < w0.heap.size \/ k=g) /\ RecsAt w' R g rs /\ Keeps Nb w w'
theorem zaf (v:Value) (rs:List (List Nat)) (wa:Option Addr) (wc:Nat) (vs:List Value) (w:World) (hw:RowS w (fun k=>k < w.heap.size) (fun _=>False) 22 1 (.slice wa rs.length wc) rs.length vs) (hb:BytesL w (fun k=>k < w.heap.size) vs rs) (hr:Recs rs) (hn:rs.length <= 4000000000000)
  (hRA:∀ w1,Keeps Nb w w1 -> Calls Tryz.prog 97 #[v] w1 (RecsD w w1 rs)) :
  Calls Tryz.prog 34 #[v,.slice wa rs.length wc,.int .i64 0] w fun e w'=>e=.returned (.bool true) /\ Keeps Nb w w':=by
 obtain ⟨m,hm⟩:∃ m,rs.length=m:=⟨_,rfl⟩
 have q61:∀ (w:World) (fn:Fn) (a b:Array Value),(binOp .eql 122 (.func fn a b) .nilFunc).run Tryz.prog w=.ok (.bool false) w:=fun w fn a b=>by first | rfl | kernel_rfl
 have HW:=qq hw;have HB:=qq hb;have HR:=qq hr;have HRA:=qq hRA;have HM:=qq hm;have HN:=qq hn;rw [hm];clear hw hb hr hn hRA hm;refine z1j Tryz.func34 rfl ?_;simp only [Tryz.ntmps34,List.size_toArray,List.length_cons,List.length_nil,Nat.reduceAdd,Nat.reduceSub,Array.replicate_succ,Array.replicate_zero,List.push_toArray,List.append_toArray,List.nil_append,List.cons_append];go_wp2_with (first | go_skip | (with_reducible refine qv (by decide) ?_))
 refine za (vbox1 (v:=.slice wa m wc) (by rfl) rfl ?_);intro b4 w1 n1;simp only [Nat.reduceAdd,qn];go_wp2_with (first | go_skip | (with_reducible refine qv (by decide) ?_))
 refine za (vbox1 (v:=.int .i64 0) (by rfl) rfl ?_);intro b5 w2 n2;simp only [Nat.reduceAdd,qn];go_wp2_with (first | go_skip | (with_reducible refine qv (by decide) ?_))
 refine za (valloc (z:=.bool false) (by kernel_rfl) ?_);intro b6 w3 n3;simp only [Nat.reduceAdd,qn];go_wp2_with (first | go_skip | (with_reducible refine qv (by decide) ?_))
 refine za (valloc (z:=.int .i64 0) (by kernel_rfl) ?_);intro b7 w4 n4;simp only [Nat.reduceAdd,qn];go_wp2_with (first | go_skip | (with_reducible refine qv (by decide) ?_))
 refine za (zc rfl (zd (v:=.int .i64 0) (n:=1) (by kernel_rfl) (by rfl) (by rfl) n4.blk (by rfl) (by simp [Value.cells]) (by simp [Value.cells,Value.oneCell'])) ?_);intro w5 s5;simp only [Nat.reduceAdd,qn];have L45:b4 < b5:=by have:=n1.lt;have:=n2.ge;omega
 have L56:b5 < b6:=by have:=n2.lt;have:=n3.ge;omega
 have L67:b6 < b7:=by have:=n3.lt;have:=n4.ge;omega
 have B4:Hid (w5.heap[b4]?=some (.cells #[.slice wa m wc] 27 (0,0))):=qq (s5.k.at (n4.k.nb (n3.k.nb (n2.k.nb n1.blk))) (fun e=>by omega));have B5:Hid (w5.heap[b5]?=some (.cells #[.int .i64 0] 3 (0,0))):=qq (s5.k.at (n4.k.nb (n3.k.nb n2.blk)) (fun e=>by omega));have B6:Hid (w5.heap[b6]?=some (.cells #[.bool false] 4 (0,0))):=qq (s5.k.at (n4.k.nb n3.blk) (fun e=>by omega));have B7:Hid (w5.heap[b7]?=some (.cells #[.int .i64 0] 3 (0,0))):=qq s5.blk;have G4:Hid (w.heap.size <= b4):=qq n1.ge;have K5:Hid (Keeps Nb w w5):=qq ((((n1.k.trans_nb n2.k).trans_nb n3.k).trans_nb n4.k).own (k:=b7) (by have:=n1.ge;omega) s5.k);have RA:=qq (HRA.out w5 K5.out);clear n1 n2 n3 n4 s5 HRA;go_wp2_with fail;refine RA.out.mono ?_;rintro _ w6 ⟨g,R,rfl,hg1,hg2,hR,hra,k6⟩;have K6:=qq (K5.out.trans_nb k6);have hz:=k6.size;have L5:b7 < w5.heap.size:=lt_of_block B7.out;have B46:=qq (k6.nb B4.out);have B56:=qq (k6.nb B5.out);have W6:Hid (OnI w6 b6 b7 0 w6):=qq ⟨k6.nb B7.out,k6.nb B6.out,Keeps.refl _ _⟩
 have OI:=qq (zd6 8 (by omega) g _ (fun b=>w6.heap.size <= b \/ b=b6 \/ b=b7) rs w6 hra HR.out (fun k hk e=>by
  have z1:=K5.out.size;have h3:=G4.out
  rcases hR k hk with hk | hk <;> omega))
 clear hra k6 RA hR B4 B5 B6 B7;go_wp2_with (with_reducible refine z19 ?_)
 refine za ((wpIn_wide (n:=9)).1 ?_)
 refine z2a (gf:=137) (lb:=#[.pointer (some ⟨g,0,none⟩)]) (by rfl) (enters_of Tryz.func137 (by kernel_rfl) rfl) OI.out
  (fun b hb=>.inl (by unfold Book at hb;omega)) (fun i args W h=>by obtain ⟨x,v,-,rfl,-⟩:=h;rfl)
  (fun i W=>OnI w6 b6 b7 i W) (fun _ _=>False)
  (fun i A B h k=>h.nb k (by omega) (by omega)) (fun c A B h=>h.elim) W6.out ?round ?done (fun _ _ h=>h.elim)
 case round =>
  rintro lm i args W rfl hW2 hI hi ⟨x,v',hp,rfl,hv⟩;simp only [List.zip_toArray,List.zip_cons_cons,List.zip_nil_right,List.foldl_toArray,List.foldl_cons,List.foldl_nil,List.setIfInBounds_toArray,List.set_cons_succ,List.set_cons_zero];have hx:=HR.out x (List.mem_of_getElem? hp);have him:i < m:=by rw [<- HM.out];exact hi
  have HIH:=qq hI;have HP:=qq hp;have HV:=qq hv;have HXL:=qq hx.2;clear hI hp hv hx hi
  repeat (first | (with_reducible refine zg ?_) | (with_reducible refine stop_range ?_) | gi_step)
  refine za (zh (by kernel_rfl) (by rintro ⟨_,_,h⟩;exact h) ?_);go_wp2;refine ⟨Keeps.refl _ _,fun W3 k3=>?_⟩;have kB:Keeps (Book w6) W W3:=k3.mono (fun i _ e=>.inr e);obtain ⟨e1,e2,e3⟩:=HIH.out.nb kB (by omega) (by omega);have hv3:W3.ownsRow (w6.heap.size + 2) 5 1 v' x.length (x.map fun z=>.int .u8 (z:Nat)):=z08 HV.out k3 (fun k hk e=>by have e:k=w6.heap.size + 1:=e;omega);have hbx:=z0m hv3 HXL.out;obtain ⟨av,cv,rfl,hlc,hcm,hrd,-⟩:=id hbx;obtain ⟨y,hy⟩:∃ y,vs[i]?=some y:=⟨_,List.getElem?_eq_getElem (by rw [HB.out.1,HM.out];exact him)⟩
  have hby:=HB.out.2 i y x hy HP.out;have HKW:Hid (Keeps (fun b=>w.heap.size <= b) w W3):=qq ((K6.out.of_nb).trans e3 (fun j hj e=>by have:=G4.out;have:=K6.out.size;omega));have hby3:=hby.keeps HKW.out (fun k hk e=>by omega);obtain ⟨ay,cy,rfl,hlc',hcm',hrd',-⟩:=id hby3;unfold maxLen at hcm hcm';have HX:Hid (∀ u:Sub W3,Has u.wd av (x.map fun z=>.int .u8 (z:Nat))):=qq fun u=>(hrd.nb u.k).has;have HY:Hid (∀ u:Sub W3,Has u.wd ay (x.map fun z=>.int .u8 (z:Nat))):=qq fun u=>(hrd'.nb u.k).has;obtain ⟨bw,ow,rfl,hcw⟩:∃ bw ow,wa=some ⟨bw,ow,none⟩ /\ ∀ u:Sub W3,u.wd.cell? ⟨bw,ow + i,none⟩=some (.slice ay x.length cy):=by
   obtain ⟨-,-,a',c',e,-,-,hh,hin,-⟩:=HW.out;cases e;have hne:vs ≠ []:=by rintro rfl;cases hy
   rcases hh with h | ⟨b,off,rfl,hc⟩
   ·exact absurd h hne
   ·have hb:=(hin b off rfl hne).1;have hc1:=hc i _ hy;exact ⟨b,off,rfl,fun u=>(u.k.cell (Nat.lt_of_lt_of_le (lt_of_cell hc1) HKW.out.size) (fun e=>e)).trans ((HKW.out.cell (lt_of_cell hc1) (fun e=>by have h1:=hb.elim id (fun e=>e.elim);have h2:w.heap.size <= b:=e;omega)).trans hc1)⟩
  have c4:∀ u:Sub W3,u.wd.cell? ⟨b4,0,none⟩=some (.slice (some ⟨bw,ow,none⟩) m wc):=fun u=>(cell_of_block (u.k.nb (e3.at B46.out (fun e=>by omega)))).trans rfl;have c7:∀ u:Sub W3,u.wd.cell? ⟨b7,0,none⟩=some (.int .i64 (i:Nat)):=fun u=>(cell_of_block (u.k.nb e1)).trans rfl;have t0:decide (m <= i)=false:=by simp;omega
  have i1:(i:Int) < (m:Int):=by omega
  obtain ⟨bl,hbl⟩:∃ l,bstr x=l:=⟨_,rfl⟩
  have HBL:=qq hbl;have E1:=qq e1;have E2:=qq e2;have E3:=qq e3;have HV3:=qq hv3;clear e1 e2 e3 hv3 hbx hby hby3 hrd hrd' hy hbl kB k3 HIH
  repeat (first | (with_reducible refine zg ?_) | (with_reducible refine stop_range ?_) | gi_step)
  refine za (z8x (by kernel_rfl) (by rintro ⟨_,_,h⟩;exact h) (by kernel_rfl) (by kernel_rfl) ?_)
  repeat (first | go_big_quiet_skip | (with_reducible refine stopq (op:=.convert 22 9 _) ?_) | go_big_quiet_step (fail))
  refine za (zay (v:=.string bl) rfl (by rintro _ ⟨u,rfl⟩;rw [<- HBL.out];exact z8z Tryz.underlying22 Tryz.underlying5 Tryz.underlying9 (by rfl) (HX.out u) rfl) ?_);simp only [Nat.reduceAdd,qn]
  repeat (first | go_big_quiet_skip | (with_reducible refine stopq (op:=.convert 22 9 _) ?_) | go_big_quiet_step (fail))
  refine za (zay (v:=.string bl) rfl (by rintro _ ⟨u,rfl⟩;rw [<- HBL.out];exact z8z Tryz.underlying22 Tryz.underlying5 Tryz.underlying9 (by rfl) (HY.out u) rfl) ?_);simp only [Nat.reduceAdd,qn]
  repeat (first | go_big_quiet_skip | (with_reducible refine stopq (op:=.convert 22 9 _) ?_) | go_big_quiet_step (fail))
  refine wpQuiet_nil ?_;rintro w8 ⟨u8,hu8⟩;have K8:Hid (Keeps Nb W3 w8):=qq (hu8 ▸ u8.k);clear hu8 u8 c4 c7 hcw;have V8:=qq (z08 HV3.out K8.out (fun _ _ e=>e));obtain ⟨n,hxn⟩:∃ n,x.length=n:=⟨_,rfl⟩
  have HXN:=qq hxn;rw [hxn] at hlc hlc' V8 ⊢;clear hxn;go_wp2
  repeat (first | (with_reducible refine zg ?_) | (with_reducible refine stop_range ?_) | gi_step)
  refine za (zh (by kernel_rfl) (by rintro ⟨_,_,h⟩;exact h) ?_);go_wp2
  gi_wp2
  gi_loopw [10] (fun j wr=>∃ k:Nat,k <= n /\ j=.int .i64 k /\ (0 < n -> ∃ g0,av=some ⟨g0,0,none⟩ /\ w6.heap.size + 2 <= g0 /\ g0 < w8.heap.size /\ Bts wr g0 n) /\ Keeps (fun b=>w6.heap.size + 2 <= b /\ b < w8.heap.size) w8 wr) (fun j _=>n - (intOf j).toNat)
  case atStart =>
   refine ⟨0,Nat.zero_le _,rfl,fun h0=>?_,Keeps.refl _ _⟩;have hne:x ≠ []:=by rintro rfl;have:=HXN.out;simp at this;omega
   have hv8:=V8.out;rw [<- HXN.out] at hv8;obtain ⟨g0,c0,e0,-,-,-,hb0,hob⟩:=zbd hv8 hne;cases e0;obtain ⟨cur,q1,q2,q3⟩:=hob;rw [HXN.out] at q2 q3;refine ⟨g0,rfl,hb0,lt_of_block q1,cur,q1,q2,fun i hi=>?_⟩;have h1:(cur.toList.take n)[i]?=(x.map fun z=>Value.int .u8 (z:Nat))[i]?:=by rw [q3]
   rw [List.getElem?_take,if_pos hi,Array.getElem?_toList,List.getElem?_map] at h1;obtain ⟨z,hz⟩:∃ z,x[i]?=some z:=⟨_,List.getElem?_eq_getElem (by rw [HXN.out];exact hi)⟩
   rw [hz] at h1;exact ⟨z,h1⟩
  case round =>
   obtain ⟨k,hk,rfl,hbt,kw⟩:=hrel;by_cases hlt:k < n
   ·
    have j1:(k:Int) < (n:Int):=by omega
    obtain ⟨g0,rfl,hg0,hg8,cur,hb1,hb2,hb3⟩:=hbt (by omega);obtain ⟨z,hz⟩:=hb3 k hlt;have cz:wr.cell? ⟨g0,k,none⟩=some (.int .u8 z):=by rw [cell_of_block hb1];exact hz
    have KW:=qq kw;have B1:=qq hb1;have B2:=qq hb2;have B3:=qq hb3;clear hz hbt hb1 hb2 hb3 kw
    repeat (first | (with_reducible refine zg ?_) | (with_reducible refine stop_range ?_) | gi_step)
    refine za (zh (by kernel_rfl) (by rintro ⟨_,_,h⟩;exact h) ?_);go_wp2
    repeat (first | (with_reducible refine zg ?_) | (with_reducible refine stop_range ?_) | gi_step)
    refine za (zh (by kernel_rfl) (by rintro ⟨_,_,h⟩;exact h) ?_);go_wp2_with (first | go_skip | (with_reducible refine qv (by decide) ?_))
    refine za (zc rfl (zd (v:=.int .u8 (IntKind.u8.wrap (z + 1))) (n:=1) (by kernel_rfl) (by rfl) (by rfl) B1.out (by rfl) (by have:=B2.out;simp [Value.cells];omega) (by simp [Value.cells,Value.oneCell'])) ?_);intro wn sn;simp only [Nat.reduceAdd,qn];have HBT:Hid (Bts wn g0 n):=qq (Bts.set (z:=IntKind.u8.wrap (z + 1)) B2.out B3.out hlt (by simpa [Value.cells] using sn));have KN:Hid (Keeps (fun b=>w6.heap.size + 2 <= b /\ b < w8.heap.size) w8 wn):=qq (KW.out.trans sn.k (fun j hj e=>by have e:j=g0:=e;subst e;exact ⟨hg0,hg8⟩));clear sn cz;go_wp2
    repeat (first | (with_reducible refine zg ?_) | (with_reducible refine stop_range ?_) | gi_step)
    refine za (zh (by kernel_rfl) (by rintro ⟨_,_,h⟩;exact h) ?_);go_wp2;go_roundw
    case rel=>exact ⟨k + 1,by omega,by go_num,fun _=>⟨g0,rfl,hg0,hg8,HBT.out⟩,KN.out⟩
    case measure=>simp [intOf];omega
   ·
    have hkl:k=n:=by omega
    subst hkl;have KW:=qq kw;clear kw hbt
    repeat (first | (with_reducible refine zg ?_) | (with_reducible refine stop_range ?_) | gi_step)
    refine za (zh (by kernel_rfl) (by rintro ⟨_,_,h⟩;exact h) ?_);go_wp2
    repeat (first | (with_reducible refine zg ?_) | (with_reducible refine stop_range ?_) | gi_step)
    refine za (zh (by kernel_rfl) (by rintro ⟨_,_,h⟩;exact h) ?_);have hE:∀ {b:Nat} {o:Obj},b < w6.heap.size -> W3.heap[b]?=some o -> wr.heap[b]?=some o:=fun {b o} hb h=>KW.out.at (K8.out.nb h) (fun e=>by have:=e.1;omega)
    have e1:=hE (by omega) E1.out;have e2:=hE (by omega) E2.out;have e5:=hE (by omega) (E3.out.at B56.out (fun e=>by omega));have E1':=qq e1;have E2':=qq e2;have E5':=qq e5;have c7:wr.cell? ⟨b7,0,none⟩=some (.int .i64 (i:Nat)):=(cell_of_block e1).trans rfl;have iw:IntKind.i64.wrap ((i:Int) + 1)=((i + 1:Nat):Int):=by rw [IntWalk.i64_in _ (by have:=HN.out;rw [HM.out] at this;omega)];rfl
    clear hE e1 e2 e5;go_wp2_with (first | go_skip | (with_reducible refine qv (by decide) ?_))
    refine za (zc rfl (zd (v:=.int .i64 ((i + 1:Nat):Int)) (n:=1) (by kernel_rfl) (by rfl) (by rfl) E1'.out (by rfl) (by simp [Value.cells]) (by simp [Value.cells,Value.oneCell'])) ?_);intro wn sn;simp only [Nat.reduceAdd,qn];have kn5:b5 ≠ b7 /\ b6 ≠ b7:=by omega
    have c7':wn.cell? ⟨b7,0,none⟩=some (.int .i64 ((i + 1:Nat):Int)):=(cell_of_block sn.blk).trans rfl;have c5:wn.cell? ⟨b5,0,none⟩=some (.int .i64 0):=(cell_of_block (sn.k.at E5'.out kn5.1)).trans rfl;have tq:(((i + 1:Nat):Int) == 0)=false:=by rw [beq_eq_false_iff_ne];omega
    have F:Hid (Keeps (fun b=>(w6.heap.size <= b \/ b=b6 \/ b=b7) /\ ¬ Book w6 b) W3 wn /\ OnI w6 b6 b7 (i + 1) wn):=qq (by
     have kf:Keeps (fun b=>(w6.heap.size <= b \/ b=b6 \/ b=b7) /\ ¬ Book w6 b) W3 wn:=((K8.out.of_nb).trans KW.out (fun j hj e=>⟨.inl (by omega),fun h=>by unfold Book at h;omega⟩)).trans sn.k (fun j hj e=>by have e:j=b7:=e;exact ⟨.inr (.inr e),fun h=>by unfold Book at h;omega⟩)
     exact ⟨kf,sn.blk,sn.k.at E2'.out kn5.2,E3.out.trans kf (fun j _ e=>e.1)⟩)
    clear sn c7;go_wp2
    repeat (first | (with_reducible refine zg ?_) | (with_reducible refine stop_range ?_) | gi_step)
    refine za (zh (by kernel_rfl) (by rintro ⟨_,_,h⟩;exact h) ?_);go_wp2
    gi_wp2
    exact F.out
 case done =>
  rintro W ⟨e1,e2,e3⟩ hD;have HD:=qq hD;have c7:W.cell? ⟨b7,0,none⟩=some (.int .i64 (rs.length:Nat)):=(cell_of_block e1).trans rfl;rw [HM.out] at c7;have c4:W.cell? ⟨b4,0,none⟩=some (.slice wa m wc):=(cell_of_block (e3.at B46.out (fun e=>by omega))).trans rfl;have E2:=qq e2;have E3:=qq e3;clear e1 e2 e3 hD;go_wp2_with (first | go_skip | (with_reducible refine qv (by decide) ?_))
  refine za (zc rfl (zd (v:=.bool true) (n:=1) (by kernel_rfl) (by rfl) (by rfl) E2.out (by rfl) (by simp [Value.cells]) (by simp [Value.cells,Value.oneCell'])) ?_);intro wn sn;simp only [Nat.reduceAdd,qn];have c6:wn.cell? ⟨b6,0,none⟩=some (.bool true):=(cell_of_block sn.blk).trans rfl;have HDn:Hid (wn.heap[w6.heap.size]?=some (.deferred (some []))):=qq (sn.k.at HD.out (fun e=>by omega));have KN:=qq sn.k;clear sn c4 c7;go_wp2;have kp:=zv wn w6.heap.size (.deferred none);have z6:=K6.out.size;have g4:=G4.out;have ze:=E3.out.size;have zp:=kp.size;refine ⟨by simp,.inl ⟨_,_,rfl,run_takeDeferred (show wn.heap[w6.heap.size]?=_ from HDn.out),?_⟩⟩;have c6p:(wn.putObj w6.heap.size (.deferred none)).cell? ⟨b6,0,none⟩=some (.bool true):=(kp.cell (lt_of_cell c6) (fun e=>by have e:b6=w6.heap.size:=e;omega)).trans c6;refine ⟨.bool true,by simp [results,Tryz.f34,go_sem,asAddr,c6p],rfl,?_⟩;exact ((K6.out.trans E3.out (fun j hj e=>by omega)).trans KN.out (fun j hj e=>by have e:j=b7 \/ j=b6:=.inr e;omega)).trans kp (fun j hj e=>by omega)
end Go.Proofs.YtpjomdmjohjheaaGreatDoor
end
section
namespace Go.Log
open Go.Vfs
abbrev Dir:=ByteArray -> Option Nat
def Dir.put (f:Dir) (s:ByteArray) (b:Nat):Dir:=fun t=>if t=s then some b else f t
def Dir.del (f:Dir) (s:ByteArray):Dir:=fun t=>if t=s then none else f t
def Dir.again (f:Dir) (s:Stp):Dir :=
 if s.act=0 then (if (f s.name).isSome then f else f.put s.name (s.f.getD 0))
 else if s.act=1 then (match f s.name with | none=>f | some b=>(f.del s.name).put s.to b)
 else f.del s.name
theorem z09 (p:ByteArray × Nat) (l:List (ByteArray × Nat)) (t:ByteArray):flook (p :: l) t=if p.1=t then some p.2 else flook l t:=by
 unfold flook;rw [List.find?_cons];by_cases h:p.1=t <;> simp [h]
theorem zce (l:List (ByteArray × Nat)) (t:ByteArray):(l.any fun p=>decide (p.1=t))=(flook l t).isSome:=by
 induction l with
 | nil=>rfl
 | cons p l ih =>
  rw [List.any_cons,z09,ih];by_cases h:p.1=t <;> simp [h]
theorem zb3 (l:List (ByteArray × Nat)) (s:ByteArray) (b:Nat) (t:ByteArray):flook (l ++ [(s,b)]) t=(flook l t).orElse fun _=>if s=t then some b else none:=by
 induction l with
 | nil=>rw [List.nil_append,z09];rfl
 | cons p l ih =>
  rw [List.cons_append,z09,z09,ih];split <;> rfl
theorem z0e {l:List (ByteArray × Nat)} {s:ByteArray} (h:flook l s=none) (b:Nat):flook (l ++ [(s,b)])=Dir.put (flook l) s b:=by
 funext t;rw [zb3];unfold Dir.put;by_cases e:t=s
 ·subst e;rw [h];simp
 ·rw [if_neg e,if_neg (fun h=>e h.symm)];cases flook l t <;> rfl
theorem z0l (l:List (ByteArray × Nat)) (s:ByteArray):flook (fdel l s)=Dir.del (flook l) s:=by
 funext t;unfold Dir.del fdel
 induction l with
 | nil=>simp [flook]
 | cons p l ih =>
  rw [List.filter_cons];by_cases h:p.1=s
  ·
   simp only [h,ne_eq,not_true_eq_false,decide_false,Bool.false_eq_true,if_false];rw [ih,z09];by_cases e:t=s
   ·simp [e]
   ·rw [if_neg e,if_neg e,if_neg (fun h2=>e (h2.symm.trans h))]
  ·
   simp only [ne_eq,h,not_false_eq_true,decide_true,if_true];rw [z09,z09,ih];by_cases e:t=s
   ·rw [if_pos e,if_pos e,if_neg (fun h2=>h (h2.trans e))]
   ·rw [if_neg e,if_neg e]
theorem zcf (l:List (ByteArray × Nat)) (s:ByteArray) (b:Nat) (t:ByteArray):flook (l.map fun p=>if p.1=s then (s,b) else p) t=if t=s then (flook l t).map (fun _=>b) else flook l t:=by
 induction l with
 | nil=>simp [flook]
 | cons p l ih =>
  rw [List.map_cons,z09,z09,ih];by_cases h:p.1=s
  ·
   by_cases e:t=s
   ·subst e;simp [h]
   ·have h2:¬ s=t:=fun x=>e x.symm;have h3:¬ p.1=t:=fun x=>e (x.symm.trans h);simp [h,e,h2]
  ·
   by_cases e:t=s
   ·subst e;simp [h]
   ·simp [h,e]
theorem z2d (l:List (ByteArray × Nat)) (s:ByteArray) (b:Nat):flook (fput l s b)=Dir.put (flook l) s b:=by
 funext t;unfold fput Dir.put;rw [zce];by_cases h:(flook l s).isSome=true
 ·
  rw [if_pos h,zcf];by_cases e:t=s
  ·subst e;obtain ⟨c,hc⟩:=Option.isSome_iff_exists.1 h;simp [hc]
  ·simp [e]
 ·
  rw [if_neg h];have h':flook l s=none:=by simpa using h
  rw [z0e h'];rfl
theorem z9c (L:List (ByteArray × Nat)) (s:Stp):flook (againL L s)=Dir.again (flook L) s:=by
 unfold againL Dir.again;split
 ·
  split
  ·rfl
  ·rw [z2d]
 ·
  split
  ·
   cases e:flook L s.name with
   | none=>rfl
   | some b=>simp only [ren1];rw [z2d,z0l]
  ·rw [z0l]
def rep:List Bool -> List Stp -> Dir -> Dir
 | b :: bs,s :: ss,f=>rep bs ss (if b then f.again s else f)
 | _,_,f=>f
theorem zai (ss:List Stp) (f:Dir):rep [] ss f=f:=by cases ss <;> rfl
theorem z82 (bs:List Bool) (f:Dir):rep bs [] f=f:=by cases bs <;> rfl
theorem z4g:∀ (bs:List Bool) (ss:List Stp) (L:List (ByteArray × Nat)),flook (replay bs ss L)=rep bs ss (flook L)
 | [],ss,L=>by rw [z0s,zai]
 | b :: bs,[],L=>rfl
 | b :: bs,s :: ss,L=>by
  show flook (replay bs ss (if b then againL L s else L))=rep bs ss (if b then Dir.again (flook L) s else flook L);rw [z4g bs ss];cases b
  ·rfl
  ·simp only [if_true];rw [z9c]
theorem z8y (s:Stp):∀ (ss:List Stp) (bs:List Bool) (f:Dir),∃ bs',rep bs (ss ++ [s]) f=rep bs' ss f \/ rep bs (ss ++ [s]) f=(rep bs' ss f).again s
 | [],[],f=>⟨[],.inl rfl⟩
 | [],b :: bs,f=>by
  refine ⟨[],?_⟩;show rep bs [] (if b then f.again s else f)=f \/ rep bs [] (if b then f.again s else f)=f.again s;rw [z82];cases b
  ·exact .inl rfl
  ·exact .inr rfl
 | y :: ss,[],f=>⟨[],.inl rfl⟩
 | y :: ss,b :: bs,f=>by
  obtain ⟨bs',h⟩:=z8y s ss bs (if b then f.again y else f);exact ⟨b :: bs',h⟩
def Ds.dir (X:Ds):Dir:=flook X.D.files
def Rs (X:Ds) (f:Dir):Prop:=∃ bs,f=rep bs X.D.steps (flook X.D.lasting)
def Rch (X:Ds) (f:Dir):Prop:=f=X.dir \/ Rs X f
def Wf (X:Ds):Prop:=∀ s ∈ X.D.steps,s.act=0 -> ∃ b,s.f=some b
def Rf (D:Dk) (f:Dir):Prop:=∀ t b,f t=some b -> Ref D b
theorem zbw {D:Dk} {f:Dir} {s:Stp} (h:Rf D f) (hs:s ∈ D.steps) (hw:s.act=0 -> ∃ b,s.f=some b):Rf D (f.again s):=by
 intro t b hb;unfold Dir.again at hb;split at hb
 ·
  rename_i h0;split at hb
  ·exact h t b hb
  ·
   unfold Dir.put at hb;split at hb
   ·obtain ⟨c,hc⟩:=hw h0;cases hb;exact .inr (.inr ⟨s,hs,by rw [hc];rfl⟩)
   ·exact h t b hb
 ·
  split at hb
  ·
   cases e:f s.name with
   | none=>rw [e] at hb;exact h t b hb
   | some c =>
    rw [e] at hb;simp only at hb;unfold Dir.put Dir.del at hb;split at hb
    ·cases hb;exact h _ _ e
    ·
     split at hb
     ·cases hb
     ·exact h t b hb
  ·
   unfold Dir.del at hb;split at hb
   ·cases hb
   ·exact h t b hb
theorem zaj {D:Dk}:∀ (bs:List Bool) (ss:List Stp) (f:Dir),(∀ s ∈ ss,s ∈ D.steps /\ (s.act=0 -> ∃ b,s.f=some b)) -> Rf D f -> Rf D (rep bs ss f)
 | [],ss,f,_,h=>by rw [zai];exact h
 | b :: bs,[],f,_,h=>h
 | b :: bs,s :: ss,f,hs,h=>by
  show Rf D (rep bs ss (if b then f.again s else f));refine zaj bs ss _ (fun s' h'=>hs s' (by simp [h'])) ?_;cases b
  ·exact h
  ·exact zbw h (hs s (by simp)).1 (hs s (by simp)).2
theorem Rch.ref {X:Ds} {f:Dir} (h:Rch X f) (hw:Wf X):Rf X.D f:=by
 rcases h with rfl | ⟨bs,rfl⟩
 ·intro t b hb;exact .inl ⟨_,zn hb,rfl⟩
 ·exact zaj bs _ _ (fun s hs=>⟨hs,hw s hs⟩) (fun t b hb=>.inr (.inl ⟨_,zn hb,rfl⟩))
structure Sm (X Y:Ds):Prop where
 files:Y.D.files=X.D.files
 lasting:Y.D.lasting=X.D.lasting
 steps:Y.D.steps=X.D.steps
 cap:Y.D.cap=X.D.cap
theorem Sm.refl (X:Ds):Sm X X:=⟨rfl,rfl,rfl,rfl⟩
theorem Sm.rch {X Y:Ds} (h:Sm X Y) {f:Dir} (hf:Rch Y f):Rch X f:=by
 unfold Rch Rs Ds.dir at hf ⊢;rw [h.files,h.lasting,h.steps] at hf;exact hf
theorem Sm.wf {X Y:Ds} (h:Sm X Y) (hw:Wf X):Wf Y:=by unfold Wf;rw [h.steps];exact hw
theorem Sm.dir {X Y:Ds} (h:Sm X Y):Y.dir=X.dir:=by unfold Ds.dir;rw [h.files]
theorem z34 {X Y:Ds} (h:Y.D=(chg X.D).1):Sm X Y:=by
 obtain ⟨a,b,c,-,d⟩:=z03 X.D;exact ⟨by rw [h,a],by rw [h,b],by rw [h,c],by rw [h,d]⟩
theorem z1l (D:Dk):((chg D).2.1=1 /\ (chg D).2.2=0) \/ ((chg D).2.1 ≠ 1 /\ (chg D).2.2 ≠ 0):=by
 unfold chg;simp only;split
 ·rename_i h;refine .inr ⟨?_,h.1⟩;simp only;split <;> decide
 ·
  split
  ·exact .inr ⟨by simp,by simp⟩
  ·exact .inl ⟨rfl,rfl⟩
structure Dn (X Y:Ds) (l:List (ByteArray × Nat)) (st:Stp):Prop where
 files:Y.D.files=l
 lasting:Y.D.lasting=X.D.lasting
 steps:Y.D.steps=X.D.steps ++ [st]
 cap:Y.D.cap=X.D.cap
theorem Dn.rch {X Y:Ds} {l:List (ByteArray × Nat)} {st:Stp} (h:Dn X Y l st) {f:Dir} (hf:Rch Y f):f=flook l \/ ∃ g,Rs X g /\ (f=g \/ f=g.again st):=by
 rcases hf with hf | ⟨bs,hf⟩
 ·left;rw [hf];unfold Ds.dir;rw [h.files]
 ·right;rw [h.steps,h.lasting] at hf;obtain ⟨bs',h1⟩:=z8y st X.D.steps bs (flook X.D.lasting);exact ⟨_,⟨bs',rfl⟩,by rw [hf];exact h1⟩
theorem Dn.wf {X Y:Ds} {l:List (ByteArray × Nat)} {st:Stp} (h:Dn X Y l st) (hw:Wf X) (hs:st.act=0 -> ∃ b,st.f=some b):Wf Y:=by
 unfold Wf;rw [h.steps];intro s h1;rcases List.mem_append.1 h1 with h1 | h1
 ·exact hw s h1
 ·rw [List.mem_singleton.1 h1];exact hs
variable {X Y:Ds} {e:Int} {s t:ByteArray}
theorem z0j (h:mkO s X e Y):(e ≠ 0 /\ Sm X Y /\ Y.fc=X.fc) \/ (e=0 /\ X.dir s=none /\ mnB s=true /\ ∃ b,(∀ c,Ref X.D c -> c ≠ b) /\ Dn X Y (X.D.files ++ [(s,b)]) ⟨0,s,ByteArray.empty,some b⟩ /\ Y.fc=fun k=>if k=b then ⟨[],0⟩ else X.fc k):=by
 obtain ⟨n,hn,h⟩:=h;have same:∀ {D':Dk},Y.D=D' -> D'=X.D -> Y.fc=X.fc -> Sm X Y:=fun h1 h2 h3=>⟨by rw [h1,h2],by rw [h1,h2],by rw [h1,h2],by rw [h1,h2]⟩
 rcases h with ⟨-,h0,h,hf⟩ | ⟨-,-,h0,h,hf⟩ | ⟨-,-,-,h0,h,hf⟩ | ⟨-,-,-,-,h0,h,hf⟩ | ⟨hm,hl,-,-,h0,⟨h1,b,hb,h,hf⟩ | ⟨h1,h,hf⟩⟩
 ·exact .inl ⟨by omega,same h rfl hf,hf⟩
 ·exact .inl ⟨by omega,same h rfl hf,hf⟩
 ·exact .inl ⟨by omega,same h rfl hf,hf⟩
 ·exact .inl ⟨by omega,same h rfl hf,hf⟩
 ·
  rcases z1l X.D with ⟨h2,h3⟩ | ⟨h2,h3⟩
  ·
   obtain ⟨q1,q2,q3,-,q5⟩:=z03 X.D;refine .inr ⟨by rw [h0,h3],hl,hm,b,fun c hc=>by have:=hn c hc;omega,⟨?_,?_,?_,?_⟩,hf⟩
   ·rw [h];simp only [Dk.make,q1]
   ·rw [h];simp only [Dk.make,q2]
   ·rw [h];simp only [Dk.make,q3]
   ·rw [h];simp only [Dk.make,q5]
  ·exact absurd h1 h2
 ·
  rcases z1l X.D with ⟨h2,h3⟩ | ⟨h2,h3⟩
  ·exact absurd h2 h1
  ·exact .inl ⟨by rw [h0];exact h3,z34 h,hf⟩
theorem z0p {bs:List Nat} (h:apO s bs X e Y):Sm X Y /\ ((e ≠ 0 /\ Y.fc=X.fc) \/ ∃ b k,X.dir s=some b /\ k <= bs.length /\ (e=0 -> k=bs.length) /\ Y.fc=setf X.fc b ⟨(X.fc b).b ++ bs.take k,(X.fc b).lasts⟩):=by
 have same:Y.D=X.D -> Sm X Y:=fun h=>⟨by rw [h],by rw [h],by rw [h],by rw [h]⟩
 rcases h with ⟨-,h0,h,hf⟩ | ⟨-,-,h0,h,hf⟩ | ⟨b,-,hl,⟨-,h0,h,hf⟩ | ⟨-,-,h0,h,hf⟩ | ⟨-,-,h0,h,hf⟩⟩
 ·exact ⟨same h,.inl ⟨by omega,hf⟩⟩
 ·exact ⟨same h,.inl ⟨by omega,hf⟩⟩
 ·exact ⟨same h,.inl ⟨by omega,hf⟩⟩
 ·exact ⟨same h,.inl ⟨by omega,hf⟩⟩
 ·
  refine ⟨z34 h,?_⟩;rcases z1l X.D with ⟨h2,h3⟩ | ⟨h2,h3⟩
  ·rw [h2] at hf;exact .inr ⟨b,bs.length,hl,Nat.le_refl _,fun _=>rfl,by simpa using hf⟩
  ·
   by_cases h4:(chg X.D).2.1=0
   ·rw [if_pos h4] at hf;exact .inl ⟨by rw [h0];exact h3,hf⟩
   ·
    rw [if_neg h4] at hf;refine .inr ⟨b,_,hl,?_,fun h5=>absurd (h0.symm.trans h5) h3,hf⟩;split
    ·omega
    ·exact Nat.le_refl _
theorem z0c (h:syO s X e Y):Sm X Y /\ ((e ≠ 0 /\ Y.fc=X.fc) \/ (e=0 /\ ∃ b,X.dir s=some b /\ Y.fc=setf X.fc b ⟨(X.fc b).b,(X.fc b).b.length⟩)):=by
 have same:Y.D=X.D -> Sm X Y:=fun h=>⟨by rw [h],by rw [h],by rw [h],by rw [h]⟩
 rcases h with ⟨-,h0,h,hf⟩ | ⟨-,-,h0,h,hf⟩ | ⟨b,-,hl,⟨-,h0,h,hf⟩ | ⟨-,h0,h,hf⟩⟩
 ·exact ⟨same h,.inl ⟨by omega,hf⟩⟩
 ·exact ⟨same h,.inl ⟨by omega,hf⟩⟩
 ·exact ⟨same h,.inl ⟨by omega,hf⟩⟩
 ·
  refine ⟨z34 h,?_⟩;rcases z1l X.D with ⟨h2,h3⟩ | ⟨h2,h3⟩
  ·rw [if_pos h2] at hf;exact .inr ⟨by rw [h0,h3],b,hl,hf⟩
  ·rw [if_neg h2] at hf;exact .inl ⟨by rw [h0];exact h3,hf⟩
theorem z2v {n:Nat} (h:cuO s n X e Y):Sm X Y /\ ((e ≠ 0 /\ Y.fc=X.fc) \/ (e=0 /\ ∃ b,X.dir s=some b /\ n <= (X.fc b).b.length /\ Y.fc=setf X.fc b ⟨(X.fc b).b.take n,min n (X.fc b).lasts⟩)):=by
 have same:Y.D=X.D -> Sm X Y:=fun h=>⟨by rw [h],by rw [h],by rw [h],by rw [h]⟩
 rcases h with ⟨-,h0,h,hf⟩ | ⟨-,-,h0,h,hf⟩ | ⟨-,-,-,h0,h,hf⟩ | ⟨b,-,-,hl,⟨-,h0,h,hf⟩ | ⟨-,-,h0,h,hf⟩ | ⟨hn,-,h0,h,hf⟩⟩
 ·exact ⟨same h,.inl ⟨by omega,hf⟩⟩
 ·exact ⟨same h,.inl ⟨by omega,hf⟩⟩
 ·exact ⟨same h,.inl ⟨by omega,hf⟩⟩
 ·exact ⟨same h,.inl ⟨by omega,hf⟩⟩
 ·exact ⟨same h,.inl ⟨by omega,hf⟩⟩
 ·
  refine ⟨z34 h,?_⟩;rcases z1l X.D with ⟨h2,h3⟩ | ⟨h2,h3⟩
  ·rw [if_pos h2] at hf;exact .inr ⟨by rw [h0,h3],b,hl,by omega,by simpa using hf⟩
  ·rw [if_neg h2] at hf;exact .inl ⟨by rw [h0];exact h3,hf⟩
theorem z1x (h:rnO s t X e Y):Y.fc=X.fc /\ ((e ≠ 0 /\ Sm X Y) \/ (e=0 /\ ∃ b,X.dir s=some b /\ Dn X Y (fput (fdel X.D.files s) t b) ⟨1,s,t,none⟩)):=by
 obtain ⟨h,hf⟩:=h;have same:Y.D=X.D -> Sm X Y:=fun h=>⟨by rw [h],by rw [h],by rw [h],by rw [h]⟩
 refine ⟨hf,?_⟩;rcases h with ⟨-,h0,h⟩ | ⟨-,-,h0,h⟩ | ⟨-,-,-,h0,h⟩ | ⟨b,-,-,hl,⟨-,h0,h⟩ | ⟨-,h0,h⟩⟩
 ·exact .inl ⟨by omega,same h⟩
 ·exact .inl ⟨by omega,same h⟩
 ·exact .inl ⟨by omega,same h⟩
 ·exact .inl ⟨by omega,same h⟩
 ·
  rcases z1l X.D with ⟨h2,h3⟩ | ⟨h2,h3⟩
  ·rw [if_pos h2] at h;obtain ⟨q1,q2,q3,-,q5⟩:=z03 X.D;exact .inr ⟨by rw [h0,h3],b,hl,by rw [h];simp only [Dk.ren,Dk.step,q1],by rw [h];simp only [Dk.ren,Dk.step,q2],by rw [h];simp only [Dk.ren,Dk.step,q3],by rw [h];simp only [Dk.ren,Dk.step,q5]⟩
  ·rw [if_neg h2] at h;exact .inl ⟨by rw [h0];exact h3,z34 h⟩
theorem z1k (h:rmO s X e Y):Y.fc=X.fc /\ ((e ≠ 0 /\ Sm X Y /\ (e=6 -> X.dir s=none \/ X.dir s ≠ none)) \/ (e=0 /\ ∃ b,X.dir s=some b /\ Dn X Y (fdel X.D.files s) ⟨2,s,ByteArray.empty,none⟩)):=by
 obtain ⟨h,hf⟩:=h;have same:Y.D=X.D -> Sm X Y:=fun h=>⟨by rw [h],by rw [h],by rw [h],by rw [h]⟩
 have em:e=6 -> X.dir s=none \/ X.dir s ≠ none:=fun _=>Classical.em _;refine ⟨hf,?_⟩;rcases h with ⟨-,h0,h⟩ | ⟨-,-,h0,h⟩ | ⟨b,-,hl,⟨-,h0,h⟩ | ⟨-,h0,h⟩⟩
 ·exact .inl ⟨by omega,same h,em⟩
 ·exact .inl ⟨by omega,same h,em⟩
 ·exact .inl ⟨by omega,same h,em⟩
 ·
  rcases z1l X.D with ⟨h2,h3⟩ | ⟨h2,h3⟩
  ·rw [if_pos h2] at h;obtain ⟨q1,q2,q3,-,q5⟩:=z03 X.D;exact .inr ⟨by rw [h0,h3],b,hl,by rw [h];simp only [Dk.rem,Dk.step,q1],by rw [h];simp only [Dk.rem,Dk.step,q2],by rw [h];simp only [Dk.rem,Dk.step,q3],by rw [h];simp only [Dk.rem,Dk.step,q5]⟩
  ·rw [if_neg h2] at h;exact .inl ⟨by rw [h0];exact h3,z34 h,em⟩
theorem z0k (h:sdO X e Y):Y.fc=X.fc /\ ((e ≠ 0 /\ Sm X Y) \/ (e=0 /\ Y.D.files=X.D.files /\ Y.D.lasting=X.D.files /\ Y.D.steps=[] /\ Y.D.cap=X.D.cap)):=by
 obtain ⟨h,hf⟩:=h;have same:Y.D=X.D -> Sm X Y:=fun h=>⟨by rw [h],by rw [h],by rw [h],by rw [h]⟩
 refine ⟨hf,?_⟩;rcases h with ⟨-,h0,h⟩ | ⟨-,h0,h⟩
 ·exact .inl ⟨by omega,same h⟩
 ·
  rcases z1l X.D with ⟨h2,h3⟩ | ⟨h2,h3⟩
  ·rw [if_pos h2] at h;obtain ⟨q1,q2,q3,-,q5⟩:=z03 X.D;exact .inr ⟨by rw [h0,h3],by rw [h];simp only [Dk.sdir,q1],by rw [h];simp only [Dk.sdir,q1],by rw [h];simp only [Dk.sdir],by rw [h];simp only [Dk.sdir,q5]⟩
  ·rw [if_neg h2] at h;exact .inl ⟨by rw [h0];exact h3,z34 h⟩
theorem z3p (h:sdO X 0 Y) {f:Dir} (hf:Rch Y f):f=X.dir:=by
 obtain ⟨-,⟨h0,-⟩ | ⟨-,h1,h2,h3,-⟩⟩:=z0k h
 ·exact absurd rfl h0
 ·
  rcases hf with hf | ⟨bs,hf⟩
  ·rw [hf];unfold Ds.dir;rw [h1]
  ·rw [hf,h3,z82,h2];rfl
end Go.Log
end
section
namespace Go.Log
open Go.Vfs
structure Sh where
 s:Nat
 first:Nat
 sn:Option (List Nat)
 bm:Nat
 bs:Nat
 cl:List (Nat × Nat × List (List Nat))
 m:Nat
 b:Nat
 rs:List (List Nat)
 q:Nat
 du:Nat
def Sh.closed (h:Sh):List (List Nat):=h.cl.flatMap fun c=>c.2.2
def Sh.tab (h:Sh):List (Nat × Nat):=h.cl.map (fun c=>(c.1,c.2.1)) ++ [(h.m,h.b)]
def Sh.blk (h:Sh) (k:Nat):Option Nat:=(h.tab.find? fun p=>decide (p.1=k)).map Prod.snd
structure Shape (nm:ByteArray) (f:Dir) (fc:Nat -> Fl) (h:Sh):Prop where
 f1:1 <= h.first
 s1:h.s <= mxn
 man:f (manf nm)=some h.bm
 manc:fc h.bm=⟨recd (mrec h.s h.first),(recd (mrec h.s h.first)).length⟩
 snap:(h.s=0 /\ h.sn=none) \/ (1 <= h.s /\ ∃ x,h.sn=some x /\ Recs [x] /\ f (snf nm h.s)=some h.bs /\ fc h.bs=⟨recd x,(recd x).length⟩)
 asc:h.tab.Pairwise fun a b=>a.1 < b.1
 rng:∀ p ∈ h.tab,h.first <= p.1 /\ p.1 <= mxn
 segs:∀ k,h.first <= k -> k <= mxn -> f (sgf nm k)=h.blk k
 clc:∀ c ∈ h.cl,fc c.2.1=⟨enc c.2.2,(enc c.2.2).length⟩ /\ Recs c.2.2
 lastb:(fc h.b).b=(enc h.rs).take h.q
 lastq:h.q <= (enc h.rs).length
 lastl:(enc (h.rs.take h.du)).length <= (fc h.b).lasts /\ (fc h.b).lasts <= h.q
 lastd:h.du <= h.rs.length
 lastr:Recs h.rs
 apart:h.b ≠ h.bm /\ (1 <= h.s -> h.b ≠ h.bs) /\ ∀ c ∈ h.cl,c.2.1 ≠ h.b
theorem zdz {l:List (Nat × Nat)} (ha:l.Pairwise fun a b=>a.1 < b.1) {k x:Nat} (h:(k,x) ∈ l):(l.find? fun p=>decide (p.1=k)).map Prod.snd=some x:=by
 induction l with
 | nil=>cases h
 | cons p l ih =>
  rw [List.pairwise_cons] at ha;rw [List.find?_cons];rcases List.mem_cons.1 h with h | h
  ·subst h;simp
  ·have:=ha.1 _ h;simp only at this;rw [decide_eq_false (by omega)];exact ih ha.2 h
theorem z7i {l:List (Nat × Nat)} {k:Nat} (h:∀ p ∈ l,p.1 ≠ k):(l.find? fun p=>decide (p.1=k)).map Prod.snd=none:=by
 rw [Option.map_eq_none_iff,List.find?_eq_none];intro p hp;simpa using h p hp
theorem zdx {l:List (Nat × Nat)} {k x:Nat} (h:(l.find? fun p=>decide (p.1=k)).map Prod.snd=some x):(k,x) ∈ l:=by
 obtain ⟨p,h1,h2⟩:=Option.map_eq_some_iff.1 h;have h3:=List.find?_some h1;have h4:=List.mem_of_find?_eq_some h1;obtain ⟨a,c⟩:=p;simp only [decide_eq_true_eq] at h3 h2;subst h3 h2;exact h4
variable {nm:ByteArray} {f g:Dir} {fc fc':Nat -> Fl} {h:Sh}
def Sh.names (nm:ByteArray) (h:Sh) (t:ByteArray):Prop:=t=manf nm \/ (1 <= h.s /\ t=snf nm h.s) \/ ∃ k,h.first <= k /\ k <= mxn /\ t=sgf nm k
def Sh.blocks (h:Sh) (b:Nat):Prop:=b=h.bm \/ (1 <= h.s /\ b=h.bs) \/ (∃ c ∈ h.cl,b=c.2.1) \/ b=h.b
theorem za9 (h:Sh):(h.m,h.b) ∈ h.tab:=by unfold Sh.tab;simp
theorem mem_tab' {h:Sh} {c:Nat × Nat × List (List Nat)} (hc:c ∈ h.cl):(c.1,c.2.1) ∈ h.tab:=by
 unfold Sh.tab;exact List.mem_append_left _ (List.mem_map.2 ⟨c,hc,rfl⟩)
theorem Shape.blkOf (hs:Shape nm f fc h) {k x:Nat} (hp:(k,x) ∈ h.tab):f (sgf nm k)=some x:=by
 have hr:=hs.rng _ hp;rw [hs.segs k hr.1 hr.2];exact zdz hs.asc hp
theorem Shape.lastAt (hs:Shape nm f fc h):f (sgf nm h.m)=some h.b:=hs.blkOf (za9 h)
theorem Shape.m1 (hs:Shape nm f fc h):h.first <= h.m /\ h.m <= mxn:=hs.rng _ (za9 h)
theorem Shape.blocks_at (hs:Shape nm f fc h) {b:Nat} (hb:h.blocks b):∃ t,f t=some b:=by
 rcases hb with rfl | ⟨h1,rfl⟩ | ⟨c,hc,rfl⟩ | rfl
 ·exact ⟨_,hs.man⟩
 ·
  rcases hs.snap with ⟨h0,-⟩ | ⟨-,x,-,-,h2,-⟩
  ·omega
  ·exact ⟨_,h2⟩
 ·exact ⟨_,hs.blkOf (mem_tab' hc)⟩
 ·exact ⟨_,hs.lastAt⟩
theorem Shape.ofDir (hs:Shape nm f fc h) (hg:∀ t,h.names nm t -> g t=f t):Shape nm g fc h:=by
  have e:∀ k,h.first <= k -> k <= mxn -> g (sgf nm k)=f (sgf nm k):=fun k h1 h2=>hg _ (.inr (.inr ⟨k,h1,h2,rfl⟩))
  exact { hs with
    man := (hg _ (.inl rfl)).trans hs.man
    snap := hs.snap.imp id fun ⟨h1, x, h2, h3, h4, h5⟩ => ⟨h1, x, h2, h3, (hg _ (.inr (.inl ⟨h1, rfl⟩))).trans h4, h5⟩
    segs := fun k h1 h2 => (e k h1 h2).trans (hs.segs k h1 h2) }
theorem Shape.ofCon (hs:Shape nm f fc h) (hg:∀ b,h.blocks b -> fc' b=fc b):Shape nm f fc' h:=by
  have eb:=hg h.b (.inr (.inr (.inr rfl)))
  exact { hs with
    manc := (hg _ (.inl rfl)).trans hs.manc
    snap := hs.snap.imp id fun ⟨h1, x, h2, h3, h4, h5⟩ => ⟨h1, x, h2, h3, h4, (hg _ (.inr (.inl ⟨h1, rfl⟩))).trans h5⟩
    clc := fun c hc => ⟨(hg _ (.inr (.inr (.inl ⟨c, hc, rfl⟩)))).trans (hs.clc c hc).1, (hs.clc c hc).2⟩
    lastb := by rw [eb]; exact hs.lastb
    lastl := by rw [eb]; exact hs.lastl }
theorem z0f (fc:Nat -> Fl) (b:Nat) (x:Fl):setf fc b x b=x:=by simp [setf]
theorem z0i (fc:Nat -> Fl) {b c:Nat} (x:Fl) (h:c ≠ b):setf fc b x c=fc c:=by simp [setf,h]
theorem Shape.setOther (hs:Shape nm f fc h) {b:Nat} (x:Fl) (hb:¬ h.blocks b):Shape nm f (setf fc b x) h :=
 hs.ofCon fun c hc=>z0i fc x (fun e=>hb (e ▸ hc))
theorem Shape.setLast (hs:Shape nm f fc h) (x:Fl) (rs:List (List Nat)) (q du:Nat) (h1:x.b=(enc rs).take q) (h2:q <= (enc rs).length) (h3:(enc (rs.take du)).length <= x.lasts /\ x.lasts <= q) (h4:du <= rs.length) (h5:Recs rs) :
    Shape nm f (setf fc h.b x) { h with rs:=rs,q:=q,du:=du }:=by
  obtain ⟨a1,a2,a3⟩:=hs.apart
  exact { f1 := hs.f1, s1 := hs.s1, man := hs.man, asc := hs.asc, rng := hs.rng, segs := hs.segs, lastq := h2, lastd := h4, lastr := h5, apart := hs.apart
          manc := by show setf fc h.b x h.bm = _; rw [z0i _ _ a1.symm]; exact hs.manc
          snap := hs.snap.imp id fun ⟨g1, y, g2, g3, g4, g5⟩ => ⟨g1, y, g2, g3, g4, by show setf fc h.b x h.bs = _; rw [z0i _ _ (a2 g1).symm]; exact g5⟩
          clc := fun c hc => ⟨by rw [z0i _ _ (a3 c hc)]; exact (hs.clc c hc).1, (hs.clc c hc).2⟩
          lastb := by show (setf fc h.b x h.b).b = _; rw [z0f]; exact h1
          lastl := by show _ <= (setf fc h.b x h.b).lasts /\ (setf fc h.b x h.b).lasts <= _; rw [z0f]; exact h3 }
theorem z1r (x:List Nat):enc [x]=recd x:=by simp [enc]
theorem Recs.one {x:List Nat} (h1:x.length <= mxr) (h2:∀ y ∈ x,y < 256):Recs [x]:=fun b hb=>by rw [List.mem_singleton.1 hb];exact ⟨h1,h2⟩
theorem Shape.append (hs:Shape nm f fc h) (hq:h.q=(enc h.rs).length) {x:List Nat} (hx:Recs [x]) {k:Nat} (hk:k <= (recd x).length) :
  Shape nm f (setf fc h.b ⟨(fc h.b).b ++ (recd x).take k,(fc h.b).lasts⟩) { h with rs:=h.rs ++ [x],q:=h.q + k }:=by
 have hl:=hs.lastl;refine hs.setLast _ (h.rs ++ [x]) (h.q + k) h.du ?_ ?_ ?_ ?_ (hs.lastr.append hx)
 ·show (fc h.b).b ++ (recd x).take k=_;rw [hs.lastb,z1g,z1r,List.take_append,List.take_of_length_le (show (enc h.rs).length <= h.q by omega),List.take_of_length_le (show (enc h.rs).length <= h.q + k by omega),show h.q + k - (enc h.rs).length=k by omega]
 ·rw [z1g,z1r,List.length_append];omega
 ·rw [List.take_append_of_le_length hs.lastd];exact ⟨hl.1,by show (fc h.b).lasts <= _;omega⟩
 ·rw [List.length_append];have:=hs.lastd;omega
theorem Shape.synced (hs:Shape nm f fc h) (hq:h.q=(enc h.rs).length):Shape nm f (setf fc h.b ⟨(fc h.b).b,(fc h.b).b.length⟩) { h with du:=h.rs.length }:=by
 have hl:(fc h.b).b.length=h.q:=by rw [hs.lastb,List.length_take,hq];omega
 refine hs.setLast _ h.rs h.q h.rs.length hs.lastb hs.lastq ?_ (Nat.le_refl _) hs.lastr;show _ <= (fc h.b).b.length /\ (fc h.b).b.length <= _;rw [hl,List.take_length,hq];exact ⟨Nat.le_refl _,Nat.le_refl _⟩
theorem Shape.wholes (hs:Shape nm f fc h):∃ j,h.du <= j /\ j <= h.rs.length /\ whole (fc h.b).b=(h.rs.take j,(enc (h.rs.take j)).length,true) /\ (enc (h.rs.take j)).length <= (fc h.b).b.length /\ (fc h.b).b.length=h.q /\ (h.q=(enc h.rs).length -> j=h.rs.length):=by
 have hl:(fc h.b).b.length=h.q:=by rw [hs.lastb,List.length_take];have:=hs.lastq;omega
 obtain ⟨j,h1,h2,h3,h4⟩:=z7w hs.lastr hs.lastq;refine ⟨j,?_,h1,by rw [hs.lastb];exact h2,by omega,hl,fun hq=>?_⟩
 ·
  rcases Nat.lt_or_ge j h.du with hj | hj
  ·have h5:=h4 (by have:=hs.lastd;omega);have h6:=z1c (l:=h.rs) (show j + 1 <= h.du from hj);have:=hs.lastl;omega
  ·exact hj
 ·
  rcases Nat.lt_or_ge j h.rs.length with hj | hj
  ·have h5:=h4 hj;have h6:=z1c (l:=h.rs) (show j + 1 <= h.rs.length from hj);rw [List.take_length] at h6;omega
  ·omega
theorem Shape.cut (hs:Shape nm f fc h) {j:Nat} (h1:h.du <= j) (h2:j <= h.rs.length) (h3:(enc (h.rs.take j)).length <= (fc h.b).b.length) :
  Shape nm f (setf fc h.b ⟨(fc h.b).b.take (enc (h.rs.take j)).length,min (enc (h.rs.take j)).length (fc h.b).lasts⟩) { h with rs:=h.rs.take j,q:=(enc (h.rs.take j)).length }:=by
 have hl:(fc h.b).b.length=h.q:=by rw [hs.lastb,List.length_take];have:=hs.lastq;omega
 refine hs.setLast _ (h.rs.take j) (enc (h.rs.take j)).length h.du ?_ (Nat.le_refl _) ?_ ?_ (hs.lastr.take j)
 ·
  show (fc h.b).b.take _=_;rw [hs.lastb,List.take_take,Nat.min_eq_left (by omega),List.take_length];have e:enc h.rs=enc (h.rs.take j) ++ enc (h.rs.drop j):=by rw [<- z1g,List.take_append_drop]
  rw [e,List.take_left]
 ·rw [List.take_take,Nat.min_eq_left h1];have:=hs.lastl;have h6:=z1c (l:=h.rs) h1;refine ⟨?_,Nat.min_le_left _ _⟩;show _ <= min _ _;omega
 ·rw [List.length_take];omega
theorem Shape.uncut (hs:Shape nm f fc h) {j:Nat} (h1:h.du <= j) (h2:j <= h.rs.length) (h3:(enc (h.rs.take j)).length=(fc h.b).b.length) :
  Shape nm f fc { h with rs:=h.rs.take j,q:=(enc (h.rs.take j)).length }:=by
 have hl:(fc h.b).b.length=h.q:=by rw [hs.lastb,List.length_take];have:=hs.lastq;omega
 have hc:=hs.cut h1 h2 (by omega);rw [h3,List.take_length,Nat.min_eq_right (by have:=hs.lastl;omega)] at hc;have e:setf fc h.b ⟨(fc h.b).b,(fc h.b).lasts⟩=fc:=by
  funext c;by_cases e:c=h.b
  ·subst e;rw [z0f]
  ·rw [z0i _ _ e]
 rw [e] at hc;exact h3 ▸ hc
def Sh.grow (h:Sh) (n b:Nat):Sh:={ h with cl:=h.cl ++ [(h.m,h.b,h.rs)],m:=n,b:=b,rs:=[],q:=0,du:=0 }
theorem Shape.grow (hs:Shape nm f fc h) (hq:h.q=(enc h.rs).length) (hd:h.du=h.rs.length) {n b:Nat} (hn:h.m < n) (hn2:n <= mxn) (hb:¬ h.blocks b) (hfc:fc b=⟨[],0⟩):Shape nm (f.put (sgf nm n) b) fc (h.grow n b):=by
 have hf1:=hs.f1;have hm:=hs.m1;have n1:1 <= n:=by omega
 have ht:(h.grow n b).tab=h.tab ++ [(n,b)]:=by unfold Sh.grow Sh.tab;simp
 have top:∀ p ∈ h.tab,p.1 <= h.m:=by
  intro p hp;unfold Sh.tab at hp;rcases List.mem_append.1 hp with hp | hp
  ·have ha:=hs.asc;unfold Sh.tab at ha;have:=(List.pairwise_append.1 ha).2.2 p hp (h.m,h.b) (by simp);simp only at this;omega
  ·rw [List.mem_singleton.1 hp];exact Nat.le_refl _
 have hlb:(fc h.b).b=enc h.rs:=by rw [hs.lastb,hq,List.take_length]
 have hll:(fc h.b).lasts=(enc h.rs).length:=by have:=hs.lastl;rw [hd,List.take_length] at this;omega
 refine { f1:=hf1,s1:=hs.s1,man:=?_,manc:=hs.manc,snap:=?_,asc:=?_,rng:=?_,segs:=?_,clc:=?_,lastb:=?_,lastq:=Nat.zero_le _,lastl:=?_,lastd:=Nat.zero_le _,lastr:=(fun x hx=>by cases hx),apart:=?_ }
 ·show (if manf nm=sgf nm n then _ else _)=_;rw [if_neg (fun e=>z2m nm n1 hn2 e.symm)];exact hs.man
 ·
  refine hs.snap.imp id fun ⟨g1,y,g2,g3,g4,g5⟩=>⟨g1,y,g2,g3,?_,g5⟩
  show (if snf nm h.s=sgf nm n then _ else _)=_;rw [if_neg (fun e=>z2o nm n1 hn2 e.symm)];exact g4
 ·rw [ht,List.pairwise_append];refine ⟨hs.asc,by simp,fun p hp p' hp'=>?_⟩;rw [List.mem_singleton.1 hp'];have:=top p hp;show p.1 < n;omega
 ·
  intro p hp;rw [ht] at hp;rcases List.mem_append.1 hp with hp | hp
  ·exact hs.rng p hp
  ·rw [List.mem_singleton.1 hp];exact ⟨by show h.first <= n;omega,hn2⟩
 ·
  intro k h1 h2;have k1:h.first <= k:=h1;unfold Sh.blk;rw [ht];show (if sgf nm k=sgf nm n then _ else _)=_;by_cases e:k=n
  ·
   subst e;rw [if_pos rfl,List.find?_append];have:h.tab.find? (fun p=>decide (p.1=k))=none:=by
    rw [List.find?_eq_none];intro p hp;have:=top p hp;simp;omega
   rw [this];simp
  ·
   rw [if_neg (fun e2=>e (z74 nm (by omega) h2 n1 hn2 e2)),hs.segs k k1 h2,List.find?_append];unfold Sh.blk;have:[(n,b)].find? (fun p=>decide (p.1=k))=none:=by simp;omega
   rw [this,Option.or_none]
 ·
  intro c hc;have hc':c ∈ h.cl ++ [(h.m,h.b,h.rs)]:=hc;rcases List.mem_append.1 hc' with hc' | hc'
  ·exact hs.clc c hc'
  ·rw [List.mem_singleton.1 hc'];exact ⟨by cases e:fc h.b;rw [e] at hlb hll;simp only at hlb hll;rw [hlb,hll],hs.lastr⟩
 ·show (fc b).b=_;rw [hfc];rfl
 ·show _ <= (fc b).lasts /\ (fc b).lasts <= _;rw [hfc];exact ⟨Nat.le_refl _,Nat.le_refl _⟩
 ·
  refine ⟨fun e=>hb (.inl e),fun g1 e=>hb (.inr (.inl ⟨g1,e⟩)),fun c hc=>?_⟩;have hc':c ∈ h.cl ++ [(h.m,h.b,h.rs)]:=hc;rcases List.mem_append.1 hc' with hc' | hc'
  ·exact fun e=>hb (.inr (.inr (.inl ⟨c,hc',e.symm⟩)))
  ·rw [List.mem_singleton.1 hc'];exact fun e=>hb (.inr (.inr (.inr e.symm)))
theorem z0v (h:Sh) (n b:Nat):(h.grow n b).closed=h.closed ++ h.rs:=by unfold Sh.grow Sh.closed;simp
def Sh.new (s n:Nat) (x:List Nat) (bm bs b:Nat):Sh:=⟨s,n,some x,bm,bs,[],n,b,[],0,0⟩
theorem Shape.new {s n bm bs b:Nat} {x:List Nat} (hs1:1 <= s) (hs2:s <= mxn) (hn1:1 <= n) (hn2:n <= mxn) (hx:Recs [x]) (h1:f (manf nm)=some bm) (h2:fc bm=⟨recd (mrec s n),(recd (mrec s n)).length⟩) (h3:f (snf nm s)=some bs) (h4:fc bs=⟨recd x,(recd x).length⟩)
  (h5:f (sgf nm n)=some b) (h6:fc b=⟨[],0⟩) (h7:∀ k,n < k -> k <= mxn -> f (sgf nm k)=none) (h8:b ≠ bm) (h9:b ≠ bs):Shape nm f fc (Sh.new s n x bm bs b):=by
 refine { f1:=hn1,s1:=hs2,man:=h1,manc:=h2,snap:=.inr ⟨hs1,x,rfl,hx,h3,h4⟩,asc:=List.pairwise_singleton _ _,rng:=?_,segs:=?_,clc:=(fun c hc=>by cases hc),lastb:=?_,lastq:=Nat.zero_le _,lastl:=?_,lastd:=Nat.zero_le _,lastr:=(fun x hx=>by cases hx),apart:=⟨h8,fun _=>h9,fun c hc=>by cases hc⟩ }
 ·intro p hp;rw [List.mem_singleton.1 (show p ∈ [(n,b)] from hp)];exact ⟨Nat.le_refl _,hn2⟩
 ·
  intro k k1 k2;have k1':n <= k:=k1;show f (sgf nm k)=([(n,b)].find? fun p=>decide (p.1=k)).map Prod.snd;by_cases e:k=n
  ·subst e;rw [h5];simp
  ·rw [h7 k (by omega) k2];simp;omega
 ·show (fc b).b=_;rw [h6];rfl
 ·show _ <= (fc b).lasts /\ (fc b).lasts <= _;rw [h6];exact ⟨Nat.le_refl _,Nat.le_refl _⟩
end Go.Log
end
section
namespace Go.Log
open Go.Vfs
variable {nm:ByteArray} {X Y Z:Ds} {P P':Sh -> Prop} {e:Int} {s t:ByteArray} {h g:Sh} {f:Dir} {fc:Nat -> Fl}
structure In (nm:ByteArray) (X:Ds) (P:Sh -> Prop):Prop where
 wf:Wf X
 all:∀ f,Rch X f -> ∃ h,P h /\ Shape nm f X.fc h
theorem In.mono (h:In nm X P) (hP:∀ h,P h -> P' h):In nm X P':=⟨h.wf,fun f hf=>(h.all f hf).imp fun _ g=>⟨hP _ g.1,g.2⟩⟩
theorem In.live (h:In nm X P):∃ h,P h /\ Shape nm X.dir X.fc h:=h.all _ (.inl rfl)
theorem In.fresh (h:In nm X P) {b:Nat} (hb:∀ c,Ref X.D c -> c ≠ b):In nm X fun h=>P h /\ ¬ h.blocks b:=by
 refine ⟨h.wf,fun f hf=>?_⟩;obtain ⟨g,h1,h2⟩:=h.all f hf;refine ⟨g,⟨h1,fun hb2=>?_⟩,h2⟩;obtain ⟨t,ht⟩:=h2.blocks_at hb2;exact hb b (hf.ref h.wf t b ht) rfl
theorem In.con (h:In nm X P) (hs:Sm X Y) (hf:∀ h b,P h -> h.blocks b -> Y.fc b=X.fc b):In nm Y P:=by
 refine ⟨hs.wf h.wf,fun f hr=>?_⟩;obtain ⟨g,h1,h2⟩:=h.all f (hs.rch hr);exact ⟨g,h1,h2.ofCon fun b hb=>hf g b h1 hb⟩
theorem In.same (h:In nm X P) (hs:Sm X Y) (hf:Y.fc=X.fc):In nm Y P:=h.con hs fun _ b _ _=>by rw [hf]
theorem In.write (h:In nm X P) (hs:Sm X Y) {b:Nat} {x:Fl} (hf:Y.fc=setf X.fc b x) (hP:∀ h f,P h -> Shape nm f X.fc h -> ∃ h',P' h' /\ Shape nm f (setf X.fc b x) h'):In nm Y P':=by
 refine ⟨hs.wf h.wf,fun f hr=>?_⟩;obtain ⟨g,h1,h2⟩:=h.all f (hs.rch hr);rw [hf];exact hP g f h1 h2
theorem In.other (h:In nm X P) (hs:Sm X Y) {b:Nat} {x:Fl} (hf:Y.fc=setf X.fc b x) (hb:∀ h,P h -> ¬ h.blocks b):In nm Y P :=
 h.con hs fun g c h1 h2=>by rw [hf];exact z0i _ _ (fun e=>hb g h1 (e ▸ h2))
theorem In.step (h:In nm X P) {l:List (ByteArray × Nat)} {st:Stp} (hd:Dn X Y l st) (hw:st.act=0 -> ∃ b,st.f=some b) (hl:flook l=Dir.again X.dir st) (hf:∀ h b,P h -> h.blocks b -> Y.fc b=X.fc b) (hP:∀ h,P h -> P' h)
  (ha:∀ f h,P h -> Shape nm f Y.fc h -> ∃ h',P' h' /\ Shape nm (Dir.again f st) Y.fc h'):In nm Y P':=by
 refine ⟨hd.wf h.wf hw,fun f hr=>?_⟩;have key:∀ g,Rch X g -> ∃ h,P h /\ Shape nm g Y.fc h:=fun g hg=>by
  obtain ⟨q,h1,h2⟩:=h.all g hg;exact ⟨q,h1,h2.ofCon fun b hb=>hf q b h1 hb⟩
 rcases hd.rch hr with e | ⟨g,hg,e | e⟩
 ·obtain ⟨q,h1,h2⟩:=key X.dir (.inl rfl);rw [e,hl];exact ha _ q h1 h2
 ·obtain ⟨q,h1,h2⟩:=key g (.inr hg);rw [e];exact ⟨q,hP q h1,h2⟩
 ·obtain ⟨q,h1,h2⟩:=key g (.inr hg);rw [e];exact ha _ q h1 h2
theorem z2f (f:Dir) (s:ByteArray) (b:Nat):f.again ⟨0,s,ByteArray.empty,some b⟩=if (f s).isSome then f else f.put s b:=by
 unfold Dir.again;rw [if_pos rfl];rfl
theorem zbx (f:Dir) (s t:ByteArray):f.again ⟨1,s,t,none⟩=match f s with | none=>f | some b=>(f.del s).put t b:=rfl
theorem z7b (f:Dir) (s:ByteArray):f.again ⟨2,s,ByteArray.empty,none⟩=f.del s:=rfl
theorem Shape.put (hs:Shape nm f fc h) (ht:¬ h.names nm t) (b:Nat):Shape nm (Dir.put f t b) fc h :=
 hs.ofDir fun u hu=>if_neg fun e:u=t=>ht (e ▸ hu)
theorem Shape.del (hs:Shape nm f fc h) (ht:h.names nm t -> f t=none):Shape nm (Dir.del f t) fc h :=
 hs.ofDir fun u hu=>by
  unfold Dir.del;split
  ·rename_i e;subst e;exact (ht hu).symm
  ·rfl
theorem In.made (h:In nm X P) {b:Nat} (hb:∀ c,Ref X.D c -> c ≠ b) (hn:X.dir s=none) (hd:Dn X Y (X.D.files ++ [(s,b)]) ⟨0,s,ByteArray.empty,some b⟩) (hf:Y.fc=fun k=>if k=b then ⟨[],0⟩ else X.fc k) (hs:∀ f h,P h -> Shape nm f Y.fc h -> ¬ h.names nm s):In nm Y fun h=>P h /\ ¬ h.blocks b:=by
 refine (h.fresh hb).step hd (fun _=>⟨b,rfl⟩) ?_ (fun g c hg hc=>?_) (fun _ g=>g) (fun f g hg hsh=>?_)
 ·rw [z2f,hn,z0e hn];rfl
 ·rw [hf];exact if_neg fun e:c=b=>hg.2 (e ▸ hc)
 ·
  refine ⟨g,hg,?_⟩;rw [z2f];split
  ·exact hsh
  ·exact hsh.put (hs f g hg.1 hsh) b
theorem In.rm (h:In nm X P) (hd:Dn X Y (fdel X.D.files s) ⟨2,s,ByteArray.empty,none⟩) (hf:Y.fc=X.fc) (hs:∀ f h,P h -> Shape nm f Y.fc h -> h.names nm s -> f s=none):In nm Y P:=by
 refine h.step hd (fun e=>by cases e) ?_ (fun g c hg hc=>by rw [hf]) (fun _ g=>g) (fun f g hg hsh=>?_)
 ·rw [z7b,z0l];rfl
 ·exact ⟨g,hg,by rw [z7b];exact hsh.del (hs f g hg hsh)⟩
theorem In.grow (h:In nm X (·=g)) (hq:g.q=(enc g.rs).length) (hdu:g.du=g.rs.length) {n b:Nat} (hn:g.m < n) (hn2:n <= mxn) (hb:∀ c,Ref X.D c -> c ≠ b) (h0:X.dir (sgf nm n)=none) (hd:Dn X Y (X.D.files ++ [(sgf nm n,b)]) ⟨0,sgf nm n,ByteArray.empty,some b⟩) (hf:Y.fc=fun k=>if k=b then ⟨[],0⟩ else X.fc k) :
  In nm Y (fun h=>(h=g \/ h=g.grow n b) /\ ¬ g.blocks b):=by
 have hne:¬ g.blocks b:=by
  obtain ⟨q,⟨rfl,h1⟩,-⟩:=(h.fresh hb).live;exact h1
 refine (h.fresh hb).step hd (fun _=>⟨b,rfl⟩) ?_ (fun q c hg hc=>?_) (fun q hq=>⟨.inl hq.1,hne⟩) (fun f q hg hsh=>?_)
 ·rw [z2f,h0,z0e h0];rfl
 ·rw [hf];exact if_neg fun e:c=b=>hg.2 (e ▸ hc)
 ·
  obtain ⟨rfl,h1⟩:=hg;rw [z2f];split
  ·exact ⟨q,⟨.inl rfl,hne⟩,hsh⟩
  ·exact ⟨_,⟨.inr rfl,hne⟩,hsh.grow hq hdu hn hn2 h1 (by rw [hf];exact if_pos rfl)⟩
theorem In.synced (h:In nm X (·=g)) (hq:g.q=(enc g.rs).length) (hy:syO (sgf nm g.m) X 0 Y):In nm Y (·={ g with du:=g.rs.length }) /\ Sm X Y:=by
 obtain ⟨hs,⟨h0,-⟩ | ⟨-,b,hb,hf⟩⟩:=z0c hy
 ·exact absurd rfl h0
 ·obtain ⟨q,rfl,h1⟩:=h.live;have e:b=q.b:=Option.some.inj (hb.symm.trans h1.lastAt);subst e;refine ⟨h.write hs hf fun g' f hg hsh=>?_,hs⟩;subst hg;exact ⟨_,rfl,hsh.synced hq⟩
theorem zcw {l:List ByteArray} (hs:s ∈ l):sgn nm s <= nxL nm l /\ snn nm s <= nxL nm l:=by
 induction l with
 | nil=>cases hs
 | cons a l ih =>
  show sgn nm s <= max (max (sgn nm a) (snn nm a)) (nxL nm l) /\ snn nm s <= max (max (sgn nm a) (snn nm a)) (nxL nm l);rcases List.mem_cons.1 hs with rfl | hs
  ·omega
  ·have:=ih hs;omega
theorem z6s {b:Nat} (h:X.dir s=some b):s ∈ X.D.files.map Prod.fst:=List.mem_map.2 ⟨_,zn h,rfl⟩
theorem zcx {k b:Nat} (h1:1 <= k) (h2:k <= mxn) (h:X.dir (sgf nm k)=some b):k <= nx nm X:=by
 have:=(zcw (nm:=nm) (z6s h)).1
 rwa [z1n nm h1 h2] at this
theorem zae {k b:Nat} (h1:1 <= k) (h2:k <= mxn) (h:X.dir (snf nm k)=some b):k <= nx nm X:=by
 have:=(zcw (nm:=nm) (z6s h)).2
 rwa [z2t nm h1 h2] at this
theorem z3z {k:Nat} (h1:nx nm X < k) (h2:k <= mxn):X.dir (sgf nm k)=none /\ X.dir (snf nm k)=none:=by
 constructor
 ·
  cases e:X.dir (sgf nm k) with
  | none=>rfl
  | some b=>have:=zcx (by omega) h2 e;omega
 ·
  cases e:X.dir (snf nm k) with
  | none=>rfl
  | some b=>have:=zae (by omega) h2 e;omega
theorem z58 (hs:Sm X Y):nx nm Y=nx nm X:=by unfold nx;rw [hs.files]
theorem Shape.nx (hs:Shape nm X.dir X.fc h):h.m <= nx nm X /\ h.s <= nx nm X:=by
 have:=hs.m1;have:=hs.f1;refine ⟨zcx (by omega) (by omega) hs.lastAt,?_⟩;rcases hs.snap with ⟨h0,-⟩ | ⟨h1,x,-,-,h2,-⟩
 ·omega
 ·exact zae h1 hs.s1 h2
theorem zco {k:Nat} (h1:1 <= k) (h2:k <= mxn) (hk:k ≠ h.s) (hs1:h.s <= mxn) (hf:1 <= h.first):¬ h.names nm (snf nm k):=by
 rintro (e | ⟨g1,e⟩ | ⟨j,g1,g2,e⟩)
 ·exact z6l nm h1 h2 e
 ·exact hk (zh6 nm h1 h2 g1 hs1 e)
 ·exact z2o nm (by omega) g2 e.symm
theorem z4i (hs1:h.s <= mxn) (hf:1 <= h.first):¬ h.names nm (newf nm):=by
 rintro (e | ⟨g1,e⟩ | ⟨j,g1,g2,e⟩)
 ·exact zb8 nm e.symm
 ·exact z6m nm g1 hs1 e.symm
 ·exact z2n nm (by omega) g2 e.symm
end Go.Log
end
section
namespace Go.Log
open Go.Vfs
variable {nm:ByteArray} {X Y Z:Ds} {P P':Sh -> Prop} {e:Int} {s t:ByteArray} {h g:Sh} {f:Dir} {fc:Nat -> Fl} {L L':Lg} {x:List Nat}
theorem zj {o:Op} {l:List Op} (h:askO (o :: l) X e Y):(e ≠ 0 /\ o X e Y) \/ ∃ Z,o X 0 Z /\ askO l Z e Y:=by
 obtain ⟨e1,Z,h1,⟨h2,rfl,rfl⟩ | ⟨rfl,h3⟩⟩:=h
 ·exact .inl ⟨h2,h1⟩
 ·exact .inr ⟨Z,h1,h3⟩
theorem z06 {o:Op} (h:askO [o] X e Y):o X e Y:=by
 rcases zj h with ⟨-,h⟩ | ⟨Z,h1,rfl,rfl⟩
 ·exact h
 ·exact h1
theorem z6c (h:In nm X P) (hs:∀ f fc h,P h -> Shape nm f fc h -> ¬ h.names nm s) (hp:putO s x X e Y) :
  In nm Y P /\ (e=0 -> X.dir s=none /\ ∃ b,(∀ t c,X.dir t=some c -> c ≠ b) /\ In nm Y (fun h=>P h /\ ¬ h.blocks b) /\ Y.dir=Dir.put X.dir s b /\ Y.fc b=⟨recd x,(recd x).length⟩ /\ ∀ c,c ≠ b -> Y.fc c=X.fc c):=by
 rcases zj hp with ⟨h0,h1⟩ | ⟨Z1,h1,hp⟩
 ·
  rcases z0j h1 with ⟨-,h2,h3⟩ | ⟨h2,-⟩
  ·exact ⟨h.same h2 h3,fun e0=>absurd e0 h0⟩
  ·exact absurd h2 h0
 rcases z0j h1 with ⟨h2,-⟩ | ⟨-,hn,-,b,hb,hd,hf⟩
 ·exact absurd rfl h2
 have i1:=h.made hb hn hd hf (fun f g hg hsh=>hs f _ g hg hsh);have d1:Z1.dir=Dir.put X.dir s b:=by unfold Ds.dir;rw [hd.files,z0e hn]
 have hb':∀ t c,X.dir t=some c -> c ≠ b:=fun t c ht=>hb c (.inl ⟨_,zn ht,rfl⟩);have d1s:Z1.dir s=some b:=by rw [d1];exact if_pos rfl
 have f1:Z1.fc b=⟨[],0⟩:=by rw [hf];exact if_pos rfl
 have f2:∀ c,c ≠ b -> Z1.fc c=X.fc c:=fun c hc=>by rw [hf];exact if_neg hc
 clear hd hf h1;rcases zj hp with ⟨h0,h1⟩ | ⟨Z2,h1,hp⟩
 ·
  obtain ⟨h2,⟨-,h3⟩ | ⟨b',k,h3,-,-,h4⟩⟩:=z0p h1
  ·exact ⟨(i1.same h2 h3).mono fun _ g=>g.1,fun e0=>absurd e0 h0⟩
  ·obtain rfl:b'=b:=Option.some.inj (h3.symm.trans d1s);exact ⟨(i1.other h2 h4 fun _ g=>g.2).mono fun _ g=>g.1,fun e0=>absurd e0 h0⟩
 obtain ⟨h2,⟨h3,-⟩ | ⟨b',k,h3,-,hk,h4⟩⟩:=z0p h1
 ·exact absurd rfl h3
 obtain rfl:b'=b:=Option.some.inj (h3.symm.trans d1s);have i2:=i1.other h2 h4 fun _ g=>g.2;have d2:Z2.dir=Dir.put X.dir s b':=h2.dir.trans d1;have d2s:Z2.dir s=some b':=by rw [d2];exact if_pos rfl
 have g1:Z2.fc b'=⟨recd x,0⟩:=by rw [h4,z0f,f1,hk rfl,List.take_length];rfl
 have g2:∀ c,c ≠ b' -> Z2.fc c=X.fc c:=fun c hc=>by rw [h4,z0i _ _ hc];exact f2 c hc
 clear h1 h2 h3 h4 hk f1 f2 i1 d1 d1s;have h1:=z06 hp;obtain ⟨h2,⟨h0,h3⟩ | ⟨-,b,h3,h4⟩⟩:=z0c h1
 ·exact ⟨(i2.same h2 h3).mono fun _ g=>g.1,fun e0=>absurd e0 h0⟩
 ·obtain rfl:b=b':=Option.some.inj (h3.symm.trans d2s);have i3:=i2.other h2 h4 fun _ g=>g.2;exact ⟨i3.mono fun _ g=>g.1,fun _=>⟨hn,b,hb',i3,h2.dir.trans d2,by rw [h4,z0f,g1],fun c hc=>by rw [h4,z0i _ _ hc];exact g2 c hc⟩⟩
def manD (nm:ByteArray) (f:Dir) (b:Nat):Dir:=fun t=>if t=manf nm then some b else if t=newf nm then none else f t
theorem z4r (hr:rmnO s X e Y):Y.fc=X.fc /\ (Sm X Y \/ Dn X Y (fdel X.D.files s) ⟨2,s,ByteArray.empty,none⟩):=by
 obtain ⟨e1,h1,h2⟩:=hr;obtain ⟨h3,⟨-,h4,-⟩ | ⟨-,b,-,h4⟩⟩:=z1k h1
 ·exact ⟨h3,.inl h4⟩
 ·exact ⟨h3,.inr h4⟩
theorem zak (h:Sm X Y \/ Dn X Y (fdel X.D.files s) ⟨2,s,ByteArray.empty,none⟩):Y.dir=X.dir \/ Y.dir=Dir.del X.dir s:=by
 rcases h with h | h
 ·exact .inl h.dir
 ·right;unfold Ds.dir;rw [h.files,z0l]
theorem man_in {s n:Nat} (h:In nm X P) (hP:∀ h,P h -> P' h) (hm:manO nm s n X e Y)
  (hnew:∀ b fc,(∀ t c,t ≠ newf nm -> X.dir t=some c -> c ≠ b) -> fc b=⟨recd (mrec s n),(recd (mrec s n)).length⟩ -> (∀ c,c ≠ b -> fc c=X.fc c) -> ∃ h',P' h' /\ Shape nm (manD nm X.dir b) fc h') :
  In nm Y P' /\ (e=0 -> ∃ b,(∀ t c,t ≠ newf nm -> X.dir t=some c -> c ≠ b) /\ Y.dir=manD nm X.dir b /\ Y.fc b=⟨recd (mrec s n),(recd (mrec s n)).length⟩ /\ (∀ c,c ≠ b -> Y.fc c=X.fc c) /\ ∀ f,Rch Y f -> f=Y.dir):=by
 have rmI:∀ {e Z},rmnO (newf nm) X e Z -> In nm Z P:=fun hr=>by
  obtain ⟨h1,h2 | h2⟩:=z4r hr
  ·exact h.same h2 h1
  ·exact h.rm h2 h1 fun f g hg hsh hn=>absurd hn (z4i hsh.s1 hsh.f1)
 rcases zj hm with ⟨h0,h1⟩ | ⟨Z1,h1,hm⟩
 ·exact ⟨(rmI h1).mono hP,fun e0=>absurd e0 h0⟩
 have i1:=rmI h1;obtain ⟨f1,d1⟩:=z4r h1;have d1:=zak d1;clear h1 rmI;rcases zj hm with ⟨h0,h1⟩ | ⟨Z2,h1,hm⟩
 ·exact ⟨(z6c i1 (fun f fc g _ hsh=>z4i hsh.s1 hsh.f1) h1).1.mono hP,fun e0=>absurd e0 h0⟩
 obtain ⟨i2,h2⟩:=z6c i1 (fun f fc g _ hsh=>z4i hsh.s1 hsh.f1) h1;obtain ⟨hn,b,hb,-,d2,f2,f3⟩:=h2 rfl;have d1':∀ t,Z1.dir t=if t=newf nm then none else X.dir t:=fun t=>by
  by_cases ht:t=newf nm
  ·rw [if_pos ht,ht];exact hn
  ·
   rw [if_neg ht];rcases d1 with d1 | d1
   ·rw [d1]
   ·rw [d1];exact if_neg ht
 have d2':∀ t,Z2.dir t=if t=newf nm then some b else X.dir t:=fun t=>by
  rw [d2];show (if t=newf nm then some b else Z1.dir t)=_;by_cases ht:t=newf nm
  ·rw [if_pos ht,if_pos ht]
  ·rw [if_neg ht,if_neg ht,d1' t,if_neg ht]
 have hb':∀ t c,t ≠ newf nm -> X.dir t=some c -> c ≠ b:=fun t c ht hc=>hb t c (by rw [d1' t,if_neg ht];exact hc);have f3':∀ c,c ≠ b -> Z2.fc c=X.fc c:=fun c hc=>(f3 c hc).trans (by rw [f1]);clear h1 h2 hn d1 d1' f1 f3 d2 hb i1 h;rcases zj hm with ⟨h0,h1⟩ | ⟨Z3,h1,hm⟩
 ·
  obtain ⟨h2,⟨-,h3⟩ | ⟨h3,-⟩⟩:=z0k h1
  ·exact ⟨(i2.same h3 h2).mono hP,fun e0=>absurd e0 h0⟩
  ·exact absurd h3 h0
 obtain ⟨f4,⟨h0,-⟩ | ⟨-,g1,g2,g3,g4⟩⟩:=z0k h1
 ·exact absurd rfl h0
 have r3:∀ f,Rch Z3 f -> f=Z3.dir:=fun f hf=>by rw [z3p h1 hf];unfold Ds.dir;rw [g1]
 have d3:Z3.dir=Z2.dir:=by unfold Ds.dir;rw [g1]
 have w3:Wf Z3:=by unfold Wf;rw [g3];intro s hs;cases hs
 have i3:In nm Z3 P:=⟨w3,fun f hf=>by
  obtain ⟨q,h1,h2⟩:=i2.live
  rw [r3 f hf,d3,f4];exact ⟨q,h1,h2⟩⟩
 have d3':∀ t,Z3.dir t=if t=newf nm then some b else X.dir t:=fun t=>by rw [d3];exact d2' t
 rw [<- f4] at f2 f3';clear h1 g1 g2 g3 g4 f4 d3 d2' i2 w3;have dn:Z3.dir (newf nm)=some b:=by rw [d3',if_pos rfl]
 have fin:∀ f:Dir,f=Dir.put (Dir.del Z3.dir (newf nm)) (manf nm) b -> f=manD nm X.dir b:=fun f hf=>by
  subst hf;funext t;show (if t=manf nm then some b else if t=newf nm then none else Z3.dir t)=if t=manf nm then some b else if t=newf nm then none else X.dir t
  by_cases h1:t=manf nm
  ·rw [if_pos h1,if_pos h1]
  ·
   rw [if_neg h1,if_neg h1];by_cases h2:t=newf nm
   ·rw [if_pos h2,if_pos h2]
   ·rw [if_neg h2,if_neg h2,d3',if_neg h2]
 rcases zj hm with ⟨h0,h1⟩ | ⟨Z4,h1,hm⟩
 ·
  obtain ⟨h2,⟨-,h3⟩ | ⟨h3,-⟩⟩:=z1x h1
  ·exact ⟨(i3.same h3 h2).mono hP,fun e0=>absurd e0 h0⟩
  ·exact absurd h3 h0
 obtain ⟨f4,⟨h0,-⟩ | ⟨-,b',hb2,hd⟩⟩:=z1x h1
 ·exact absurd rfl h0
 obtain rfl:b'=b:=Option.some.inj (hb2.symm.trans dn);have hag:Dir.again Z3.dir ⟨1,newf nm,manf nm,none⟩=Dir.put (Dir.del Z3.dir (newf nm)) (manf nm) b':=by rw [zbx,dn]
 have hl:flook (fput (fdel Z3.D.files (newf nm)) (manf nm) b')=Dir.put (Dir.del Z3.dir (newf nm)) (manf nm) b':=by rw [z2d,z0l];rfl
 rw [<- f4] at f2 f3';have d4:Z4.dir=manD nm X.dir b':=fin _ (by unfold Ds.dir;rw [hd.files];exact hl);have nw:=hnew b' Z4.fc hb' f2 f3';have i4:In nm Z4 P':=by
  refine ⟨hd.wf i3.wf (fun e=>by cases e),fun f hf=>?_⟩;rcases hd.rch hf with e | ⟨g,hg,e | e⟩
  ·rw [fin f (e.trans hl)];exact nw
  ·obtain ⟨q,h1,h2⟩:=i3.all g (.inr hg);rw [e,f4];exact ⟨q,hP q h1,h2⟩
  ·rw [fin f (by rw [e,r3 g (.inr hg)];exact hag)];exact nw
 have h1:=z06 hm;obtain ⟨f5,⟨h0,h3⟩ | ⟨h0,g1,g2,g3,g4⟩⟩:=z0k h1
 ·exact ⟨i4.same h3 f5,fun e0=>absurd e0 h0⟩
 ·
  subst h0;have r5:∀ f,Rch Y f -> f=Y.dir:=fun f hf=>by rw [z3p h1 hf];unfold Ds.dir;rw [g1]
  have d5:Y.dir=manD nm X.dir b':=by rw [<- d4];unfold Ds.dir;rw [g1]
  refine ⟨⟨(by unfold Wf;rw [g3];intro s hs;cases hs),fun f hf=>?_⟩,fun _=>⟨b',hb',d5,by rw [f5];exact f2,fun c hc=>by rw [f5];exact f3' c hc,r5⟩⟩;rw [r5 f hf,d5,f5];exact nw
structure LI (nm:ByteArray) (L:Lg) (X:Ds) (h:Sh):Prop where
 inn:In nm X (·=h)
 full:h.q=(enc h.rs).length
 name:L.name=nm
 nob:L.bad=false
 first:L.first=h.first
 seg:L.segment=h.m
 segs:L.segments=h.cl.length + 1
 size:L.size=h.q
 recs:L.recs=h.closed ++ h.rs
 syn:L.synced <= h.closed.length + h.du
 snap:(h.sn=none /\ L.has=false /\ L.snap=[]) \/ ∃ x,h.sn=some x /\ L.has=true /\ L.snap=x
theorem LI.shape (h:LI nm L X g):Shape nm X.dir X.fc g:=by obtain ⟨q,rfl,hq⟩:=h.inn.live;exact hq
theorem LI.may (h:LI nm L X g) {n:Nat} (hn:n <= mxr):mayE L n=0:=by
 unfold mayE;rw [if_neg (by omega),h.nob];rfl
theorem LI.atseg (h:LI nm L X g):L.seg=sgf nm g.m:=by unfold Lg.seg;rw [h.name,h.seg]
theorem zbl (h:LI nm L X g) (hr:synR L X e L' Y):(e=0 /\ L'={ L with synced:=L.recs.length } /\ LI nm L' Y { g with du:=g.rs.length }) \/ (e ≠ 0 /\ L'={ L with bad:=true } /\ In nm Y (·=g)):=by
 rcases hr with ⟨h0,-⟩ | ⟨-,h1,⟨h2,h3⟩ | ⟨h2,h3⟩⟩
 ·exact absurd (h.may (Nat.zero_le _)) h0
 ·
  rw [h.atseg] at h1;obtain ⟨q1,⟨-,q2⟩ | ⟨q2,-⟩⟩:=z0c h1
  ·exact .inr ⟨h2,h3,h.inn.same q1 q2⟩
  ·exact absurd q2 h2
 ·subst h2 h3;rw [h.atseg] at h1;refine .inl ⟨rfl,rfl,{ h with inn:=(h.inn.synced h.full h1).1,full:=h.full,syn:=?_ }⟩;show L.recs.length <= g.closed.length + g.rs.length;rw [h.recs,List.length_append];exact Nat.le_refl _
theorem zei (h:LI nm L X g) (hr:onR L X e L' Y):(e=0 /\ ∃ b,L'={ L with segment:=nx nm X + 1,size:=0,synced:=L.recs.length,segments:=L.segments + 1 } /\ LI nm L' Y (Sh.grow { g with du:=g.rs.length } (nx nm X + 1) b)) \/
  (e ≠ 0 /\ L'={ L with bad:=true } /\ In nm Y fun h=>h=g \/ h={ g with du:=g.rs.length } \/ ∃ n b,h=Sh.grow { g with du:=g.rs.length } n b):=by
 obtain ⟨h1,h2⟩:=hr;rw [h.atseg] at h1;obtain rfl:nm=L.name:=h.name.symm
 have bad:∀ {P:Sh -> Prop},e ≠ 0 -> In L.name Y P -> (∀ h,P h -> h=g \/ h={ g with du:=g.rs.length } \/ ∃ n b,h=Sh.grow { g with du:=g.rs.length } n b) -> (e=0 /\ ∃ b,L'={ L with segment:=nx L.name X + 1,size:=0,synced:=L.recs.length,segments:=L.segments + 1 } /\ LI L.name L' Y (Sh.grow { g with du:=g.rs.length } (nx L.name X + 1) b)) \/
  (e ≠ 0 /\ L'={ L with bad:=true } /\ In L.name Y fun h=>h=g \/ h={ g with du:=g.rs.length } \/ ∃ n b,h=Sh.grow { g with du:=g.rs.length } n b):=fun h0 hi hP=>by
  rcases h2 with ⟨-,h2⟩ | ⟨h2,-⟩
  ·exact .inr ⟨h0,h2,hi.mono hP⟩
  ·exact absurd h2 h0
 rcases zj h1 with ⟨h0,h1⟩ | ⟨Z1,h1,hk⟩
 ·
  obtain ⟨q1,⟨-,q2⟩ | ⟨q2,-⟩⟩:=z0c h1
  ·exact bad h0 (h.inn.same q1 q2) fun _ e=>.inl e
  ·exact absurd q2 h0
 obtain ⟨i1,s1⟩:=h.inn.synced h.full h1;have sh1:Shape L.name Z1.dir Z1.fc { g with du:=g.rs.length }:=by obtain ⟨q,rfl,hq⟩:=i1.live;exact hq
 have n1:nx L.name Z1=nx L.name X:=z58 s1;clear h1;rcases zj hk with ⟨h0,-,h1⟩ | ⟨Z2,⟨h1,e2⟩,hk2⟩
 ·subst h1;exact bad h0 i1 fun _ e=>.inr (.inl e)
 clear hk;subst e2;have hlt:nx L.name X < mxn:=by
  unfold nxE at h1;split at h1
  ·cases h1
  ·omega
 have hno:=z3z (nm:=L.name) (X:=Z2) (k:=nx L.name X + 1) (by omega) (by omega);have hmm:=sh1.nx (h:={ g with du:=g.rs.length });have hm1:g.m <= nx L.name X:=by have:({ g with du:=g.rs.length }:Sh).m <= nx L.name Z2:=hmm.1;rw [n1] at this;exact this
 rcases zj hk2 with ⟨h0,h3⟩ | ⟨Z3,h3,hk⟩
 ·
  rcases z0j h3 with ⟨-,q1,q2⟩ | ⟨q1,-⟩
  ·exact bad h0 (i1.same q1 q2) fun _ e=>.inr (.inl e)
  ·exact absurd q1 h0
 rcases z0j h3 with ⟨q1,-⟩ | ⟨-,-,-,b,hb,hd,hf⟩
 ·exact absurd rfl q1
 have i3:=In.grow (g:={ g with du:=g.rs.length }) i1 h.full rfl (n:=nx L.name X + 1) (by show g.m < _;omega) (by omega) hb hno.1 hd hf;have i3':In L.name Z3 fun h=>h={ g with du:=g.rs.length } \/ h=Sh.grow { g with du:=g.rs.length } (nx L.name X + 1) b:=i3.mono fun _ e=>e.1;have d3:Z3.dir=Dir.put Z2.dir (sgf L.name (nx L.name X + 1)) b:=by unfold Ds.dir;rw [hd.files,z0e hno.1]
 have h4:=z06 hk;obtain ⟨f5,⟨h0,q1⟩ | ⟨h0,g1,g2,g3,g4⟩⟩:=z0k h4
 ·exact bad h0 (i3'.same q1 f5) fun _ e=>e.elim (fun e=>.inr (.inl e)) (fun e=>.inr (.inr ⟨_,_,e⟩))
 ·
  subst h0;rcases h2 with ⟨h2,-⟩ | ⟨-,h2⟩
  ·exact absurd rfl h2
  refine .inl ⟨rfl,b,h2,?_⟩;subst h2;have d5:Y.dir=Z3.dir:=by unfold Ds.dir;rw [g1]
  have lv:Shape L.name Y.dir Y.fc (Sh.grow { g with du:=g.rs.length } (nx L.name X + 1) b):=by
   rw [d5,d3,f5];have hnb:¬ Sh.blocks { g with du:=g.rs.length } b:=by obtain ⟨q,⟨-,h1⟩,-⟩:=i3.live;exact h1
   refine (sh1.ofCon fun c hc=>?_).grow h.full rfl (by show g.m < _;omega) (by omega) hnb (by rw [hf];exact if_pos rfl);rw [hf];exact if_neg fun e:c=b=>hnb (e ▸ hc)
  refine { inn:=⟨(by unfold Wf;rw [g3];intro s hs;cases hs),fun f hf=>⟨_,rfl,?_⟩⟩,full:=rfl,name:=h.name,nob:=h.nob,first:=h.first,seg:=rfl,segs:=?_,size:=rfl,recs:=?_,syn:=?_,snap:=h.snap }
  ·
   have:f=Y.dir:=by rw [z3p h4 hf,d5]
   rw [this];exact lv
  ·show L.segments + 1=(g.cl ++ [_]).length + 1;rw [h.segs];simp
  ·show L.recs=(Sh.grow _ _ _).closed ++ [];rw [z0v,List.append_nil];exact h.recs
  ·show L.recs.length <= (Sh.grow _ _ _).closed.length + 0;rw [z0v,h.recs];exact Nat.le_refl _
end Go.Log
end
