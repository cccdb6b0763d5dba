import Derived.Test.YtpjomdmjohjheaaGreatDoorF4
set_option linter.unusedVariables false
set_option linter.unusedSimpArgs false
set_option maxRecDepth 100000
set_option maxHeartbeats 8000000
section
namespace Go.Log
open Go.Vfs
variable {nm:ByteArray} {X Y Z:Ds} {P P':Sh -> Prop} {e:Int} {s t:ByteArray} {h g:Sh} {f:Dir} {fc:Nat -> Fl} {L L':Lg} {x:List Nat}
theorem zi {o:Op} {l:List Op} (h:askO (o :: l) X e Y):(e ≠ 0 /\ o X e Y) \/ ∃ Z,o X 0 Z /\ askO l Z e Y:=by
 obtain ⟨e1,Z,h1,⟨h2,rfl,rfl⟩ | ⟨rfl,h3⟩⟩:=h
 ·exact .inl ⟨h2,h1⟩
 ·exact .inr ⟨Z,h1,h3⟩
theorem z04 {o:Op} (h:askO [o] X e Y):o X e Y:=by
 rcases zi h with ⟨-,h⟩ | ⟨Z,h1,rfl,rfl⟩
 ·exact h
 ·exact h1
theorem z6q (h:In nm X P) (hs:∀ f fc h,P h -> Shape nm f fc h -> ¬ h.names nm s) (hp:putO s x X e Y) :
  In nm Y P /\ (e=0 -> X.dir s=none /\ ∃ b,(∀ t c,X.dir t=some c -> c ≠ b) /\ In nm Y (fun h=>P h /\ ¬ h.blocks b) /\ Y.dir=Dir.put X.dir s b /\ Y.fc b=⟨recd x,(recd x).length⟩ /\ ∀ c,c ≠ b -> Y.fc c=X.fc c):=by
 rcases zi hp with ⟨h0,h1⟩ | ⟨Z1,h1,hp⟩
 ·
  rcases z0l h1 with ⟨-,h2,h3⟩ | ⟨h2,-⟩
  ·exact ⟨h.same h2 h3,fun e0=>absurd e0 h0⟩
  ·exact absurd h2 h0
 rcases z0l h1 with ⟨h2,-⟩ | ⟨-,hn,-,b,hb,hd,hf⟩
 ·exact absurd rfl h2
 have i1:=h.made hb hn hd hf (fun f g hg hsh=>hs f _ g hg hsh);have d1:Z1.dir=Dir.put X.dir s b:=by unfold Ds.dir;rw [hd.files,z0g hn]
 have hb':∀ t c,X.dir t=some c -> c ≠ b:=fun t c ht=>hb c (.inl ⟨_,zq ht,rfl⟩);have d1s:Z1.dir s=some b:=by rw [d1];exact if_pos rfl
 have f1:Z1.fc b=⟨[],0⟩:=by rw [hf];exact if_pos rfl
 have f2:∀ c,c ≠ b -> Z1.fc c=X.fc c:=fun c hc=>by rw [hf];exact if_neg hc
 clear hd hf h1;rcases zi hp with ⟨h0,h1⟩ | ⟨Z2,h1,hp⟩
 ·
  obtain ⟨h2,⟨-,h3⟩ | ⟨b',k,h3,-,-,h4⟩⟩:=z0n h1
  ·exact ⟨(i1.same h2 h3).mono fun _ g=>g.1,fun e0=>absurd e0 h0⟩
  ·obtain rfl:b'=b:=Option.some.inj (h3.symm.trans d1s);exact ⟨(i1.other h2 h4 fun _ g=>g.2).mono fun _ g=>g.1,fun e0=>absurd e0 h0⟩
 obtain ⟨h2,⟨h3,-⟩ | ⟨b',k,h3,-,hk,h4⟩⟩:=z0n h1
 ·exact absurd rfl h3
 obtain rfl:b'=b:=Option.some.inj (h3.symm.trans d1s);have i2:=i1.other h2 h4 fun _ g=>g.2;have d2:Z2.dir=Dir.put X.dir s b':=h2.dir.trans d1;have d2s:Z2.dir s=some b':=by rw [d2];exact if_pos rfl
 have g1:Z2.fc b'=⟨recd x,0⟩:=by rw [h4,z0j,f1,hk rfl,List.take_length];rfl
 have g2:∀ c,c ≠ b' -> Z2.fc c=X.fc c:=fun c hc=>by rw [h4,z0k _ _ hc];exact f2 c hc
 clear h1 h2 h3 h4 hk f1 f2 i1 d1 d1s;have h1:=z04 hp;obtain ⟨h2,⟨h0,h3⟩ | ⟨-,b,h3,h4⟩⟩:=z0e h1
 ·exact ⟨(i2.same h2 h3).mono fun _ g=>g.1,fun e0=>absurd e0 h0⟩
 ·obtain rfl:b=b':=Option.some.inj (h3.symm.trans d2s);have i3:=i2.other h2 h4 fun _ g=>g.2;exact ⟨i3.mono fun _ g=>g.1,fun _=>⟨hn,b,hb',i3,h2.dir.trans d2,by rw [h4,z0j,g1],fun c hc=>by rw [h4,z0k _ _ hc];exact g2 c hc⟩⟩
def manD (nm:ByteArray) (f:Dir) (b:Nat):Dir:=fun t=>if t=manf nm then some b else if t=newf nm then none else f t
theorem z56 (hr:rmnO s X e Y):Y.fc=X.fc /\ (Sm X Y \/ Dn X Y (fdel X.D.files s) ⟨2,s,ByteArray.empty,none⟩):=by
 obtain ⟨e1,h1,h2⟩:=hr;obtain ⟨h3,⟨-,h4,-⟩ | ⟨-,b,-,h4⟩⟩:=z1h h1
 ·exact ⟨h3,.inl h4⟩
 ·exact ⟨h3,.inr h4⟩
theorem zaw (h:Sm X Y \/ Dn X Y (fdel X.D.files s) ⟨2,s,ByteArray.empty,none⟩):Y.dir=X.dir \/ Y.dir=Dir.del X.dir s:=by
 rcases h with h | h
 ·exact .inl h.dir
 ·right;unfold Ds.dir;rw [h.files,z0i]
theorem man_in {s n:Nat} (h:In nm X P) (hP:∀ h,P h -> P' h) (hm:manO nm s n X e Y)
  (hnew:∀ b fc,(∀ t c,t ≠ newf nm -> X.dir t=some c -> c ≠ b) -> fc b=⟨recd (mrec s n),(recd (mrec s n)).length⟩ -> (∀ c,c ≠ b -> fc c=X.fc c) -> ∃ h',P' h' /\ Shape nm (manD nm X.dir b) fc h') :
  In nm Y P' /\ (e=0 -> ∃ b,(∀ t c,t ≠ newf nm -> X.dir t=some c -> c ≠ b) /\ Y.dir=manD nm X.dir b /\ Y.fc b=⟨recd (mrec s n),(recd (mrec s n)).length⟩ /\ (∀ c,c ≠ b -> Y.fc c=X.fc c) /\ ∀ f,Rch Y f -> f=Y.dir):=by
 have rmI:∀ {e Z},rmnO (newf nm) X e Z -> In nm Z P:=fun hr=>by
  obtain ⟨h1,h2 | h2⟩:=z56 hr
  ·exact h.same h2 h1
  ·exact h.rm h2 h1 fun f g hg hsh hn=>absurd hn (z4v hsh.s1 hsh.f1)
 rcases zi hm with ⟨h0,h1⟩ | ⟨Z1,h1,hm⟩
 ·exact ⟨(rmI h1).mono hP,fun e0=>absurd e0 h0⟩
 have i1:=rmI h1;obtain ⟨f1,d1⟩:=z56 h1;have d1:=zaw d1;clear h1 rmI;rcases zi hm with ⟨h0,h1⟩ | ⟨Z2,h1,hm⟩
 ·exact ⟨(z6q i1 (fun f fc g _ hsh=>z4v hsh.s1 hsh.f1) h1).1.mono hP,fun e0=>absurd e0 h0⟩
 obtain ⟨i2,h2⟩:=z6q i1 (fun f fc g _ hsh=>z4v hsh.s1 hsh.f1) h1;obtain ⟨hn,b,hb,-,d2,f2,f3⟩:=h2 rfl;have d1':∀ t,Z1.dir t=if t=newf nm then none else X.dir t:=fun t=>by
  by_cases ht:t=newf nm
  ·rw [if_pos ht,ht];exact hn
  ·
   rw [if_neg ht];rcases d1 with d1 | d1
   ·rw [d1]
   ·rw [d1];exact if_neg ht
 have d2':∀ t,Z2.dir t=if t=newf nm then some b else X.dir t:=fun t=>by
  rw [d2];show (if t=newf nm then some b else Z1.dir t)=_;by_cases ht:t=newf nm
  ·rw [if_pos ht,if_pos ht]
  ·rw [if_neg ht,if_neg ht,d1' t,if_neg ht]
 have hb':∀ t c,t ≠ newf nm -> X.dir t=some c -> c ≠ b:=fun t c ht hc=>hb t c (by rw [d1' t,if_neg ht];exact hc);have f3':∀ c,c ≠ b -> Z2.fc c=X.fc c:=fun c hc=>(f3 c hc).trans (by rw [f1]);clear h1 h2 hn d1 d1' f1 f3 d2 hb i1 h;rcases zi hm with ⟨h0,h1⟩ | ⟨Z3,h1,hm⟩
 ·
  obtain ⟨h2,⟨-,h3⟩ | ⟨h3,-⟩⟩:=z0m h1
  ·exact ⟨(i2.same h3 h2).mono hP,fun e0=>absurd e0 h0⟩
  ·exact absurd h3 h0
 obtain ⟨f4,⟨h0,-⟩ | ⟨-,g1,g2,g3,g4⟩⟩:=z0m h1
 ·exact absurd rfl h0
 have r3:∀ f,Rch Z3 f -> f=Z3.dir:=fun f hf=>by rw [z3z h1 hf];unfold Ds.dir;rw [g1]
 have d3:Z3.dir=Z2.dir:=by unfold Ds.dir;rw [g1]
 have w3:Wf Z3:=by unfold Wf;rw [g3];intro s hs;cases hs
 have i3:In nm Z3 P:=⟨w3,fun f hf=>by
  obtain ⟨q,h1,h2⟩:=i2.live
  rw [r3 f hf,d3,f4];exact ⟨q,h1,h2⟩⟩
 have d3':∀ t,Z3.dir t=if t=newf nm then some b else X.dir t:=fun t=>by rw [d3];exact d2' t
 rw [<- f4] at f2 f3';clear h1 g1 g2 g3 g4 f4 d3 d2' i2 w3;have dn:Z3.dir (newf nm)=some b:=by rw [d3',if_pos rfl]
 have fin:∀ f:Dir,f=Dir.put (Dir.del Z3.dir (newf nm)) (manf nm) b -> f=manD nm X.dir b:=fun f hf=>by
  subst hf;funext t;show (if t=manf nm then some b else if t=newf nm then none else Z3.dir t)=if t=manf nm then some b else if t=newf nm then none else X.dir t
  by_cases h1:t=manf nm
  ·rw [if_pos h1,if_pos h1]
  ·
   rw [if_neg h1,if_neg h1];by_cases h2:t=newf nm
   ·rw [if_pos h2,if_pos h2]
   ·rw [if_neg h2,if_neg h2,d3',if_neg h2]
 rcases zi hm with ⟨h0,h1⟩ | ⟨Z4,h1,hm⟩
 ·
  obtain ⟨h2,⟨-,h3⟩ | ⟨h3,-⟩⟩:=z2e h1
  ·exact ⟨(i3.same h3 h2).mono hP,fun e0=>absurd e0 h0⟩
  ·exact absurd h3 h0
 obtain ⟨f4,⟨h0,-⟩ | ⟨-,b',hb2,hd⟩⟩:=z2e h1
 ·exact absurd rfl h0
 obtain rfl:b'=b:=Option.some.inj (hb2.symm.trans dn);have hag:Dir.again Z3.dir ⟨1,newf nm,manf nm,none⟩=Dir.put (Dir.del Z3.dir (newf nm)) (manf nm) b':=by rw [zc9,dn]
 have hl:flook (fput (fdel Z3.D.files (newf nm)) (manf nm) b')=Dir.put (Dir.del Z3.dir (newf nm)) (manf nm) b':=by rw [z2m,z0i];rfl
 rw [<- f4] at f2 f3';have d4:Z4.dir=manD nm X.dir b':=fin _ (by unfold Ds.dir;rw [hd.files];exact hl);have nw:=hnew b' Z4.fc hb' f2 f3';have i4:In nm Z4 P':=by
  refine ⟨hd.wf i3.wf (fun e=>by cases e),fun f hf=>?_⟩;rcases hd.rch hf with e | ⟨g,hg,e | e⟩
  ·rw [fin f (e.trans hl)];exact nw
  ·obtain ⟨q,h1,h2⟩:=i3.all g (.inr hg);rw [e,f4];exact ⟨q,hP q h1,h2⟩
  ·rw [fin f (by rw [e,r3 g (.inr hg)];exact hag)];exact nw
 have h1:=z04 hm;obtain ⟨f5,⟨h0,h3⟩ | ⟨h0,g1,g2,g3,g4⟩⟩:=z0m h1
 ·exact ⟨i4.same h3 f5,fun e0=>absurd e0 h0⟩
 ·
  subst h0;have r5:∀ f,Rch Y f -> f=Y.dir:=fun f hf=>by rw [z3z h1 hf];unfold Ds.dir;rw [g1]
  have d5:Y.dir=manD nm X.dir b':=by rw [<- d4];unfold Ds.dir;rw [g1]
  refine ⟨⟨(by unfold Wf;rw [g3];intro s hs;cases hs),fun f hf=>?_⟩,fun _=>⟨b',hb',d5,by rw [f5];exact f2,fun c hc=>by rw [f5];exact f3' c hc,r5⟩⟩;rw [r5 f hf,d5,f5];exact nw
structure LI (nm:ByteArray) (L:Lg) (X:Ds) (h:Sh):Prop where
 inn:In nm X (·=h)
 full:h.q=(enc h.rs).length
 name:L.name=nm
 nob:L.bad=false
 first:L.first=h.first
 seg:L.segment=h.m
 segs:L.segments=h.cl.length + 1
 size:L.size=h.q
 recs:L.recs=h.closed ++ h.rs
 syn:L.synced <= h.closed.length + h.du
 snap:(h.sn=none /\ L.has=false /\ L.snap=[]) \/ ∃ x,h.sn=some x /\ L.has=true /\ L.snap=x
theorem LI.shape (h:LI nm L X g):Shape nm X.dir X.fc g:=by obtain ⟨q,rfl,hq⟩:=h.inn.live;exact hq
theorem LI.may (h:LI nm L X g) {n:Nat} (hn:n <= mxr):mayE L n=0:=by
 unfold mayE;rw [if_neg (by omega),h.nob];rfl
theorem LI.atseg (h:LI nm L X g):L.seg=sgf nm g.m:=by unfold Lg.seg;rw [h.name,h.seg]
theorem zby (h:LI nm L X g) (hr:synR L X e L' Y):(e=0 /\ L'={ L with synced:=L.recs.length } /\ LI nm L' Y { g with du:=g.rs.length }) \/ (e ≠ 0 /\ L'={ L with bad:=true } /\ In nm Y (·=g)):=by
 rcases hr with ⟨h0,-⟩ | ⟨-,h1,⟨h2,h3⟩ | ⟨h2,h3⟩⟩
 ·exact absurd (h.may (Nat.zero_le _)) h0
 ·
  rw [h.atseg] at h1;obtain ⟨q1,⟨-,q2⟩ | ⟨q2,-⟩⟩:=z0e h1
  ·exact .inr ⟨h2,h3,h.inn.same q1 q2⟩
  ·exact absurd q2 h2
 ·subst h2 h3;rw [h.atseg] at h1;refine .inl ⟨rfl,rfl,{ h with inn:=(h.inn.synced h.full h1).1,full:=h.full,syn:=?_ }⟩;show L.recs.length <= g.closed.length + g.rs.length;rw [h.recs,List.length_append];exact Nat.le_refl _
theorem zex (h:LI nm L X g) (hr:onR L X e L' Y):(e=0 /\ ∃ b,L'={ L with segment:=nx nm X + 1,size:=0,synced:=L.recs.length,segments:=L.segments + 1 } /\ LI nm L' Y (Sh.grow { g with du:=g.rs.length } (nx nm X + 1) b)) \/
  (e ≠ 0 /\ L'={ L with bad:=true } /\ In nm Y fun h=>h=g \/ h={ g with du:=g.rs.length } \/ ∃ n b,h=Sh.grow { g with du:=g.rs.length } n b):=by
 obtain ⟨h1,h2⟩:=hr;rw [h.atseg] at h1;obtain rfl:nm=L.name:=h.name.symm
 have bad:∀ {P:Sh -> Prop},e ≠ 0 -> In L.name Y P -> (∀ h,P h -> h=g \/ h={ g with du:=g.rs.length } \/ ∃ n b,h=Sh.grow { g with du:=g.rs.length } n b) -> (e=0 /\ ∃ b,L'={ L with segment:=nx L.name X + 1,size:=0,synced:=L.recs.length,segments:=L.segments + 1 } /\ LI L.name L' Y (Sh.grow { g with du:=g.rs.length } (nx L.name X + 1) b)) \/
  (e ≠ 0 /\ L'={ L with bad:=true } /\ In L.name Y fun h=>h=g \/ h={ g with du:=g.rs.length } \/ ∃ n b,h=Sh.grow { g with du:=g.rs.length } n b):=fun h0 hi hP=>by
  rcases h2 with ⟨-,h2⟩ | ⟨h2,-⟩
  ·exact .inr ⟨h0,h2,hi.mono hP⟩
  ·exact absurd h2 h0
 rcases zi h1 with ⟨h0,h1⟩ | ⟨Z1,h1,hk⟩
 ·
  obtain ⟨q1,⟨-,q2⟩ | ⟨q2,-⟩⟩:=z0e h1
  ·exact bad h0 (h.inn.same q1 q2) fun _ e=>.inl e
  ·exact absurd q2 h0
 obtain ⟨i1,s1⟩:=h.inn.synced h.full h1;have sh1:Shape L.name Z1.dir Z1.fc { g with du:=g.rs.length }:=by obtain ⟨q,rfl,hq⟩:=i1.live;exact hq
 have n1:nx L.name Z1=nx L.name X:=z5l s1;clear h1;rcases zi hk with ⟨h0,-,h1⟩ | ⟨Z2,⟨h1,e2⟩,hk2⟩
 ·subst h1;exact bad h0 i1 fun _ e=>.inr (.inl e)
 clear hk;subst e2;have hlt:nx L.name X < mxn:=by
  unfold nxE at h1;split at h1
  ·cases h1
  ·omega
 have hno:=z4d (nm:=L.name) (X:=Z2) (k:=nx L.name X + 1) (by omega) (by omega);have hmm:=sh1.nx (h:={ g with du:=g.rs.length });have hm1:g.m <= nx L.name X:=by have:({ g with du:=g.rs.length }:Sh).m <= nx L.name Z2:=hmm.1;rw [n1] at this;exact this
 rcases zi hk2 with ⟨h0,h3⟩ | ⟨Z3,h3,hk⟩
 ·
  rcases z0l h3 with ⟨-,q1,q2⟩ | ⟨q1,-⟩
  ·exact bad h0 (i1.same q1 q2) fun _ e=>.inr (.inl e)
  ·exact absurd q1 h0
 rcases z0l h3 with ⟨q1,-⟩ | ⟨-,-,-,b,hb,hd,hf⟩
 ·exact absurd rfl q1
 have i3:=In.grow (g:={ g with du:=g.rs.length }) i1 h.full rfl (n:=nx L.name X + 1) (by show g.m < _;omega) (by omega) hb hno.1 hd hf;have i3':In L.name Z3 fun h=>h={ g with du:=g.rs.length } \/ h=Sh.grow { g with du:=g.rs.length } (nx L.name X + 1) b:=i3.mono fun _ e=>e.1;have d3:Z3.dir=Dir.put Z2.dir (sgf L.name (nx L.name X + 1)) b:=by unfold Ds.dir;rw [hd.files,z0g hno.1]
 have h4:=z04 hk;obtain ⟨f5,⟨h0,q1⟩ | ⟨h0,g1,g2,g3,g4⟩⟩:=z0m h4
 ·exact bad h0 (i3'.same q1 f5) fun _ e=>e.elim (fun e=>.inr (.inl e)) (fun e=>.inr (.inr ⟨_,_,e⟩))
 ·
  subst h0;rcases h2 with ⟨h2,-⟩ | ⟨-,h2⟩
  ·exact absurd rfl h2
  refine .inl ⟨rfl,b,h2,?_⟩;subst h2;have d5:Y.dir=Z3.dir:=by unfold Ds.dir;rw [g1]
  have lv:Shape L.name Y.dir Y.fc (Sh.grow { g with du:=g.rs.length } (nx L.name X + 1) b):=by
   rw [d5,d3,f5];have hnb:¬ Sh.blocks { g with du:=g.rs.length } b:=by obtain ⟨q,⟨-,h1⟩,-⟩:=i3.live;exact h1
   refine (sh1.ofCon fun c hc=>?_).grow h.full rfl (by show g.m < _;omega) (by omega) hnb (by rw [hf];exact if_pos rfl);rw [hf];exact if_neg fun e:c=b=>hnb (e ▸ hc)
  refine { inn:=⟨(by unfold Wf;rw [g3];intro s hs;cases hs),fun f hf=>⟨_,rfl,?_⟩⟩,full:=rfl,name:=h.name,nob:=h.nob,first:=h.first,seg:=rfl,segs:=?_,size:=rfl,recs:=?_,syn:=?_,snap:=h.snap }
  ·
   have:f=Y.dir:=by rw [z3z h4 hf,d5]
   rw [this];exact lv
  ·show L.segments + 1=(g.cl ++ [_]).length + 1;rw [h.segs];simp
  ·show L.recs=(Sh.grow _ _ _).closed ++ [];rw [z0x,List.append_nil];exact h.recs
  ·show L.recs.length <= (Sh.grow _ _ _).closed.length + 0;rw [z0x,h.recs];exact Nat.le_refl _
end Go.Log
end
section
namespace Go.Log
open Go.Vfs
variable {nm:ByteArray} {X Y Z:Ds} {P P':Sh -> Prop} {e:Int} {s t:ByteArray} {h g:Sh} {f:Dir} {fc:Nat -> Fl} {L L':Lg} {x:List Nat}
def Left (g:Sh) (all:List (List Nat)) (h:Sh):Prop:=h.sn=g.sn /\ h.closed ++ h.rs <+: all /\ g.closed.length + g.du <= h.closed.length + h.du
theorem z7z (g:Sh) (all:List (List Nat)) (ha:g.closed ++ g.rs <+: all):Left g all g:=⟨rfl,ha,Nat.le_refl _⟩
theorem z5u {g:Sh} (hd:g.du <= g.rs.length) {all:List (List Nat)} (ha:g.closed ++ g.rs <+: all):Left g all { g with du:=g.rs.length }:=⟨rfl,ha,by show _ <= g.closed.length + g.rs.length;omega⟩
theorem zcy {g:Sh} (hd:g.du <= g.rs.length) {all:List (List Nat)} (ha:g.closed ++ g.rs <+: all) (n b:Nat):Left g all (Sh.grow { g with du:=g.rs.length } n b):=by
 refine ⟨rfl,?_,?_⟩
 ·show (Sh.grow _ _ _).closed ++ [] <+: all;rw [z0x,List.append_nil];exact ha
 ·show _ <= (Sh.grow _ _ _).closed.length + 0;rw [z0x,List.length_append];show _ <= g.closed.length + g.rs.length + 0;omega
theorem zcd (h:LI nm L X g) (hx:Recs [x]) (hr:appR L x X e L' Y) :
  (L'.bad=false /\ e=0 /\ L.segment <= L'.segment /\ L'.recs=L.recs ++ [x] /\ ∃ g',LI nm L' Y g' /\ g'.sn=g.sn /\ g.closed.length + g.du <= g'.closed.length + g'.du) \/
  (L'.bad=true /\ e ≠ 0 /\ L'.segment=L.segment /\ L'.synced=L.synced /\ In nm Y (Left g (L.recs ++ [x]))):=by
 have hxl:x.length <= mxr:=(hx x (by simp)).1;have hgd:g.du <= g.rs.length:=h.shape.lastd;have hpre:g.closed ++ g.rs <+: L.recs ++ [x]:=by rw [h.recs];exact List.prefix_append _ _
 rcases hr with ⟨h0,-⟩ | ⟨-,e1,Z,h1,h2⟩
 ·exact absurd (h.may hxl) h0
 rw [h.atseg] at h1;obtain ⟨s1,h3⟩:=z0n h1;rcases h3 with ⟨h3,h4⟩ | ⟨b,k,hb,hk,hk0,hf⟩
 ·
  rcases h2 with ⟨-,rfl,rfl,rfl⟩ | ⟨h5,-⟩ | ⟨h5,-⟩
  ·exact .inr ⟨rfl,h3,rfl,rfl,(h.inn.same s1 h4).mono fun q e=>by rw [e];exact z7z g _ hpre⟩
  ·exact absurd h5 h3
  ·exact absurd h5 h3
 obtain rfl:b=g.b:=Option.some.inj (hb.symm.trans h.shape.lastAt);have i1:In nm Z (·={ g with rs:=g.rs ++ [x],q:=g.q + k }):=h.inn.write s1 hf fun q f hq hsh=>by
  subst hq;exact ⟨_,rfl,hsh.append h.full hx (by rw [zx] at hk ⊢;exact hk)⟩
 rcases h2 with ⟨h5,rfl,rfl,rfl⟩ | ⟨rfl,h5,rfl,rfl,rfl⟩ | ⟨rfl,h5,h6⟩
 ·refine .inr ⟨rfl,h5,rfl,rfl,i1.mono fun q e=>?_⟩;subst e;refine ⟨rfl,?_,Nat.le_refl _⟩;show g.closed ++ (g.rs ++ [x]) <+: _;rw [<- List.append_assoc,<- h.recs];exact List.prefix_rfl
 all_goals
  have hkl:=hk0 rfl
  subst hkl;have hfull:g.q + (recd x).length=(enc (g.rs ++ [x])).length:=by rw [z1i,z1z,List.length_append,h.full]
 ·
  refine .inl ⟨h.nob,rfl,Nat.le_refl _,rfl,_,{ inn:=i1,full:=hfull,name:=h.name,nob:=h.nob,first:=h.first,seg:=h.seg,segs:=h.segs,size:=?_,recs:=?_,syn:=h.syn,snap:=h.snap },rfl,Nat.le_refl _⟩
  ·show L.size + _=g.q + _;rw [h.size,zx]
  ·show L.recs ++ [x]=g.closed ++ (g.rs ++ [x]);rw [h.recs,List.append_assoc]
 ·
  have l1:LI nm { L with recs:=L.recs ++ [x],size:=L.size + (8 + x.length) } Z { g with rs:=g.rs ++ [x],q:=g.q + (recd x).length }:=by
   refine { inn:=i1,full:=hfull,name:=h.name,nob:=h.nob,first:=h.first,seg:=h.seg,segs:=h.segs,size:=?_,recs:=?_,syn:=h.syn,snap:=h.snap }
   ·show L.size + _=g.q + _;rw [h.size,zx]
   ·show L.recs ++ [x]=g.closed ++ (g.rs ++ [x]);rw [h.recs,List.append_assoc]
  have hpr:g.closed ++ (g.rs ++ [x]) <+: L.recs ++ [x]:=by rw [<- List.append_assoc,<- h.recs];exact List.prefix_rfl
  have hle:g.du <= (g.rs ++ [x]).length:=by rw [List.length_append];omega
  rcases zex l1 h6 with ⟨rfl,b,rfl,h7⟩ | ⟨h7,rfl,h8⟩
  ·
   refine .inl ⟨h.nob,rfl,?_,rfl,_,h7,rfl,?_⟩
   ·show L.segment <= nx nm Z + 1;have:=l1.shape.nx.1;have e:L.segment=g.m:=h.seg;have:g.m <= nx nm Z:=this;omega
   ·show _ <= (Sh.grow _ _ _).closed.length + 0;rw [z0x,List.length_append];show _ <= g.closed.length + (g.rs ++ [x]).length + 0;omega
  ·
   refine .inr ⟨rfl,h7,rfl,rfl,h8.mono fun q hq=>?_⟩;rcases hq with rfl | rfl | ⟨n,b,rfl⟩
   ·exact ⟨rfl,hpr,Nat.le_refl _⟩
   ·exact z5u (g:={ g with rs:=g.rs ++ [x],q:=g.q + (recd x).length }) hle hpr
   ·exact zcy (g:={ g with rs:=g.rs ++ [x],q:=g.q + (recd x).length }) hle hpr n b
theorem zfk {l:List ByteArray} (hi:∀ t ∈ l,∀ f fc h,P h -> Shape nm f fc h -> h.names nm t -> f t=none):∀ {X},In nm X P -> askO (l.map rmO) X e Y -> In nm Y P:=by
 induction l with
 | nil=>intro X h ha;obtain ⟨-,rfl⟩:=ha;exact h
 | cons t l ih =>
  intro X h ha;have step:∀ {e Z},rmO t X e Z -> In nm Z P:=fun hr=>by
   obtain ⟨h1,⟨-,h2,-⟩ | ⟨-,b,-,h2⟩⟩:=z1h hr
   ·exact h.same h2 h1
   ·exact h.rm h2 h1 fun f q hq hsh hn=>hi t (by simp) f _ q hq hsh hn
  rcases zi (o:=rmO t) (l:=l.map rmO) ha with ⟨-,h1⟩ | ⟨Z,h1,h2⟩
  ·exact step h1
  ·exact ih (fun t ht=>hi t (by simp [ht])) (step h1) h2
theorem zc1 (h:LI nm L X g) (hx:Recs [x]) (hr:turnR L x X e L' Y) :
  (e=0 /\ ∃ s n bm bs b,L'={ L with snap:=x,has:=true,recs:=[],synced:=0,first:=n,segment:=n,segments:=1,size:=0 } /\ LI nm L' Y (Sh.new s n x bm bs b) /\ L.segment <= n) \/
  (e ≠ 0 /\ L'={ L with bad:=true } /\ In nm Y fun q=>Left g L.recs q \/ q.sn=some x /\ q.closed=[] /\ q.rs=[]):=by
 have hxl:x.length <= mxr:=(hx x (by simp)).1;rcases hr with ⟨h0,-⟩ | ⟨-,h1,h2⟩
 ·exact absurd (h.may hxl) h0
 rw [h.atseg] at h1;obtain rfl:nm=L.name:=h.name.symm;have hgd:g.du <= g.rs.length:=h.shape.lastd;have hpre:g.closed ++ g.rs <+: L.recs:=by rw [h.recs];exact List.prefix_rfl
 have bad:∀ {P:Sh -> Prop},e ≠ 0 -> In L.name Y P -> (∀ h,P h -> Left g L.recs h \/ h.sn=some x /\ h.closed=[] /\ h.rs=[]) -> (e=0 /\ ∃ s n bm bs b,L'={ L with snap:=x,has:=true,recs:=[],synced:=0,first:=n,segment:=n,segments:=1,size:=0 } /\ LI L.name L' Y (Sh.new s n x bm bs b) /\ L.segment <= n) \/
   (e ≠ 0 /\ L'={ L with bad:=true } /\ In L.name Y fun q=>Left g L.recs q \/ q.sn=some x /\ q.closed=[] /\ q.rs=[]):=fun h0 hi hP=>by
  rcases h2 with ⟨-,h2⟩ | ⟨h2,-⟩
  ·exact .inr ⟨h0,h2,hi.mono hP⟩
  ·exact absurd h2 h0
 rcases zi h1 with ⟨h0,h1⟩ | ⟨Z1,h1,hk⟩
 ·
  obtain ⟨q1,⟨-,q2⟩ | ⟨q2,-⟩⟩:=z0e h1
  ·exact bad h0 (h.inn.same q1 q2) fun _ e=>.inl (e ▸ z7z g _ hpre)
  ·exact absurd q2 h0
 obtain ⟨i1,s1⟩:=h.inn.synced h.full h1;obtain ⟨g1,hg1⟩:∃ g1,g1=({ g with du:=g.rs.length }:Sh):=⟨_,rfl⟩
 have lg1:Left g L.recs g1:=hg1 ▸ z5u hgd hpre;have q1:g1.q=(enc g1.rs).length:=by rw [hg1];exact h.full
 have du1:g1.du=g1.rs.length:=by rw [hg1]
 have m1:g1.m=L.segment:=by rw [hg1];exact h.seg.symm
 rw [<- hg1] at i1;have sh1:Shape L.name Z1.dir Z1.fc g1:=by obtain ⟨q,rfl,hq⟩:=i1.live;exact hq
 have n1:nx L.name Z1=nx L.name X:=z5l s1;clear h1 hg1;rcases zi hk with ⟨h0,-,h1⟩ | ⟨Z2,⟨h1,e2⟩,hk2⟩
 ·subst h1;exact bad h0 i1 fun _ e=>.inl (e ▸ lg1)
 clear hk;subst e2;have hlt:nx L.name X + 1 < mxn:=by
  unfold turnE at h1;split at h1
  ·cases h1
  ·omega
 obtain ⟨k,hk⟩:∃ k,nx L.name X + 1=k:=⟨_,rfl⟩
 have hk':nx L.name X + 2=k + 1:=by omega
 rw [hk,hk'] at hk2;rw [hk'] at h2;have hmm:=sh1.nx;rw [n1] at hmm;have hno:∀ j,k <= j -> j <= mxn -> Z2.dir (sgf L.name j)=none:=fun j h3 h4=>(z4d (nm:=L.name) (by rw [n1];omega) h4).1;have kk:1 <= k /\ k + 1 <= mxn /\ g1.m < k /\ g1.s < k:=by omega
 clear n1 hmm h1 hlt hk hk';have irr:∀ f fc q,q=g1 -> Shape L.name f fc q -> ¬ q.names L.name (snf L.name k):=fun f fc q e hsh=>by
  subst e;exact zd4 kk.1 (by omega) (by omega) hsh.s1 hsh.f1
 rcases zi hk2 with ⟨h0,h3⟩ | ⟨Z3,h3,hk3⟩
 ·exact bad h0 (z6q i1 irr h3).1 fun _ e=>.inl (e ▸ lg1)
 obtain ⟨hn3,b1,hb1,i3,d3,f3,f3'⟩:=(z6q i1 irr h3).2 rfl;have i3':In L.name Z3 (·=g1):=i3.mono fun _ e=>e.1;clear h3 irr hk2;rcases zi hk3 with ⟨h0,h4⟩ | ⟨Z4,h4,hk4⟩
 ·
  rcases z0l h4 with ⟨-,q1,q2⟩ | ⟨q1,-⟩
  ·exact bad h0 (i3'.same q1 q2) fun _ e=>.inl (e ▸ lg1)
  ·exact absurd q1 h0
 rcases z0l h4 with ⟨q1,-⟩ | ⟨-,hn4,-,b2,hb2,hd4,hf4⟩
 ·exact absurd rfl q1
 have i4:=(i3'.grow q1 du1 (n:=k + 1) (by omega) kk.2.1 hb2 hn4 hd4 hf4).mono fun _ e=>e.1;have d4:Z4.dir=Dir.put Z3.dir (sgf L.name (k + 1)) b2:=by unfold Ds.dir;rw [hd4.files,z0g hn4]
 have hb21:b1 ≠ b2:=hb2 b1 (.inl ⟨_,zq (show flook Z3.D.files (snf L.name k)=some b1 by show Z3.dir _=_;rw [d3];exact if_pos rfl),rfl⟩);have f4:Z4.fc b2=⟨[],0⟩:=by rw [hf4];exact if_pos rfl
 have f4':Z4.fc b1=⟨recd x,(recd x).length⟩:=by rw [hf4];exact (if_neg hb21).trans f3
 have kn:∀ j,1 <= j -> j <= mxn -> sgf L.name j ≠ snf L.name k:=fun j h3 h4=>z2w L.name h3 h4;have d4s:Z4.dir (snf L.name k)=some b1:=by
  rw [d4];show (if snf L.name k=sgf L.name (k + 1) then _ else Z3.dir _)=_;rw [if_neg (fun e=>kn (k + 1) (by omega) kk.2.1 e.symm),d3];exact if_pos rfl
 have d4g:Z4.dir (sgf L.name (k + 1))=some b2:=by rw [d4];exact if_pos rfl
 have d4n:∀ j,k + 1 < j -> j <= mxn -> Z4.dir (sgf L.name j)=none:=fun j h5 h6=>by
  rw [d4];show (if sgf L.name j=sgf L.name (k + 1) then _ else Z3.dir _)=_;rw [if_neg (fun e=>by have:=z5p L.name (by omega) h6 (by omega) kk.2.1 e;omega),d3];show (if sgf L.name j=snf L.name k then _ else Z2.dir _)=_;rw [if_neg (kn j (by omega) h6)];exact hno j (by omega) h6
 clear hd4 hf4 h4 hn4 d4 i3 i3' d3 f3 f3' hn3 hb1 hb2 hno hk3;have nw:∀ b fc,(∀ t c,t ≠ newf L.name -> Z4.dir t=some c -> c ≠ b) -> fc b=⟨recd (mrec k (k + 1)),(recd (mrec k (k + 1))).length⟩ -> (∀ c,c ≠ b -> fc c=Z4.fc c) -> Shape L.name (manD L.name Z4.dir b) fc (Sh.new k (k + 1) x b b1 b2):=fun b fc h3 h5 h6=>by
  have at':∀ t,t ≠ manf L.name -> t ≠ newf L.name -> manD L.name Z4.dir b t=Z4.dir t:=fun t h7 h8=>by unfold manD;rw [if_neg h7,if_neg h8]
  have n1:=z6z L.name kk.1 (show k <= mxn by omega);have n2:=z70 L.name kk.1 (show k <= mxn by omega);have n3:∀ j,1 <= j -> j <= mxn -> sgf L.name j ≠ manf L.name:=fun j a c=>z2u L.name a c;have n4:∀ j,1 <= j -> j <= mxn -> sgf L.name j ≠ newf L.name:=fun j a c=>z2v L.name a c;have e1:b1 ≠ b:=h3 _ _ n2 d4s;have e2:b2 ≠ b:=h3 _ _ (n4 _ (by omega) kk.2.1) d4g
  exact Shape.new kk.1 (by omega) (by omega) kk.2.1 hx (if_pos rfl) h5 ((at' _ n1 n2).trans d4s) ((h6 b1 e1).trans f4') ((at' _ (n3 _ (by omega) kk.2.1) (n4 _ (by omega) kk.2.1)).trans d4g) ((h6 b2 e2).trans f4)
   (fun j a c=>(at' _ (n3 j (by omega) c) (n4 j (by omega) c)).trans (d4n j a c)) e2 (fun e=>hb21 e.symm)
 have mi:∀ {e Z},manO L.name k (k + 1) Z4 e Z -> _:=fun {e Z} hm=>man_in (P':=fun h=>(h=g1 \/ h=g1.grow (k + 1) b2) \/ ∃ b,h=Sh.new k (k + 1) x b b1 b2) i4 (fun _ e=>.inl e) hm fun b fc h3 h5 h6=>⟨_,.inr ⟨b,rfl⟩,nw b fc h3 h5 h6⟩
 have lgg:Left g L.recs (g1.grow (k + 1) b2):=by
  refine ⟨lg1.1,?_,?_⟩
  ·show (Sh.grow _ _ _).closed ++ [] <+: _;rw [z0x,List.append_nil];exact lg1.2.1
  ·show _ <= (Sh.grow _ _ _).closed.length + 0;rw [z0x,List.length_append];have:=lg1.2.2;rw [du1] at this;omega
 rcases zi hk4 with ⟨h0,h5⟩ | ⟨Z5,h5,hk5⟩
 ·
  refine bad h0 (mi h5).1 fun q hq=>?_;rcases hq with (rfl | rfl) | ⟨b,rfl⟩
  ·exact .inl lg1
  ·exact .inl lgg
  ·exact .inr ⟨rfl,rfl,rfl⟩
 obtain ⟨b3,hb3,d5,f5,f5',r5⟩:=(mi h5).2 rfl;have i5:In L.name Z5 (·=Sh.new k (k + 1) x b3 b1 b2):=⟨(mi h5).1.wf,fun f hf=>⟨_,rfl,by rw [r5 f hf,d5];exact nw b3 _ hb3 f5 f5'⟩⟩
 have i6:∀ {e Z},sweepO L.name k (k + 1) Z5 e Z -> In L.name Z (·=Sh.new k (k + 1) x b3 b1 b2):=fun {e Z} hw=>by
  obtain ⟨ns,-,hw⟩:=hw;refine zfk (fun t ht f fc q hq hsh hn=>?_) i5 hw;subst hq;have hsw:=(List.mem_filter.1 ht).2;simp only [swept,Bool.and_eq_true,Bool.not_eq_true',Bool.or_eq_false_iff,decide_eq_false_iff_not] at hsw;obtain ⟨-,⟨h6,h7⟩,h8⟩:=hsw;rcases hn with e | ⟨-,e⟩ | ⟨j,j1,j2,e⟩
  ·exact absurd e h6
  ·exact absurd e h7
  ·subst e;have j1':k + 1 <= j:=j1;have:j ≠ k + 1:=fun e=>h8 (by rw [e]);rw [hsh.segs j j1 j2];exact z7w (l:=[(k + 1,b2)]) (fun p hp=>by rw [List.mem_singleton.1 hp];exact fun e=>this e.symm)
 clear mi nw hb3 d5 f5 f5' r5 h5 hk4;have h7:=i6 (z04 hk5);by_cases h0:e=0
 ·
  subst h0;rcases h2 with ⟨h2,-⟩ | ⟨-,h2⟩
  ·exact absurd rfl h2
  refine .inl ⟨rfl,k,k + 1,b3,b1,b2,h2,?_,by omega⟩;subst h2;exact { inn:=h7,full:=rfl,name:=rfl,nob:=h.nob,first:=rfl,seg:=rfl,segs:=rfl,size:=rfl,recs:=rfl,syn:=Nat.le_refl _,snap:=.inr ⟨x,rfl,rfl,rfl⟩ }
 ·exact bad h0 h7 fun q hq=>by subst hq;exact .inr ⟨rfl,rfl,rfl⟩
end Go.Log
end
section
namespace Go.Log
open Go.Vfs
open Go.Proofs.YtpjomdmjohjheaaGreatDoor (readOf)
variable {nm:ByteArray} {X Y Z:Ds} {P P':Sh -> Prop} {e:Int} {s t:ByteArray} {h g:Sh} {f:Dir} {fc:Nat -> Fl} {L L':Lg} {x:List Nat}
theorem flook_mem' {l:List (ByteArray × Nat)} {b:Nat} (hn:(l.map Prod.fst).Nodup) (h:(s,b) ∈ l):flook l s=some b:=by
 induction l with
 | nil=>cases h
 | cons p l ih =>
  rw [List.map_cons,List.nodup_cons] at hn;rw [z0a];rcases List.mem_cons.1 h with h | h
  ·subst h;simp
  ·have hne:p.1 ≠ s:=fun e=>hn.1 (e ▸ List.mem_map.2 ⟨_,h,rfl⟩);rw [if_neg hne];exact ih hn.2 h
theorem z6e {l l':List (ByteArray × Nat)} (hn:(l.map Prod.fst).Nodup) (hp:l'.Perm l):flook l'=flook l:=by
 funext t;have hn':(l'.map Prod.fst).Nodup:=(hp.map Prod.fst).nodup_iff.2 hn;cases e:flook l' t with
 | some b=>exact (flook_mem' hn (hp.mem_iff.1 (zq e))).symm
 | none =>
  cases e2:flook l t with
  | none=>rfl
  | some b=>rw [flook_mem' hn' (hp.mem_iff.2 (zq e2))] at e;cases e
def Sh.move (h:Sh) (v:Nat -> Nat) (q:Nat):Sh:={ h with bm:=v h.bm,bs:=v h.bs,cl:=h.cl.map fun c=>(c.1,v c.2.1,c.2.2),b:=v h.b,q:=q }
theorem z9v (h:Sh) (v:Nat -> Nat) (q:Nat):(h.move v q).closed=h.closed:=by
 unfold Sh.move Sh.closed;simp only [List.flatMap_def,List.map_map];rfl
theorem z5w (h:Sh) (v:Nat -> Nat) (q:Nat):(h.move v q).tab=h.tab.map fun p=>(p.1,v p.2):=by
 unfold Sh.move Sh.tab;simp only [List.map_append,List.map_map];rfl
theorem Shape.move (hs:Shape nm f fc h) (v:Nat -> Nat) {f':Dir} {fc':Nat -> Fl} (hf:∀ t,f' t=(f t).map v) (hv:∀ t t' b b',f t=some b -> f t'=some b' -> v b=v b' -> b=b')
  (hc:∀ t b,f t=some b -> ∃ n,(fc b).lasts <= n /\ n <= (fc b).b.length /\ fc' (v b)=⟨(fc b).b.take n,n⟩):∃ q,Shape nm f' fc' (h.move v q):=by
 have full:∀ t b l,f t=some b -> fc b=⟨l,l.length⟩ -> fc' (v b)=⟨l,l.length⟩:=fun t b l hb hl=>by
  obtain ⟨n,h1,h2,h3⟩:=hc t b hb;rw [hl] at h1 h2 h3;simp only at h1 h2 h3;have:n=l.length:=by omega
  subst this;rw [List.take_length] at h3;exact h3
 obtain ⟨n,n1,n2,n3⟩:=hc _ _ hs.lastAt;have hl:(fc h.b).b.length=h.q:=by rw [hs.lastb,List.length_take];have:=hs.lastq;omega
 have hlast:=hs.lastAt;refine ⟨n,{ f1:=hs.f1,s1:=hs.s1,man:=?_,manc:=full _ _ _ hs.man hs.manc,snap:=?_,asc:=?_,rng:=?_,segs:=?_,clc:=?_,lastb:=?_,lastq:=?_,lastl:=?_,lastd:=hs.lastd,lastr:=hs.lastr,apart:=?_ }⟩
 ·rw [hf,hs.man];rfl
 ·exact hs.snap.imp id fun ⟨g1,y,g2,g3,g4,g5⟩=>⟨g1,y,g2,g3,by rw [hf];show (f (snf nm h.s)).map v=_;rw [g4];rfl,full _ _ _ g4 g5⟩
 ·rw [z5w,List.pairwise_map];exact hs.asc
 ·intro p hp;rw [z5w] at hp;obtain ⟨q,hq,rfl⟩:=List.mem_map.1 hp;exact hs.rng q hq
 ·intro k k1 k2;rw [hf,hs.segs k k1 k2];unfold Sh.blk;rw [z5w,List.find?_map,Option.map_map,Option.map_map];rfl
 ·intro c hc';obtain ⟨c0,h0,rfl⟩:=List.mem_map.1 (show c ∈ h.cl.map fun c=>(c.1,v c.2.1,c.2.2) from hc');exact ⟨full _ _ _ (hs.blkOf (mem_tab' h0)) (hs.clc c0 h0).1,(hs.clc c0 h0).2⟩
 ·show (fc' (v h.b)).b=(enc h.rs).take n;rw [n3,hs.lastb,List.take_take,Nat.min_eq_left (by omega)]
 ·show n <= (enc h.rs).length;have:=hs.lastq;omega
 ·show _ <= (fc' (v h.b)).lasts /\ (fc' (v h.b)).lasts <= n;rw [n3];have:=hs.lastl;exact ⟨by show (enc (h.rs.take h.du)).length <= n;omega,Nat.le_refl _⟩
 ·
  obtain ⟨a1,a2,a3⟩:=hs.apart;refine ⟨fun e=>a1 (hv _ _ _ _ hlast hs.man e),fun g1 e=>?_,fun c hc' e=>?_⟩
  ·
   rcases hs.snap with ⟨h0,-⟩ | ⟨-,y,-,-,g4,-⟩
   ·have:1 <= h.s:=g1;omega
   ·exact a2 g1 (hv _ _ _ _ hlast g4 e)
  ·obtain ⟨c0,h0,rfl⟩:=List.mem_map.1 (show c ∈ h.cl.map fun c=>(c.1,v c.2.1,c.2.2) from hc');exact a3 c0 h0 (hv _ _ _ _ (hs.blkOf (mem_tab' h0)) hlast e)
theorem z9p {zs:List Int} {D':Dk} {fc':Nat -> Fl} {φ:Nat -> Option Nat} {l2:List (ByteArray × Nat)} {bs:List Bool} (h:In nm X P) (hn:(X.D.lasting.map Prod.fst).Nodup) (hc:CrashR zs X.D X.fc D' fc' φ l2 bs) :
  ∃ f q v n,Rs X f /\ P q /\ Shape nm f X.fc q /\ In nm ⟨D',fc'⟩ (·=Sh.move q v n) /\ (∀ t,(⟨D',fc'⟩:Ds).dir t=(f t).map v):=by
 obtain ⟨p2,-,-,-,inj,all,eq,fcc⟩:=hc;have hf:flook (replay bs X.D.steps l2)=rep bs X.D.steps (flook X.D.lasting):=by rw [z4r,z6e hn p2]
 have hR:Rs X (flook (replay bs X.D.steps l2)):=⟨bs,hf⟩
 obtain ⟨q,h1,h2⟩:=h.all _ (.inr hR);have hd:∀ t,flook D'.files t=(flook (replay bs X.D.steps l2) t).map fun b=>(φ b).getD 0:=fun t=>by
  rw [eq];exact z4q _ _
 have hl:D'.lasting=D'.files:=by rw [eq];rfl
 have hs:D'.steps=[]:=by rw [eq];rfl
 have hrf:=(show Rch X _ from .inr hR).ref h.wf
 obtain ⟨n,h3⟩:=h2.move (fun b=>(φ b).getD 0) (f':=flook D'.files) (fc':=fc') hd (fun t t' b b' hb hb' e=>by
  obtain ⟨c,hc⟩:=Option.ne_none_iff_exists'.1 (all b (hrf t b hb));obtain ⟨c',hc'⟩:=Option.ne_none_iff_exists'.1 (all b' (hrf t' b' hb'));simp only [hc,hc',Option.getD_some] at e
  exact inj b b' c hc (e ▸ hc')) (fun t b hb=>fcc _ (zq hb))
 refine ⟨_,q,_,n,hR,h1,h2,⟨fun s hs'=>?_,fun f hf'=>⟨_,rfl,?_⟩⟩,hd⟩
 ·rw [hs] at hs';cases hs'
 ·
  have:f=flook D'.files:=by
   rcases hf' with hf' | ⟨bs',hf'⟩
   ·exact hf'
   ·
    have e:rep bs' D'.steps (flook D'.lasting)=flook D'.files:=by rw [hs,z8m,hl]
    exact hf'.trans e
  rw [this];exact h3
def Sh.trim (h:Sh) (j:Nat):Sh:={ h with rs:=h.rs.take j,q:=(enc (h.rs.take j)).length }
def Trims (P:Sh -> Prop):Prop:=∀ h j,P h -> h.du <= j -> j <= h.rs.length -> (enc (h.rs.take j)).length <= h.q -> P (h.trim j)
theorem z8e (fc:Nat -> Fl) {b:Nat} {x:Fl} (h:fc b=x):setf fc b x=fc:=by
 funext c;by_cases e:c=b
 ·rw [e,z0j,h]
 ·rw [z0k _ _ e]
theorem ze2 {x:List Nat} (hx:Recs [x]):whole (recd x)=([x],(recd x).length,true):=by
 have:=z5g hx;rw [z1z] at this;exact this
theorem zci {s n:Nat}:∀ x ∈ mrec s n,x < 256:=by
 intro x hx;unfold mrec at hx;rcases List.mem_append.1 hx with hx | hx
 ·exact z45 _ _ x hx
 ·exact z45 _ _ x hx
theorem z2a (s n:Nat):(mrec s n).length=16:=by unfold mrec;rw [List.length_append,zy,zy]
theorem z83 (s n:Nat):Recs [mrec s n]:=Recs.one (by rw [z2a];decide) zci
theorem Shape.cutAny (hs:Shape nm f fc h) (b:Nat):∃ j,h.du <= j /\ j <= h.rs.length /\ (Shape nm f (setf fc b ⟨(fc b).b.take (whole (fc b).b).2.1,min (whole (fc b).b).2.1 (fc b).lasts⟩) h \/ (enc (h.rs.take j)).length <= h.q /\ Shape nm f (setf fc b ⟨(fc b).b.take (whole (fc b).b).2.1,min (whole (fc b).b).2.1 (fc b).lasts⟩) (h.trim j)):=by
 by_cases hb:h.blocks b
 ·
  have full:∀ l,fc b=⟨enc l,(enc l).length⟩ -> Recs l -> ∃ j,h.du <= j /\ j <= h.rs.length /\ (Shape nm f (setf fc b ⟨(fc b).b.take (whole (fc b).b).2.1,min (whole (fc b).b).2.1 (fc b).lasts⟩) h \/ (enc (h.rs.take j)).length <= h.q /\ Shape nm f (setf fc b ⟨(fc b).b.take (whole (fc b).b).2.1,min (whole (fc b).b).2.1 (fc b).lasts⟩) (h.trim j)):=fun l hl hr=>by
   refine ⟨h.rs.length,hs.lastd,Nat.le_refl _,.inl ?_⟩;have e:(⟨(fc b).b.take (whole (fc b).b).2.1,min (whole (fc b).b).2.1 (fc b).lasts⟩:Fl)=fc b:=by
    rw [hl];simp only [z5g hr,List.take_length,Nat.min_self]
   rw [e,z8e fc rfl];exact hs
  by_cases e:b=h.b
  ·subst e;obtain ⟨j,h1,h2,h3,h4,h5,-⟩:=hs.wholes;refine ⟨j,h1,h2,.inr ⟨by omega,?_⟩⟩;rw [h3];exact hs.cut h1 h2 h4
  ·
   rcases hb with rfl | ⟨g1,rfl⟩ | ⟨c,hc,rfl⟩ | rfl
   ·exact full [mrec h.s h.first] (by rw [z1z];exact hs.manc) (z83 _ _)
   ·
    rcases hs.snap with ⟨h0,-⟩ | ⟨-,y,-,g3,-,g5⟩
    ·omega
    ·exact full [y] (by rw [z1z];exact g5) g3
   ·exact full _ (hs.clc c hc).1 (hs.clc c hc).2
   ·exact absurd rfl e
 ·exact ⟨h.rs.length,hs.lastd,Nat.le_refl _,.inl (hs.setOther _ hb)⟩
theorem Shape.syncAny (hs:Shape nm f fc h) (b:Nat):Shape nm f (setf fc b ⟨(fc b).b,(fc b).b.length⟩) h:=by
 by_cases hb:h.blocks b
 ·
  have full:∀ l:List Nat,fc b=⟨l,l.length⟩ -> Shape nm f (setf fc b ⟨(fc b).b,(fc b).b.length⟩) h:=fun l hl=>by
   rw [z8e fc (by rw [hl])];exact hs
  by_cases e:b=h.b
  ·
   subst e;have hl:(fc h.b).b.length=h.q:=by rw [hs.lastb,List.length_take];have:=hs.lastq;omega
   have h1:=hs.setLast ⟨(fc h.b).b,(fc h.b).b.length⟩ h.rs h.q h.du hs.lastb hs.lastq ⟨by show _ <= (fc h.b).b.length;have:=hs.lastl;omega,by show (fc h.b).b.length <= _;omega⟩ hs.lastd hs.lastr;exact h1
  ·
   rcases hb with rfl | ⟨g1,rfl⟩ | ⟨c,hc,rfl⟩ | rfl
   ·exact full _ hs.manc
   ·
    rcases hs.snap with ⟨h0,-⟩ | ⟨-,y,-,g3,-,g5⟩
    ·omega
    ·exact full _ g5
   ·exact full _ (hs.clc c hc).1
   ·exact absurd rfl e
 ·exact hs.setOther _ hb
end Go.Log
end
section
namespace Go.Log
open Go.Vfs
open Go.Proofs.YtpjomdmjohjheaaGreatDoor (readOf)
variable {nm:ByteArray} {X Y Z:Ds} {P P':Sh -> Prop} {e:Int} {s t:ByteArray} {h g:Sh} {f:Dir} {fc:Nat -> Fl} {L L':Lg} {x:List Nat} {most:Nat}
theorem z3r {b:Nat} (hm:mnB s=true) (h:X.dir s=some b):readOf X.D X.fc s=((X.fc b).b,0):=by
 have e:found X.D s=(some b,0):=by
  unfold found;rw [if_pos hm,show flook X.D.files s=some b from h]
 unfold readOf;rw [e]
theorem z86 {b:Nat} (hm:mnB s=true) (h:X.dir s=some b) (hx:Recs [x]) (hc:(X.fc b).b=recd x):oneR X s=some x:=by
 unfold oneR;rw [z3r hm h,hc,ze2 hx];simp
theorem zd1 {s n:Nat} (hs:s <= mxn) (h1:1 <= n) (hn:n <= mxn):manN (mrec s n)=some (s,n):=by
 have e1:(mrec s n).take 8=be 8 s:=by unfold mrec;rw [List.take_left' (zy _ _)]
 have e2:(mrec s n).drop 8=be 8 n:=by unfold mrec;rw [List.drop_left' (zy _ _)]
 have m:∀ k,k <= mxn -> k % 256 ^ 8=k:=fun k hk=>Nat.mod_eq_of_lt (by unfold mxn at hk;omega);unfold manN;rw [e1,e2,z6m,z6m,m s hs,m n hn,z2a];rw [if_pos ⟨rfl,hs,h1,hn⟩]
theorem zh3 {l:List Nat} {T:List Nat} (hT:T.Pairwise (· < ·)) (hl:l.Pairwise (· <= ·)) (hn:l.Nodup) (hm:∀ k,k ∈ l ↔ k ∈ T):l=T:=by
 have nT:T.Nodup:=hT.imp (fun h=>by omega);have hp:l.Perm T:=(List.perm_ext_iff_of_nodup hn nT).2 hm;exact hp.eq_of_pairwise (le:=(· <= ·)) (fun a b _ _ h1 h2=>by omega) hl (hT.imp (fun h=>by omega))
theorem zhn (hs:Shape nm X.dir X.fc h) (hnd:(X.D.files.map Prod.fst).Nodup) {ns:List Nat} (hN:SegsOf nm h.first X ns):ns=h.tab.map Prod.fst:=by
 obtain ⟨h1,h2⟩:=hN;have f1:=hs.f1;have hF:((((X.D.files.map Prod.fst).map (sgn nm)).filter fun n=>decide (h.first <= n))).Nodup:=by
  rw [List.filter_map];refine List.pairwise_map.2 ?_;have hnf:((X.D.files.map Prod.fst).filter ((fun n=>decide (h.first <= n)) ∘ sgn nm)).Nodup:=hnd.sublist List.filter_sublist;refine List.Pairwise.imp_of_mem (fun {a b} ha hb hne e=>hne ?_) hnf;have ha':h.first <= sgn nm a:=by simpa using (List.mem_filter.1 ha).2
  have hb':h.first <= sgn nm b:=by simpa using (List.mem_filter.1 hb).2
  rw [(z3h (nm:=nm) (s:=a) (by omega)).1,(z3h (nm:=nm) (s:=b) (by omega)).1,e]
 refine zh3 (List.pairwise_map.2 hs.asc) h1 (h2.nodup_iff.2 hF) (fun k=>?_);rw [h2.mem_iff,List.mem_filter];constructor
 ·
  rintro ⟨hk,hk2⟩;obtain ⟨s,hs1,rfl⟩:=List.mem_map.1 hk;have hk':h.first <= sgn nm s:=by simpa using hk2
  obtain ⟨e1,e2,e3⟩:=z3h (nm:=nm) (s:=s) (by omega);obtain ⟨b,hb⟩:=z15 hs1;have hb':X.dir (sgf nm (sgn nm s))=some b:=by rw [<- e1];exact hb
  rw [hs.segs _ hk' e3] at hb';exact List.mem_map.2 ⟨_,zeg hb',rfl⟩
 ·intro hk;obtain ⟨p,hp,rfl⟩:=List.mem_map.1 hk;have hr:=hs.rng p hp;have hb:=hs.blkOf (k:=p.1) (x:=p.2) hp;refine ⟨List.mem_map.2 ⟨_,z7b hb,z1k nm (by omega) hr.2⟩,by simpa using hr.1⟩
theorem z6t {ms:List Nat} (hne:ms ≠ []) (hm:∀ k,k <= mxn -> mnB (sgf nm k)=true):∀ (cl:List (Nat × Nat × List (List Nat))) (L:Lg) (e:Nat),L.name=nm -> (∀ c ∈ cl,c.1 <= mxn /\ X.dir (sgf nm c.1)=some c.2.1 /\ (X.fc c.2.1).b=enc c.2.2 /\ Recs c.2.2) ->
  ∃ L' e',rdl X (cl.map (fun c=>c.1) ++ ms) L e=rdl X ms L' e' /\ ∃ k q,L'={ L with recs:=L.recs ++ cl.flatMap (fun c=>c.2.2),segment:=k,size:=q }
 | [],L,e,_,_=>⟨L,e,rfl,L.segment,L.size,by simp⟩
 | c :: cl,L,e,hL,hc=>by
  obtain ⟨h1,h2,h3,h4⟩:=hc c (by simp);obtain ⟨L',e',h5,k,q,h6⟩:=z6t hne hm cl { L with recs:=L.recs ++ c.2.2,segment:=c.1,size:=(enc c.2.2).length } (enc c.2.2).length hL (fun c' hc'=>hc c' (by simp [hc']));refine ⟨L',e',?_,k,q,?_⟩
  ·obtain rfl:=hL;rw [List.map_cons,List.cons_append];show (if _ then _ else _)=_;rw [z3r (hm _ h1) h2,h3,z5g h4,if_pos ⟨rfl,.inl (Nat.le_refl _)⟩];exact h5
  ·rw [h6];simp
theorem zhc (hs:Shape nm X.dir X.fc h) (hn:mnB nm=true) (h16:nm.size <= 16) (hnd:(X.D.files.map Prod.fst).Nodup) {r:Option (Lg × Nat)} (hr:readR X { lg0 nm most with first:=h.first } h.s r) :
  ∃ j,h.du <= j /\ j <= h.rs.length /\ (h.q=(enc h.rs).length -> j=h.rs.length) /\ (X.fc h.b).b.length=h.q /\ (whole (X.fc h.b).b).2.1=(enc (h.rs.take j)).length /\ (enc (h.rs.take j)).length <= h.q /\
   r=some ({ lg0 nm most with first:=h.first,segment:=h.m,segments:=h.cl.length + 1,size:=h.q,snap:=h.sn.getD [],has:=h.sn.isSome,recs:=h.closed ++ h.rs.take j },(enc (h.rs.take j)).length):=by
 obtain ⟨j,h1,h2,h3,h4,h5,h6⟩:=hs.wholes;refine ⟨j,h1,h2,h6,h5,by rw [h3],by omega,?_⟩;have hmn:∀ k,k <= mxn -> mnB (sgf nm k)=true:=fun k hk=>z0r hn h16 hk
 have key:∀ L1:Lg,L1.name=nm -> L1.first=h.first -> L1.recs=[] -> (∃ ns,SegsOf L1.name L1.first X ns /\ r=if ns=[] then none else (rdl X ns L1 0).map fun p=>({ p.1 with segments:=ns.length },p.2)) ->
   r=some ({ L1 with segment:=h.m,segments:=h.cl.length + 1,size:=h.q,recs:=h.closed ++ h.rs.take j },(enc (h.rs.take j)).length):=by
  rintro L1 e1 e2 e3 ⟨ns,hN,hr⟩;rw [e1,e2] at hN;have hns:=zhn hs hnd hN;have hns':ns=h.cl.map (fun c=>c.1) ++ [h.m]:=by rw [hns];unfold Sh.tab;rw [List.map_append,List.map_map];rfl
  have hlen:ns.length=h.cl.length + 1:=by rw [hns'];simp
  have hmm:=hs.m1;rw [hr,if_neg (by intro e;rw [e] at hlen;simp at hlen),hns']
  obtain ⟨L',e',h7,k,q,h8⟩:=z6t (X:=X) (ms:=[h.m]) (by simp) hmn h.cl L1 0 e1 (fun c hc=>by
   have hp:=mem_tab' hc;have:=hs.rng _ hp
   exact ⟨this.2,hs.blkOf hp,by rw [(hs.clc c hc).1],(hs.clc c hc).2⟩)
  have hL':L'.name=nm:=by rw [h8];exact e1
  have e9:rdl X [h.m] L' e'=some ({ L' with recs:=L'.recs ++ h.rs.take j,segment:=h.m,size:=h.q },(enc (h.rs.take j)).length):=by
   show (if _ then _ else _)=_;rw [hL',z3r (hmn _ hmm.2) hs.lastAt,h3,if_pos ⟨rfl,.inr rfl⟩,<- h5];rfl
  rw [h7,e9,<- hns',hlen,h8,e3];simp [Sh.closed]
 unfold readR snapR at hr;rcases hs.snap with ⟨h0,h0'⟩ | ⟨h0,y,h7,h8,h9,h10⟩
 ·rw [if_pos h0] at hr;have:=key _ rfl rfl rfl hr;rw [this,h0'];rfl
 ·rw [if_neg (by omega),show ({ lg0 nm most with first:=h.first }:Lg).name=nm from rfl,z86 (z5k hn h16 hs.s1) h9 h8 (by rw [h10])] at hr;have:=key _ rfl rfl rfl hr;rw [this,h7];rfl
theorem zbo (hn:mnB nm=true) (h16:nm.size <= 16) (hnd:(X.D.files.map Prod.fst).Nodup) (hi:In nm X P) (hP:Trims P) (hr:openR nm most X e L Y) :
  ∃ h j,P h /\ Shape nm X.dir X.fc h /\ h.du <= j /\ j <= h.rs.length /\ (h.q=(enc h.rs).length -> j=h.rs.length) /\ In nm Y P /\
   (∃ en,(X.fc h.b).b.length=h.q /\ en=(enc (h.rs.take j)).length /\ en <= h.q /\ X.dir (sgf nm h.m)=some h.b /\ askO [if h.q=en then nop else cuO (sgf nm h.m) en,syO (sgf nm h.m),sdO] X e Y) /\
   (e=0 -> LI nm L Y { h.trim j with du:=j } /\ L.synced=L.recs.length /\ L.most=most):=by
 obtain ⟨h,hPh,hs⟩:=hi.live;have hman:oneR X (manf nm)=some (mrec h.s h.first):=z86 (z30 hn h16) hs.man (z83 _ _) (by rw [hs.manc]);have hfn:h.first <= mxn:=by have:=hs.m1;omega
 have hbind:(oneR X (manf nm)).bind manN=some (h.s,h.first):=by rw [hman];exact zd1 hs.s1 hs.f1 hfn
 rcases hr with ⟨h0,-⟩ | ⟨b,-,h0,-⟩ | ⟨b,s,n,r,-,h0,hr,hq⟩
 ·rw [show flook X.D.files (manf nm)=some h.bm from hs.man] at h0;cases h0
 ·rw [hbind] at h0;cases h0
 rw [hbind] at h0;cases h0;obtain ⟨j,h1,h2,h3,h4,h5,h6,h7⟩:=zhc hs hn h16 hnd hr;rcases hq with ⟨h8,-⟩ | ⟨L1,en,h8,h9,h10⟩
 ·rw [h7] at h8;cases h8
 rw [h7] at h8;cases h8;have hmm:=hs.m1;obtain ⟨en,hen⟩:∃ en,(enc (h.rs.take j)).length=en:=⟨_,rfl⟩
 rw [hen] at h5 h6 h9 h10;have h9':askO [if h.q=en then nop else cuO (sgf nm h.m) en,syO (sgf nm h.m),sdO] X e Y:=h9;have hla:=hs.lastAt;have cutI:∀ {e Z},(if h.q=en then nop else cuO (sgf nm h.m) en) X e Z -> In nm Z P /\ Sm X Z /\ (e=0 -> Shape nm Z.dir Z.fc (h.trim j)):=fun {e Z} hc=>by
  by_cases he:h.q=en
  ·rw [if_pos he] at hc;obtain ⟨rfl,rfl⟩:=hc;exact ⟨hi,Sm.refl _,fun _=>hs.uncut h1 h2 (by rw [hen,h4,he])⟩
  ·
   rw [if_neg he] at hc;obtain ⟨s1,⟨e0,hf⟩ | ⟨rfl,b,hb,-,hf⟩⟩:=z3b hc
   ·exact ⟨hi.same s1 hf,s1,fun e1=>absurd e1 e0⟩
   ·
    obtain rfl:b=h.b:=Option.some.inj (hb.symm.trans hla);refine ⟨hi.write s1 hf fun q f hq hsh=>?_,s1,fun _=>?_⟩
    ·
     obtain ⟨i,i1,i2,i3⟩:=hsh.cutAny h.b;rw [h5] at i3;rcases i3 with i3 | ⟨i4,i3⟩
     ·exact ⟨q,hq,i3⟩
     ·exact ⟨_,hP q i hq i1 i2 i4,i3⟩
    ·rw [s1.dir,hf,<- hen];exact hs.cut h1 h2 (by rw [h4,hen];exact h6)
 have fin:∀ (hI:In nm Y P) (hL:e=0 -> LI nm L Y { h.trim j with du:=j } /\ L.synced=L.recs.length /\ L.most=most),_:=fun hI hL=>(⟨h,j,hPh,hs,h1,h2,h3,hI,⟨en,h4,hen.symm,h6,hla,h9'⟩,hL⟩:∃ h j,P h /\ Shape nm X.dir X.fc h /\ h.du <= j /\ j <= h.rs.length /\ (h.q=(enc h.rs).length -> j=h.rs.length) /\ In nm Y P /\
   (∃ en,(X.fc h.b).b.length=h.q /\ en=(enc (h.rs.take j)).length /\ en <= h.q /\ X.dir (sgf nm h.m)=some h.b /\ askO [if h.q=en then nop else cuO (sgf nm h.m) en,syO (sgf nm h.m),sdO] X e Y) /\
   (e=0 -> LI nm L Y { h.trim j with du:=j } /\ L.synced=L.recs.length /\ L.most=most))
 rcases zi h9' with ⟨e0,g1⟩ | ⟨Z1,g1,k1⟩
 ·exact fin (cutI g1).1 (fun e1=>absurd e1 e0)
 obtain ⟨i1,s1,sh1⟩:=cutI g1;have sh1:=sh1 rfl;have d1:Z1.dir (sgf nm h.m)=some h.b:=by rw [s1.dir];exact hla
 have syI:∀ {e Z},syO (sgf nm h.m) Z1 e Z -> In nm Z P /\ Sm Z1 Z /\ (e=0 -> Shape nm Z.dir Z.fc { h.trim j with du:=j }):=fun {e Z} hc=>by
  obtain ⟨s2,⟨e0,hf⟩ | ⟨rfl,b,hb,hf⟩⟩:=z0e hc
  ·exact ⟨i1.same s2 hf,s2,fun e1=>absurd e1 e0⟩
  ·
   obtain rfl:b=h.b:=Option.some.inj (hb.symm.trans d1);refine ⟨i1.write s2 hf fun q f hq hsh=>⟨q,hq,hsh.syncAny _⟩,s2,fun _=>?_⟩;rw [s2.dir,hf];have:=sh1.synced rfl;have e3:(h.trim j).rs.length=j:=by show (h.rs.take j).length=j;rw [List.length_take];omega
   rw [e3] at this;exact this
 rcases zi k1 with ⟨e0,g2⟩ | ⟨Z2,g2,k2⟩
 ·exact fin (syI g2).1 (fun e1=>absurd e1 e0)
 obtain ⟨i2,s2,sh2⟩:=syI g2;have sh2:=sh2 rfl;have g3:=z04 k2;obtain ⟨f3,⟨e0,s3⟩ | ⟨e0,a1,a2,a3,a4⟩⟩:=z0m g3
 ·exact fin (i2.same s3 f3) (fun e1=>absurd e1 e0)
 subst e0;have d3:Y.dir=Z2.dir:=by unfold Ds.dir;rw [a1]
 have w3:Wf Y:=by unfold Wf;rw [a3];intro s hs;cases hs
 refine fin ⟨w3,fun f hf=>?_⟩ fun _=>⟨?_,?_,?_⟩
 ·rw [z3z g3 hf,f3];exact i2.live
 ·
  have e3:(h.rs.take j).length=j:=by rw [List.length_take];omega
  subst h10;refine { inn:=⟨w3,fun f hf=>⟨_,rfl,by rw [z3z g3 hf,f3];exact sh2⟩⟩,full:=rfl,name:=rfl,nob:=rfl,first:=rfl,seg:=rfl,segs:=rfl,size:=hen.symm,recs:=rfl,syn:=?_,snap:=?_ }
  ·show (h.closed ++ h.rs.take j).length <= h.closed.length + j;rw [List.length_append,e3];exact Nat.le_refl _
  ·
   show (h.sn=none /\ h.sn.isSome=false /\ h.sn.getD []=[]) \/ ∃ x,h.sn=some x /\ h.sn.isSome=true /\ h.sn.getD []=x;cases h.sn with
   | none=>exact .inl ⟨rfl,rfl,rfl⟩
   | some x=>exact .inr ⟨x,rfl,rfl,rfl⟩
 ·subst h10;rfl
 ·subst h10;rfl
end Go.Log
end
section
namespace Go.Log
open Go.Lk Go.RowKit Go.Vfs
variable {W0 w w' w2:World} {l d:Nat} {L L':Lg} {X Y:Ds} {O O' S N:Nat -> Prop}
structure DO (W0 w:World) (d:Nat) (X:Ds) (O:Nat -> Prop):Prop where
 ex:∃ F R,DiskAt w d F R X.D X.fc /\ (∀ k,O k -> k < w.heap.size /\ ¬ F k /\ ¬ R k) /\ ∀ k,F k -> W0.heap.size <= k
 k:Keeps Nb W0 w
 v:Vars W0
 six:6 <= W0.heap.size
structure LS (W0 w:World) (l d:Nat) (L:Lg) (X:Ds) (O:Nat -> Prop):Prop where
 ex:∃ Fd Rd FL RL,LgAt w l d Fd Rd FL RL L X /\ (∀ k,O k -> k < w.heap.size /\ ¬ Fd k /\ ¬ Rd k /\ ¬ FL k /\ ¬ RL k) /\ (∀ k,Fd k -> W0.heap.size <= k) /\ ∀ k,FL k -> W0.heap.size <= k
 k:Keeps Nb W0 w
 v:Vars W0
 six:6 <= W0.heap.size
def Oth (W0:World) (O:Nat -> Prop):Nat -> Prop:=fun k=>W0.heap.size <= k /\ ¬ O k
theorem DO.vars (h:DO W0 w d X O):Vars w:=h.v.nb h.k
theorem LS.vars (h:LS W0 w l d L X O):Vars w:=h.v.nb h.k
theorem DO.nb (h:DO W0 w d X O) (hk:Keeps Nb w w'):DO W0 w' d X O:=by
 obtain ⟨⟨F,R,h1,h2,h3⟩,h4,h5,h6⟩:=h;exact ⟨⟨F,R,h1.nb hk,fun k e=>⟨Nat.lt_of_lt_of_le (h2 k e).1 hk.size,(h2 k e).2⟩,h3⟩,h4.trans_nb hk,h5,h6⟩
theorem LS.nb (h:LS W0 w l d L X O) (hk:Keeps Nb w w'):LS W0 w' l d L X O:=by
 obtain ⟨⟨Fd,Rd,FL,RL,h1,h2,h3,h3'⟩,h4,h5,h6⟩:=h;exact ⟨⟨Fd,Rd,FL,RL,h1.nb hk,fun k e=>⟨Nat.lt_of_lt_of_le (h2 k e).1 hk.size,(h2 k e).2⟩,h3,h3'⟩,h4.trans_nb hk,h5,h6⟩
theorem LS.mono (h:LS W0 w l d L X O) (hO:∀ k,O' k -> O k):LS W0 w l d L X O':=by
 obtain ⟨⟨Fd,Rd,FL,RL,h1,h2,h3,h3'⟩,h4,h5,h6⟩:=h;exact ⟨⟨Fd,Rd,FL,RL,h1,fun k e=>h2 k (hO k e),h3,h3'⟩,h4,h5,h6⟩
theorem DO.add (h:DO W0 w d X O) (hk:Keeps Nb w w') (hN:∀ k,N k -> w.heap.size <= k /\ k < w'.heap.size):DO W0 w' d X fun k=>O k \/ N k:=by
 obtain ⟨⟨F,R,h1,h2,h3⟩,h4,h5,h6⟩:=h;refine ⟨⟨F,R,h1.nb hk,fun k e=>?_,h3⟩,h4.trans_nb hk,h5,h6⟩;rcases e with e | e
 ·exact ⟨Nat.lt_of_lt_of_le (h2 k e).1 hk.size,(h2 k e).2⟩
 ·have:=hN k e;exact ⟨this.2,fun f=>by have:=h1.ltF k f;omega,fun f=>by have:=h1.ltR k f;omega⟩
theorem LS.add (h:LS W0 w l d L X O) (hk:Keeps Nb w w') (hN:∀ k,N k -> w.heap.size <= k /\ k < w'.heap.size):LS W0 w' l d L X fun k=>O k \/ N k:=by
 obtain ⟨⟨Fd,Rd,FL,RL,h1,h2,h3,h3'⟩,h4,h5,h6⟩:=h;refine ⟨⟨Fd,Rd,FL,RL,h1.nb hk,fun k e=>?_,h3,h3'⟩,h4.trans_nb hk,h5,h6⟩;rcases e with e | e
 ·exact ⟨Nat.lt_of_lt_of_le (h2 k e).1 hk.size,(h2 k e).2⟩
 ·have:=hN k e;exact ⟨this.2,fun f=>by have:=h1.disk.ltF k f;omega,fun f=>by have:=h1.disk.ltR k f;omega,fun f=>by have:=h1.ltF k f;omega,fun f=>by have:=h1.ltR k f;omega⟩
theorem DO.set (h:DO W0 w d X O) (hk:Keeps S w w') (hS:∀ k,S k -> O k /\ W0.heap.size <= k):DO W0 w' d X O:=by
 obtain ⟨⟨F,R,h1,h2,h3⟩,h4,h5,h6⟩:=h;exact ⟨⟨F,R,h1.keeps hk (fun k f s=>(h2 k (hS k s).1).2.1 f) (fun k f s=>(h2 k (hS k s).1).2.2 f),fun k e=>⟨Nat.lt_of_lt_of_le (h2 k e).1 hk.size,(h2 k e).2⟩,h3⟩,h4.trans hk (fun j hj s=>by have:=(hS j s).2;omega),h5,h6⟩
theorem LS.set (h:LS W0 w l d L X O) (hk:Keeps S w w') (hS:∀ k,S k -> O k /\ W0.heap.size <= k):LS W0 w' l d L X O:=by
 obtain ⟨⟨Fd,Rd,FL,RL,h1,h2,h3,h3'⟩,h4,h5,h6⟩:=h;exact ⟨⟨Fd,Rd,FL,RL,h1.keeps hk (fun k f s=>(h2 k (hS k s).1).2.1 f) (fun k f s=>(h2 k (hS k s).1).2.2.1 f) (fun k f s=>(h2 k (hS k s).1).2.2.2.1 f) (fun k f s=>(h2 k (hS k s).1).2.2.2.2 f),fun k e=>⟨Nat.lt_of_lt_of_le (h2 k e).1 hk.size,(h2 k e).2⟩,h3,h3'⟩,h4.trans hk (fun j hj s=>by have:=(hS j s).2;omega),h5,h6⟩
theorem LS.disk (h:LS W0 w l d L X O):DO W0 w d X O:=by
 obtain ⟨⟨Fd,Rd,FL,RL,h1,h2,h3,h3'⟩,h4,h5,h6⟩:=h;exact ⟨⟨Fd,Rd,h1.disk,fun k e=>⟨(h2 k e).1,(h2 k e).2.1,(h2 k e).2.2.1⟩,h3⟩,h4,h5,h6⟩
theorem DO.now (h:DO W0 w d X O) {F R:Nat -> Prop} (h1:∀ k,O k -> k < w.heap.size /\ ¬ F k /\ ¬ R k) (h2:∀ k,F k -> W0.heap.size <= k) (hn:Now w w' d F R Y.D Y.fc):DO W0 w' d Y O /\ Keeps (Oth W0 O) w w':=by
 obtain ⟨F',R',n1,n2,n3,n4⟩:=hn;have z0:=h.k.size;have z:=n4.size;refine ⟨⟨⟨F',R',n1,fun k e=>?_,fun k f=>(n2 k f).elim (h2 k) (fun _=>by omega)⟩,h.k.trans n4 (fun j hj e=>by have:=h2 j e;omega),h.v,h.six⟩,n4.mono fun k _ f=>⟨h2 k f,fun e=>(h1 k e).2.1 f⟩⟩;have:=h1 k e;exact ⟨by omega,fun f=>(n2 k f).elim this.2.1 (fun _=>by omega),fun f=>(n3 k f).elim this.2.2 (fun _=>by omega)⟩
theorem LS.now (h:LS W0 w l d L X O) {Fd Rd FL RL:Nat -> Prop} (h1:∀ k,O k -> k < w.heap.size /\ ¬ Fd k /\ ¬ Rd k /\ ¬ FL k /\ ¬ RL k) (h2:∀ k,Fd k -> W0.heap.size <= k) (h3:∀ k,FL k -> W0.heap.size <= k) (hn:LNow w w' l d Fd Rd FL RL L' Y):LS W0 w' l d L' Y O /\ Keeps (Oth W0 O) w w':=by
 obtain ⟨Fd',Rd',FL',RL',n1,n2,n3,n4,n5,n6⟩:=hn;have z0:=h.k.size;have z:=n6.size;refine ⟨⟨⟨Fd',Rd',FL',RL',n1,fun k e=>?_,fun k f=>(n2 k f).elim (h2 k) (fun _=>by omega),fun k f=>(n4 k f).elim (h3 k) (fun _=>by omega)⟩,h.k.trans n6 (fun j hj e=>e.elim (fun e=>by have:=h2 j e;omega) (fun e=>by have:=h3 j e;omega)),h.v,h.six⟩,n6.mono fun k _ f=>⟨f.elim (h2 k) (h3 k),fun e=>f.elim (h1 k e).2.1 (h1 k e).2.2.2.1⟩⟩;have:=h1 k e;exact ⟨by omega,fun f=>(n2 k f).elim this.2.1 (fun _=>by omega),fun f=>(n3 k f).elim this.2.2.1 (fun _=>by omega),fun f=>(n4 k f).elim this.2.2.2.1 (fun _=>by omega),fun f=>(n5 k f).elim this.2.2.2.2 (fun _=>by omega)⟩
theorem Oth.at {b:Nat} {o:Obj} (hk:Keeps (Oth W0 O) w w') (h:w.heap[b]?=some o) (hO:O b):w'.heap[b]?=some o:=hk.at h fun e=>e.2 hO
end Go.Log
namespace Go.Proofs.YtpjomdmjohjheaaGreatDoor
open Go.RowKit Go.Lk Go.Vfs Go.Log
variable {W0 w w' w2:World} {l d:Nat} {L L':Lg} {X Y:Ds} {O O' S N:Nat -> Prop}
def LsD (W0:World) (l d:Nat) (O:Nat -> Prop) (L:Lg) (X:Ds) (k:Int) (r:Lg -> Ds -> Int -> Lg -> Ds -> Prop) (w:World) (e:Ending) (w':World):Prop :=
 ∃ er L' Y,e=.returned (.int .i64 er) /\ LS W0 w' l d L' Y O /\ r L X er L' Y /\ pot Y <= pot X + k /\ Keeps (Oth W0 O) w w'
theorem z2z (h:LS W0 w l d L X O) (hp:pot X + 1 <= 999999):Calls Tryz.prog 22 #[.pointer (some ⟨l,0,none⟩)] w (LsD W0 l d O L X 1 synR w):=by
 obtain ⟨Fd,Rd,FL,RL,h1,h2,h3,h4⟩:=h.ex;refine (zet l d Fd Rd FL RL L X w h1 h.vars hp).mono ?_;rintro e w' ⟨er,L',Y,rfl,hn,hr,hp'⟩;obtain ⟨a,b⟩:=h.now h2 h3 h4 hn;exact ⟨er,L',Y,rfl,a,hr,hp',b⟩
def Own (W0:World) (O:Nat -> Prop):Nat -> Prop:=fun k=>k < W0.heap.size \/ O k
theorem z7t (h:LS W0 w l d L X O) {Fd Rd FL RL:Nat -> Prop} (h1:∀ k,O k -> k < w.heap.size /\ ¬ Fd k /\ ¬ Rd k /\ ¬ FL k /\ ¬ RL k) (h2:∀ k,Fd k -> W0.heap.size <= k) (h3:∀ k,FL k -> W0.heap.size <= k) {v:Value} {bs:List Nat} (hb:Bytes w (Own W0 O) v bs):BytesO v bs w Fd FL:=by
 refine Bytes.mono hb fun k e=>?_;have z:=h.k.size;rcases e with e | e
 ·exact ⟨by omega,fun f=>by have:=h2 k f;omega,fun f=>by have:=h3 k f;omega⟩
 ·exact ⟨(h1 k e).1,(h1 k e).2.1,(h1 k e).2.2.2.1⟩
theorem z13 (h:LS W0 w l d L X O) {v:Value} {bs:List Nat} (hb:Bytes w (Own W0 O) v bs) (hp:pot X + 6 <= 999999) (hsg:L.segments < 1000000) (hrc:L.recs.length < 4000000000000) (hsz:L.size <= 16777216) :
  Calls Tryz.prog 21 #[.pointer (some ⟨l,0,none⟩),v] w (LsD W0 l d O L X 6 (fun L X e L' Y=>appR L bs X e L' Y) w):=by
 obtain ⟨Fd,Rd,FL,RL,h1,h2,h3,h4⟩:=h.ex;refine (zcf l d Fd Rd FL RL L X v bs w h1 h.vars (z7t h h2 h3 h4 hb) hp hsg hrc hsz).mono ?_;rintro e w' ⟨er,L',Y,rfl,hn,hr,hp'⟩;obtain ⟨a,b⟩:=h.now h2 h3 h4 hn;exact ⟨er,L',Y,rfl,a,hr,hp',b⟩
theorem z7e (h:LS W0 w l d L X O) {v:Value} {bs:List Nat} (hb:Bytes w (Own W0 O) v bs) (hp:pot X + 19 <= 999999) :
  Calls Tryz.prog 23 #[.pointer (some ⟨l,0,none⟩),v] w (LsD W0 l d O L X 19 (fun L X e L' Y=>turnR L bs X e L' Y) w):=by
 obtain ⟨Fd,Rd,FL,RL,h1,h2,h3,h4⟩:=h.ex;refine (zhy l d Fd Rd FL RL L X v bs w h1 h.vars (z7t h h2 h3 h4 hb) hp).mono ?_;rintro e w' ⟨er,L',Y,rfl,hn,hr,hp'⟩;obtain ⟨a,b⟩:=h.now h2 h3 h4 hn;exact ⟨er,L',Y,rfl,a,hr,hp',b⟩
theorem z3x (h:DO W0 w d X O) (nm:ByteArray) (m:Nat) (hm1:mnB nm=true) (h16:nm.size <= 16) (hs1:1 <= m) (hs2:m <= 1048576) (hp:pot X + 12 <= 999999) :
  Calls Tryz.prog 19 #[.pointer (some ⟨d,0,none⟩),.string nm,.int .i64 m] w fun e w'=>∃ er L Y,openR nm m X er L Y /\ pot Y <= pot X + 12 /\ Keeps (Oth W0 O) w w' /\
   ((er=0 /\ ∃ l,e=.returned (.tuple #[.pointer (some ⟨l,0,none⟩),.int .i64 0]) /\ LS W0 w' l d L Y O) \/ (er ≠ 0 /\ e=.returned (.tuple #[.pointer none,.int .i64 er]) /\ DO W0 w' d Y O)):=by
 obtain ⟨F,R,h1,h2,h3⟩:=h.ex;have h6:=h.six;refine (zh0 d F R X nm m w h1 h.vars (fun k f=>by have:=h3 k f;omega) hm1 h16 hs1 hs2 hp).mono ?_;rintro e w' ⟨er,L,Y,hr,hp',⟨h0,l,Fd',Rd',FL,RL,rfl,g1,g2,g3,g4,g5,g6⟩ | ⟨h0,rfl,hn⟩⟩
 ·have z0:=h.k.size;have z:=g6.size;refine ⟨er,L,Y,hr,hp',g6.mono fun k _ f=>⟨h3 k f,fun e=>(h2 k e).2.1 f⟩,.inl ⟨h0,l,rfl,⟨⟨Fd',Rd',FL,RL,g1,fun k e=>?_,fun k f=>(g2 k f).elim (h3 k) (fun _=>by omega),fun k f=>by have:=g4 k f;omega⟩,h.k.trans g6 (fun j hj e=>by have:=h3 j e;omega),h.v,h.six⟩⟩⟩;have:=h2 k e;exact ⟨by omega,fun f=>(g2 k f).elim this.2.1 (fun _=>by omega),fun f=>(g3 k f).elim this.2.2 (fun _=>by omega),fun f=>by have:=g4 k f;omega,fun f=>by have:=g5 k f;omega⟩
 ·obtain ⟨a,b⟩:=h.now h2 h3 hn;exact ⟨er,L,Y,hr,hp',b,.inr ⟨h0,rfl,a⟩⟩
theorem zbk (h:LS W0 w l d L X O):Calls Tryz.prog 25 #[.pointer (some ⟨l,0,none⟩)] w fun e w'=>e=.returned (.bool L.bad) /\ w=w':=by
 obtain ⟨Fd,Rd,FL,RL,h1,-⟩:=h.ex;obtain ⟨sv,lv,hc⟩:=h1.cells;exact ro_at (hc w (Keeps.refl _ _))
theorem z3d (h:LS W0 w l d L X O):Calls Tryz.prog 30 #[.pointer (some ⟨l,0,none⟩)] w fun e w'=>e=.returned (.int .i64 (L.recs.length:Nat)) /\ w=w':=by
 obtain ⟨Fd,Rd,FL,RL,h1,-⟩:=h.ex;obtain ⟨sv,lv,vs,q1,-,q3,-⟩:=h1.ex;obtain ⟨-,-,la,lc,rfl,-⟩:=id q3;exact len_at q1
theorem zd0 (h:LS W0 w l d L X O):Calls Tryz.prog 20 #[.pointer (some ⟨l,0,none⟩)] w fun e w'=>e=.returned (.int .i64 (L.segment:Nat)) /\ w=w':=by
 obtain ⟨Fd,Rd,FL,RL,h1,-⟩:=h.ex;obtain ⟨sv,lv,hc⟩:=h1.cells;exact zbu (hc w (Keeps.refl _ _))
theorem z82 (h:LS W0 w l d L X O):Calls Tryz.prog 93 #[.pointer (some ⟨l,0,none⟩)] w fun e w'=>e=.returned (.int .i64 (L.synced:Nat)) /\ w=w':=by
 obtain ⟨Fd,Rd,FL,RL,h1,-⟩:=h.ex;obtain ⟨sv,lv,hc⟩:=h1.cells;exact zdz (hc w (Keeps.refl _ _))
theorem zak (h:LS W0 w l d L X O):Calls Tryz.prog 29 #[.pointer (some ⟨l,0,none⟩)] w fun e w'=>∃ v,e=.returned (.tuple #[v,.bool L.has]) /\ Bytes w' (SinceB w w') v (if L.has=true then L.snap else []) /\ Keeps Nb w w':=by
 obtain ⟨Fd,Rd,FL,RL,h1,-⟩:=h.ex;exact za3 h1
theorem zcz (h:LS W0 w l d L X O):Calls Tryz.prog 35 #[.pointer (some ⟨l,0,none⟩)] w (GotD w L.recs):=by
 obtain ⟨Fd,Rd,FL,RL,h1,-⟩:=h.ex;exact zcu l d Fd Rd FL RL L X w h1
theorem zgs (h:LS W0 w l d L X O) {wa:Option Addr} {wc:Nat} {vs:List Value} (hw:RowS w (fun k=>k < w.heap.size) (fun _=>False) 22 1 (.slice wa L.recs.length wc) L.recs.length vs) (hb:BytesL w (fun k=>k < w.heap.size) vs L.recs) :
  Calls Tryz.prog 34 #[.pointer (some ⟨l,0,none⟩),.slice wa L.recs.length wc,.int .i64 0] w fun e w'=>e=.returned (.bool true) /\ Keeps Nb w w':=by
 obtain ⟨Fd,Rd,FL,RL,h1,-⟩:=h.ex;refine zgz _ _ wa wc vs w hw hb h1.nums.recs h1.nums.nrec fun w1 k1=>?_;refine (z6u l d Fd Rd FL RL L X w1 (h1.nb k1)).mono ?_;rintro e w' ⟨g,rfl,g1,g2,g3,g4⟩;exact ⟨g,_,rfl,g1,g2,fun k e=>e.elim (fun e=>.inl (h1.ltF k e)) fun e=>e.elim (fun e=>.inl (h1.ltR k e)) .inr,g3,g4⟩
end Go.Proofs.YtpjomdmjohjheaaGreatDoor
end
section
namespace Go.Log
open Go.Lk Go.RowKit Go.Vfs
def RB (w:World) (R:Nat -> Prop) (v:Value) (ls:List (List Nat)):Prop :=
 ∃ a c vs,v=.slice a ls.length c /\ ls.length <= c /\ c <= maxLen /\ Has w a vs /\ (∀ b off,a=some ⟨b,off,none⟩ -> vs ≠ [] -> R b) /\ BytesL w R vs ls
theorem RB.keeps {w w':World} {R S:Nat -> Prop} {v:Value} {ls:List (List Nat)} (h:RB w R v ls) (hk:Keeps S w w') (hn:∀ k,R k -> ¬ S k):RB w' R v ls:=by
 obtain ⟨a,c,vs,h1,h2,h3,h4,h5,h6⟩:=h;exact ⟨a,c,vs,h1,h2,h3,h4.keeps hk (fun b off e hz=>hn b (h5 b off e hz)),h5,h6.keeps hk hn⟩
theorem RB.mono {w:World} {R R':Nat -> Prop} {v:Value} {ls:List (List Nat)} (h:RB w R v ls) (hn:∀ k,R k -> R' k):RB w R' v ls:=by
 obtain ⟨a,c,vs,h1,h2,h3,h4,h5,h6⟩:=h;exact ⟨a,c,vs,h1,h2,h3,h4,fun b off e hz=>hn b (h5 b off e hz),h6.mono hn⟩
theorem RB.of {w:World} {F R R':Nat -> Prop} {v:Value} {ls:List (List Nat)} {vs:List Value} (h:RowS w F (fun _=>False) 22 1 v ls.length vs) (hb:BytesL w R vs ls) (h1:∀ k,F k -> R' k) (h2:∀ k,R k -> R' k):RB w R' v ls:=by
 obtain ⟨-,-,a,c,e1,e2,e3,e4,e5,-⟩:=h;exact ⟨a,c,vs,e1,e2,e3,e4,fun b off e hz=>(e5 b off e hz).1.elim (h1 b) (fun e=>e.elim),hb.mono h2⟩
theorem RB.get {w:World} {R:Nat -> Prop} {a:Option Addr} {n c:Nat} {ls:List (List Nat)} (h:RB w R (.slice a n c) ls) {i:Nat} {x:List Nat} (hx:ls[i]?=some x) :
  ∃ b off ax cx,a=some ⟨b,off,none⟩ /\ R b /\ w.cell? ⟨b,off + i,none⟩=some (.slice ax x.length cx) /\ Bytes w R (.slice ax x.length cx) x:=by
 obtain ⟨a',c',vs,e,-,-,h4,h5,h6⟩:=h;cases e;have hi:=(List.getElem?_eq_some_iff.1 hx).1;obtain ⟨v,hv⟩:∃ v,vs[i]?=some v:=⟨_,List.getElem?_eq_getElem (by rw [h6.1];exact hi)⟩
 have hb:=h6.2 i v x hv hx;have hne:vs ≠ []:=by rintro rfl;cases hv
 obtain ⟨ax,cx,rfl,-⟩:=id hb;rcases h4 with h | ⟨b,off,rfl,hc⟩
 ·exact absurd h hne
 ·exact ⟨b,off,ax,cx,rfl,h5 b off rfl hne,hc i _ hv,hb⟩
theorem RB.take {w:World} {R:Nat -> Prop} {a:Option Addr} {n c:Nat} {ls:List (List Nat)} (h:RB w R (.slice a n c) ls) {k:Nat} (hk:k <= ls.length):RB w R (.slice a k c) (ls.take k):=by
 obtain ⟨a',c',vs,e,h2,h3,h4,h5,h6⟩:=h;cases e;have hl:(ls.take k).length=k:=by rw [List.length_take];omega
 refine ⟨a,c,vs.take k,by rw [hl],by omega,h3,?_,fun b off e hz=>h5 b off e (fun h=>by rw [h] at hz;simp at hz),by rw [List.length_take,List.length_take,h6.1],fun i v l hv hl=>?_⟩
 ·
  rcases h4 with h | ⟨b,off,rfl,hc⟩
  ·exact .inl (by rw [h];simp)
  ·
   refine .inr ⟨b,off,rfl,fun i v hv=>?_⟩;rw [List.getElem?_take] at hv;split at hv
   ·exact hc i v hv
   ·cases hv
 ·
  rw [List.getElem?_take] at hv hl;split at hv
  ·rename_i hik;rw [if_pos hik] at hl;exact h6.2 i v l hv hl
  ·cases hv
end Go.Log
namespace Go.Proofs.YtpjomdmjohjheaaGreatDoor
open Go.RowKit Go.Lk Go.Vfs Go.Log
theorem ba_tl {a b:ByteArray} (h:a.toList=b.toList):a=b:=by
 rw [ByteArray.toList_eq,ByteArray.toList_eq] at h;exact z39 h
def BoolD (w:World) (p:Prop) (e:Ending) (w':World):Prop:=∃ r,e=.returned (.bool r) /\ (p -> r=true) /\ Keeps Nb w w'
theorem zhk (v1 v2:Value) (l1 l2:List (List Nat)) (R:Nat -> Prop) (w:World) (h1:RB w R v1 l1) (h2:RB w R v2 l2) :
  Calls Tryz.prog 16 #[v1,v2] w (BoolD w (l1=l2)):=by
 have H1:=qq h1;have H2:=qq h2;obtain ⟨a1,c1,vs1,rfl,hc1,hm1,-⟩:=id h1;obtain ⟨a2,c2,vs2,rfl,hc2,hm2,-⟩:=id h2;obtain ⟨n1,hn1⟩:∃ n,l1.length=n:=⟨_,rfl⟩
 obtain ⟨n2,hn2⟩:∃ n,l2.length=n:=⟨_,rfl⟩
 have N1:=qq hn1;have N2:=qq hn2;rw [hn1] at hc1 H1 ⊢;rw [hn2] at hc2 H2 ⊢;unfold maxLen at hm1 hm2;clear h1 h2 hn1 hn2;go_enter Tryz.func16,Tryz.ntmps16;by_cases hnn:n1=n2
 ·
  subst hnn;go_wp2
  go_loopw [5,6] (fun sv kv wr=>∃ (k:Nat) (r:Bool),k <= n1 /\ sv=.bool r /\ kv=.int .i64 k /\ Hid (l1=l2 -> r=true) /\ Keeps Nb w wr) (fun sv kv _=>n1 - (intOf kv).toNat)
  case atStart=>exact ⟨0,true,Nat.zero_le _,by simp,rfl,qq (fun _=>rfl),Keeps.refl _ _⟩
  case round =>
   obtain ⟨k,r,hk,rfl,rfl,HRR,kw⟩:=hrel;have KW:=qq kw;clear kw;cases r with
   | false =>
    go_wp2;go_ret;exact ⟨false,rfl,HRR.out,KW.out⟩
   | true =>
    by_cases hlt:k < n1
    ·
     have i1:(k:Int) < (n1:Int):=by omega
     obtain ⟨x,hx⟩:∃ x,l1[k]?=some x:=⟨_,List.getElem?_eq_getElem (by rw [N1.out];exact hlt)⟩
     obtain ⟨y,hy⟩:∃ y,l2[k]?=some y:=⟨_,List.getElem?_eq_getElem (by rw [N2.out];exact hlt)⟩
     obtain ⟨b1,o1,ax,cx,rfl,-,q1,q2⟩:=(H1.out.keeps KW.out (fun _ _ e=>e)).get hx;obtain ⟨b2,o2,ay,cy,rfl,-,q3,q4⟩:=(H2.out.keeps KW.out (fun _ _ e=>e)).get hy;have t1:∀ u:Sub wr,u.wd.cell? ⟨b1,o1 + k,none⟩=some (.slice ax x.length cx):=fun u=>(u.k.cell (lt_of_cell q1) (fun e=>e)).trans q1;have t2:∀ u:Sub wr,u.wd.cell? ⟨b2,o2 + k,none⟩=some (.slice ay y.length cy):=fun u=>(u.k.cell (lt_of_cell q3) (fun e=>e)).trans q3;have HX:Hid (∀ u:Sub wr,Has u.wd ax (x.map fun z=>.int .u8 (z:Nat))):=qq fun u=>by
      obtain ⟨a',c',e,_,_,hr,_⟩:=q2;cases e;exact (hr.nb u.k).has
     have HY:Hid (∀ u:Sub wr,Has u.wd ay (y.map fun z=>.int .u8 (z:Nat))):=qq fun u=>by
      obtain ⟨a',c',e,_,_,hr,_⟩:=q4;cases e;exact (hr.nb u.k).has
     have HXY:Hid (l1=l2 -> x=y):=qq fun e=>by rw [e,hy] at hx;exact (Option.some.inj hx).symm
     clear q1 q2 q3 q4 hx hy;go_wp2;refine z1u (by kernel_rfl) (by kernel_rfl) ?_
     repeat (first | go_big_quiet_skip | (with_reducible refine stopq (op:=.convert 22 9 _) ?_) | go_big_quiet_step (fail))
     refine za (z5s (v:=.string (bstr x)) rfl (by rintro _ ⟨u,rfl⟩;exact z3g Tryz.underlying22 Tryz.underlying5 Tryz.underlying9 (by rfl) (HX.out u) rfl) ?_);simp only [Nat.reduceAdd,qn]
     repeat (first | go_big_quiet_skip | (with_reducible refine stopq (op:=.convert 22 9 _) ?_) | go_big_quiet_step (fail))
     refine za (z5s (v:=.string (bstr y)) rfl (by rintro _ ⟨u,rfl⟩;exact z3g Tryz.underlying22 Tryz.underlying5 Tryz.underlying9 (by rfl) (HY.out u) rfl) ?_);simp only [Nat.reduceAdd,qn]
     repeat (first | go_big_quiet_skip | (with_reducible refine stopq (op:=.convert 22 9 _) ?_) | go_big_quiet_step (fail))
     refine wpQuiet_nil ?_;rintro w3 ⟨u3,hu3⟩;have K3:Hid (Keeps Nb w w3):=qq (KW.out.trans_nb (hu3 ▸ u3.k));clear hu3 u3 t1 t2;go_wp2;go_roundw
     case rel=>exact ⟨k + 1,_,by omega,rfl,by go_num,qq (fun e=>by rw [HXY.out e];simp [z7o]),K3.out⟩
     case measure=>simp [intOf];omega
    ·go_wp2;go_ret;exact ⟨true,rfl,fun _=>rfl,KW.out⟩
 ·
  have t0:((n1:Int) == (n2:Int))=false:=by rw [beq_eq_false_iff_ne];omega
  have HNE:Hid (l1=l2 -> False):=qq fun e=>hnn (by rw [<- N1.out,<- N2.out,e]);go_wp2
  go_loopw [5,6] (fun sv kv wr=>sv=.bool false /\ wr=w) (fun sv kv _=>0)
  case atStart=>exact ⟨by simp [hnn],rfl⟩
  case round =>
   obtain ⟨rfl,rfl⟩:=hrel;go_wp2;go_ret;exact ⟨false,rfl,fun e=>(HNE.out e).elim,Keeps.refl _ _⟩
theorem zcj (v1 v2:Value) (l1 l2:List (List Nat)) (R:Nat -> Prop) (w:World) (h1:RB w R v1 l1) (h2:RB w R v2 l2) :
  Calls Tryz.prog 96 #[v1,v2] w (BoolD w (l2 <+: l1)):=by
 have H1:=qq h1;have H2:=qq h2;obtain ⟨a1,c1,vs1,rfl,hc1,hm1,-⟩:=id h1;obtain ⟨a2,c2,vs2,rfl,hc2,hm2,-⟩:=id h2;obtain ⟨n1,hn1⟩:∃ n,l1.length=n:=⟨_,rfl⟩
 obtain ⟨n2,hn2⟩:∃ n,l2.length=n:=⟨_,rfl⟩
 have N1:=qq hn1;have N2:=qq hn2;rw [hn1] at hc1 H1 ⊢;rw [hn2] at hc2 H2 ⊢;unfold maxLen at hm1 hm2;clear h1 h2 hn1 hn2;go_enter Tryz.func96,Tryz.ntmps96;by_cases hlt:n1 < n2
 ·
  have i1:(n1:Int) < (n2:Int):=by omega
  have HF:Hid (¬ l2 <+: l1):=qq fun e=>by have:=e.length_le;rw [N1.out,N2.out] at this;omega
  go_wp2;go_ret;exact ⟨false,rfl,fun e=>absurd e HF.out,Keeps.refl _ _⟩
 ·
  have i1:¬ (n1:Int) < (n2:Int):=by omega
  have k1:n2 <= c1:=by omega
  have SA:=qq (zhk (.slice a1 n2 c1) (.slice a2 n2 c2) (l1.take n2) l2 R w (H1.out.take (by rw [N1.out];omega)) H2.out);have HP:Hid (l2 <+: l1 -> l1.take n2=l2):=qq fun e=>by rw [<- N2.out];exact (List.prefix_iff_eq_take.1 e).symm
  clear hlt;by_cases hz:c1=0
  ·
   subst hz;obtain rfl:n1=0:=by omega
   obtain rfl:n2=0:=by omega
   clear i1;go_wp2_with fail;refine SA.out.mono ?_;rintro _ w' ⟨r,rfl,hr,hk⟩;have HR:=qq hr;have HK:=qq hk;clear hr hk SA;go_wp2;go_ret;exact ⟨r,rfl,fun e=>HR.out (HP.out e),HK.out⟩
  ·go_wp2_with fail;refine SA.out.mono ?_;rintro _ w' ⟨r,rfl,hr,hk⟩;have HR:=qq hr;have HK:=qq hk;clear hr hk SA;go_wp2;go_ret;exact ⟨r,rfl,fun e=>HR.out (HP.out e),HK.out⟩
structure Ks where
 s:ByteArray
 has:Bool
 all:List (List Nat)
 sure:Int
def Ks.v (k:Ks) (av:Value):Value:=.agg #[.string k.s,.bool k.has,av,.int .i64 k.sure]
def snapOf (L:Lg):List Nat:=if L.has=true then L.snap else []
structure Ks.Is (k:Ks) (L:Lg):Prop where
 s:bstr (snapOf L)=k.s
 has:L.has=k.has
 sure:k.sure <= (L.recs.length:Int)
 pre:L.recs <+: k.all
def IsD (w:World) (k:Ks) (L:Lg) (e:Ending) (w':World):Prop:=∃ r,e=.returned (.bool r) /\ (k.Is L -> r=true) /\ (r=true -> bstr (snapOf L)=k.s /\ L.has=k.has) /\ Keeps Nb w w'
theorem zfw {W0 w:World} {l d:Nat} {L:Lg} {X:Ds} {O:Nat -> Prop} (h:LS W0 w l d L X O) (k:Ks) (av:Value) (R:Nat -> Prop) (hav:RB w R av k.all) :
  Calls Tryz.prog 33 #[k.v av,.pointer (some ⟨l,0,none⟩)] w (IsD w k L):=by
 obtain ⟨ks,kh,ka,kr⟩:=k;have H:=qq h;have HA:=qq hav;obtain ⟨a1,c1,vs1,rfl,-⟩:=id hav;obtain ⟨n1,hn1⟩:∃ n,ka.length=n:=⟨_,rfl⟩
 have N1:=qq hn1;simp only [Ks.v];rw [hn1] at HA ⊢;clear h hav hn1;go_enter Tryz.func33,Tryz.ntmps33;go_wp2_with (first | go_skip | (with_reducible refine qv (by decide) ?_))
 refine za (vbox rfl ?_);intro b2 w1 nb;simp only [Nat.reduceAdd,qn];have B2:=qq nb.blk;have K1:=qq nb.k;have SN:=qq (zak (H.out.nb nb.k));clear nb;go_wp2_with fail;refine SN.out.mono ?_;rintro _ w2 ⟨sv,rfl,hsv,k2⟩;have K2:=qq (K1.out.trans_nb k2);have B22:=qq (k2.nb B2.out);obtain ⟨sa,sc,rfl,hsr⟩:=id hsv;have HSV:=qq hsv;have GA:=qq (zcz (H.out.nb K2.out));obtain ⟨sl,hsl⟩:∃ n,(if L.has=true then L.snap else []).length=n:=⟨_,rfl⟩
 have HSL:Hid ((snapOf L).length=sl):=qq hsl;obtain ⟨lh,hlh⟩:∃ h,L.has=h:=⟨_,rfl⟩
 have HLH:=qq hlh;rw [hsl,hlh];clear hsv hsr k2 SN B2 hsl hlh;go_wp2_with fail;refine GA.out.mono ?_;rintro _ w3 ⟨gv,gvs,rfl,hg1,hg2,k3⟩;obtain ⟨-,-,ga,gc,rfl,-⟩:=id hg1;obtain ⟨bl,hbl⟩:∃ b,bstr (snapOf L)=b:=⟨_,rfl⟩
 have HBL:=qq hbl
 have HHas:Hid (Has w3 sa ((snapOf L).map fun z=>.int .u8 (z:Nat))):=qq (by
  obtain ⟨a',c',e,_,_,hr,_⟩:=HSV.out
  cases e;exact (hr.nb k3).has)
 have K3:=qq (K2.out.trans_nb k3);have hb3:=k3.nb B22.out;have t0:w3.cell? ⟨b2,0,none⟩=some (.string ks):=(cell_of_block hb3).trans rfl;have t1:w3.cell? ⟨b2,1,none⟩=some (.bool kh):=(cell_of_block hb3).trans rfl;have t2:w3.cell? ⟨b2,2,none⟩=some (.slice a1 n1 c1):=(cell_of_block hb3).trans rfl;have t3:w3.cell? ⟨b2,3,none⟩=some (.int .i64 kr):=(cell_of_block hb3).trans rfl;have BA:=qq (zcj (.slice a1 n1 c1) (.slice ga L.recs.length gc) ka L.recs (fun k=>R k \/ k < w3.heap.size) w3 ((HA.out.keeps K3.out (fun _ _ e=>e)).mono fun k e=>.inl e) (RB.of hg1 hg2 (fun k e=>.inr e.2) (fun k e=>.inr e.1.2)));obtain ⟨m,hm⟩:∃ m,L.recs.length=m:=⟨_,rfl⟩
 have HM:=qq hm;rw [hm] at BA ⊢;clear hg1 hg2 hbl hm GA B22 hb3 k3;go_wp2_with (first | go_skip | (with_reducible refine zr (s:=22) ?_))
 refine za (zt (v:=.string bl) rfl (by rw [<- HBL.out];exact z3g Tryz.underlying22 Tryz.underlying5 Tryz.underlying9 (by rfl) HHas.out HSL.out) ?_);simp only [Nat.reduceAdd,qn];have HS0:Hid (∀ ks' kh' kr',(Ks.Is ⟨ks',kh',ka,kr'⟩ L ↔ (bl=ks' /\ lh=kh' /\ kr' <= (m:Int) /\ L.recs <+: ka))):=qq fun ks' kh' kr'=>by
  rw [<- HBL.out,<- HLH.out,<- HM.out];exact ⟨fun h=>⟨h.s,h.has,h.sure,h.pre⟩,fun h=>⟨h.1,h.2.1,h.2.2.1,h.2.2.2⟩⟩
 by_cases s1:bl=ks
 ·
  subst s1;by_cases s2:lh=kh
  ·
   subst s2;by_cases s3:kr <= (m:Int)
   ·go_wp2_with fail;refine BA.out.mono ?_;rintro _ w4 ⟨r,rfl,hr,k4⟩;have HR:Hid ((Ks.Is ⟨bl,lh,ka,kr⟩ L -> r=true) /\ (r=true -> bstr (snapOf L)=bl /\ L.has=lh)):=qq ⟨fun h=>hr ((HS0.out _ _ _).1 h).2.2.2,fun _=>⟨HBL.out,HLH.out⟩⟩;have K4:Hid (Keeps Nb w w4):=qq (K3.out.trans_nb k4);clear hr k4 BA t0 t1 t2 t3;go_wp2;go_ret;exact ⟨r,rfl,HR.out.1,HR.out.2,K4.out⟩
   ·
    have i3:(m:Int) < kr:=by omega
    have HN:Hid (Ks.Is ⟨bl,lh,ka,kr⟩ L -> false=true):=qq fun h=>absurd ((HS0.out _ _ _).1 h).2.2.1 s3;clear BA s3;go_wp2;go_ret;exact ⟨false,rfl,HN.out,(fun e=>by cases e),K3.out⟩
  ·
   have q2:(lh == kh)=false:=by cases lh <;> cases kh <;> first | rfl | exact absurd rfl s2
   have HN:Hid (Ks.Is ⟨bl,kh,ka,kr⟩ L -> false=true):=qq fun h=>absurd ((HS0.out _ _ _).1 h).2.1 s2;clear BA s2;go_wp2;go_ret;exact ⟨false,rfl,HN.out,(fun e=>by cases e),K3.out⟩
 ·have q1:¬ bl.toList=ks.toList:=fun e=>s1 (ba_tl e);have HN:Hid (Ks.Is ⟨ks,kh,ka,kr⟩ L -> false=true):=qq fun h=>absurd ((HS0.out _ _ _).1 h).1 s1;clear BA s1;go_wp2;go_ret;exact ⟨false,rfl,HN.out,(fun e=>by cases e),K3.out⟩
end Go.Proofs.YtpjomdmjohjheaaGreatDoor
end
section
namespace Go.Proofs.YtpjomdmjohjheaaGreatDoor
open Go.RowKit Go.Lk Go.Vfs Go.Log
def turnedK (b:List Nat):Ks:=⟨bstr b,true,[],0⟩
def playR:List StepD -> Lg -> Ds -> Ks -> Lg -> Ds -> Ks -> Ks -> Prop
 | [],L,X,k,L',Y,a,b=>L'=L /\ Y=X /\ a=k /\ b=k
 | s :: l,L,X,k,L',Y,a,b =>
  (L.bad=true /\ L'=L /\ Y=X /\ a=k /\ b=k) \/
  (L.bad=false /\ s.kind=1 /\ ∃ e L1 Z,appR L s.b X e L1 Z /\ playR l L1 Z { k with all:=k.all ++ [s.b],sure:=max k.sure (L1.synced:Int) } L' Y a b) \/
  (L.bad=false /\ s.kind=2 /\ ∃ e L1 Z,synR L X e L1 Z /\ playR l L1 Z (if e=0 then { k with sure:=(k.all.length:Int) } else k) L' Y a b) \/
  (L.bad=false /\ s.kind=3 /\ ∃ e L1 Z,turnR L s.b X e L1 Z /\ ((e ≠ 0 /\ L'=L1 /\ Y=Z /\ a=k /\ b=turnedK s.b) \/ (e=0 /\ playR l L1 Z (turnedK s.b) L' Y a b))) \/
  (L.bad=false /\ s.kind ≠ 1 /\ s.kind ≠ 2 /\ s.kind ≠ 3 /\ playR l L X k L' Y a b)
theorem zdg {l:List StepD} {L:Lg} {X:Ds} {k:Ks} (h:L.bad=true):playR l L X k L X k k:=by
 cases l with
 | nil=>exact ⟨rfl,rfl,rfl,rfl⟩
 | cons s l=>exact .inl ⟨h,rfl,rfl,rfl,rfl⟩
structure PB (L0:Lg) (X0:Ds) (k t:Nat) (L:Lg) (X:Ds):Prop where
 pot:pot X <= Go.Log.pot X0 + 19 * (k:Int)
 segs:L.segments <= L0.segments + k + 1
 recs:L.recs.length <= L0.recs.length + k
 size:L.size <= L0.size + 8 * k + t
theorem PB.refl (L:Lg) (X:Ds):PB L X 0 0 L X:=⟨by omega,by omega,by omega,by omega⟩
variable {L0 L L':Lg} {X0 X Y:Ds} {k t:Nat} {e:Int} {b:List Nat}
theorem PB.same (h:PB L0 X0 k t L X) (u:Nat):PB L0 X0 (k + 1) (t + u) L X:=by
 obtain ⟨h1,h2,h3,h4⟩:=h;exact ⟨by omega,by omega,by omega,by omega⟩
theorem on_bd (h:onR L X e L' Y):L'.segments <= L.segments + 1 /\ L'.recs.length <= L.recs.length /\ L'.size <= L.size:=by
 obtain ⟨-,⟨-,rfl⟩ | ⟨-,rfl⟩⟩:=h
 ·exact ⟨Nat.le_succ _,Nat.le_refl _,Nat.le_refl _⟩
 ·exact ⟨Nat.le_refl _,Nat.le_refl _,Nat.zero_le _⟩
theorem PB.app (h:PB L0 X0 k t L X) (hr:appR L b X e L' Y) (hp:Go.Log.pot Y <= Go.Log.pot X + 6):PB L0 X0 (k + 1) (t + b.length) L' Y:=by
 obtain ⟨h1,h2,h3,h4⟩:=h;have key:L'.segments <= L.segments + 1 /\ L'.recs.length <= L.recs.length + 1 /\ L'.size <= L.size + (8 + b.length):=by
  rcases hr with ⟨-,-,rfl,-⟩ | ⟨-,e1,Z,-,⟨-,-,rfl,-⟩ | ⟨-,-,-,rfl,-⟩ | ⟨-,-,hr⟩⟩
  ·omega
  ·exact ⟨by show L.segments <= _;omega,by show L.recs.length <= _;omega,by show L.size <= _;omega⟩
  ·exact ⟨by show L.segments <= _;omega,by simp,Nat.le_refl _⟩
  ·obtain ⟨a1,a2,a3⟩:=on_bd hr;exact ⟨a1,by simpa using a2,a3⟩
 exact ⟨by omega,by omega,by omega,by omega⟩
theorem PB.syn (h:PB L0 X0 k t L X) (hr:synR L X e L' Y) (hp:Go.Log.pot Y <= Go.Log.pot X + 1) (u:Nat):PB L0 X0 (k + 1) (t + u) L' Y:=by
 obtain ⟨h1,h2,h3,h4⟩:=h;have key:L'.segments=L.segments /\ L'.recs=L.recs /\ L'.size=L.size:=by
  rcases hr with ⟨-,-,rfl,-⟩ | ⟨-,-,⟨-,rfl⟩ | ⟨-,rfl⟩⟩ <;> exact ⟨rfl,rfl,rfl⟩
 obtain ⟨k1,k2,k3⟩:=key;exact ⟨by omega,by omega,by rw [k2];omega,by omega⟩
theorem PB.turn (h:PB L0 X0 k t L X) (hr:turnR L b X e L' Y) (hp:Go.Log.pot Y <= Go.Log.pot X + 19) (u:Nat):PB L0 X0 (k + 1) (t + u) L' Y:=by
 obtain ⟨h1,h2,h3,h4⟩:=h;have key:(L'.segments=L.segments /\ L'.recs=L.recs /\ L'.size=L.size) \/ (L'.segments=1 /\ L'.recs=[] /\ L'.size=0):=by
  rcases hr with ⟨-,-,rfl,-⟩ | ⟨-,-,⟨-,rfl⟩ | ⟨-,rfl⟩⟩
  ·exact .inl ⟨rfl,rfl,rfl⟩
  ·exact .inl ⟨rfl,rfl,rfl⟩
  ·exact .inr ⟨rfl,rfl,rfl⟩
 rcases key with ⟨k1,k2,k3⟩ | ⟨k1,k2,k3⟩
 ·exact ⟨by omega,by omega,by rw [k2];omega,by omega⟩
 ·exact ⟨by omega,by omega,by rw [k2];simp,by omega⟩
structure PlayOk (L:Lg) (X:Ds) (n:Nat):Prop where
 pot:Go.Log.pot X + 19 * (n:Int) <= 900000
 segs:L.segments + n <= 900000
 recs:L.recs.length + n <= 3000000000000
 size:L.size + 8 * n + 20000 <= 16000000
end Go.Proofs.YtpjomdmjohjheaaGreatDoor
end
section
namespace Go.Proofs.YtpjomdmjohjheaaGreatDoor
open Go.Vfs Go.Log
variable {A B A' B' L L':Lg} {X Y X' Y':Ds} {e:Int} {x:List Nat} {n:Nat}
end Go.Proofs.YtpjomdmjohjheaaGreatDoor
end
section
namespace Go.Log
open Go.Vfs
variable {nm:ByteArray} {X Y Z:Ds} {e:Int} {s t:ByteArray} {n k m:Nat} {bs:List Nat}
structure Fau (D:Dk):Prop where
 dead:D.dead=false
 fuse:D.fuse < 0
theorem zck (D:Dk):(chg D).1.fe=D.fe \/ (chg D).1.fe=0:=by
 unfold chg;simp only;split
 ·exact .inr rfl
 ·
  split
  ·left;simp only;split <;> rfl
  ·left;simp only;split <;> rfl
theorem za8 {D:Dk} (h:Fau D):Fau (chg D).1 /\ ((chg D).2.2 ≠ 0 -> (chg D).1.fe=0) /\ (D.fe=0 -> (chg D).2.2=0 /\ (chg D).1.fe=0):=by
 obtain ⟨h1,h2⟩:=h;have f1:¬ 0 < D.fuse:=by omega
 have f0:¬ D.fuse=0:=by omega
 unfold chg;simp only [if_neg f1];split
 ·rename_i hf;exact ⟨⟨h1,h2⟩,fun _=>rfl,fun h0=>absurd h0 hf.1⟩
 ·
  by_cases h0:D.fe=0
  ·
   try rw [if_neg f0]
   exact ⟨by simp only;split <;> exact ⟨h1,h2⟩,fun h=>absurd rfl h,fun _=>⟨rfl,by simp only;split <;> exact h0⟩⟩
  ·
   try rw [if_neg f0]
   exact ⟨by simp only;split <;> exact ⟨h1,h2⟩,fun h=>absurd rfl h,fun h=>absurd h h0⟩
structure FR (X:Ds) (e:Int) (Y:Ds):Prop where
 fau:Fau Y.D
 met:e ≠ 0 -> Y.D.fe=0
 calm:X.D.fe=0 -> e=0 /\ Y.D.fe=0
 fe:Y.D.fe=X.D.fe \/ Y.D.fe=0
theorem FR.trans (h1:FR X 0 Z) (h2:FR Z e Y):FR X e Y:=⟨h2.fau,h2.met,fun h=>h2.calm (h1.calm h).2,h2.fe.elim (fun e=>e ▸ h1.fe) .inr⟩
theorem FR.refl (h:Fau X.D):FR X 0 X:=⟨h,fun h=>absurd rfl h,fun h=>⟨rfl,h⟩,.inl rfl⟩
theorem FR.chg (h:Fau X.D) (hd:Y.D=(chg X.D).1) (he:e=(chg X.D).2.2):FR X e Y:=by
 obtain ⟨a,b,c⟩:=za8 h;subst he;exact ⟨hd ▸ a,fun h=>hd ▸ b h,fun h=>⟨(c h).1,hd ▸ (c h).2⟩,hd ▸ zck X.D⟩
theorem FR.chg' (h:Fau X.D) {D':Dk} (hY:Y.D.dead=D'.dead /\ Y.D.fuse=D'.fuse /\ Y.D.fe=D'.fe) (hd:D'=(Go.Vfs.chg X.D).1) (he:e=(Go.Vfs.chg X.D).2.2):FR X e Y:=by
 obtain ⟨a,b,c⟩:=za8 h;obtain ⟨y1,y2,y3⟩:=hY;subst he hd;exact ⟨⟨by rw [y1];exact a.dead,by rw [y2];exact a.fuse⟩,fun h=>by rw [y3];exact b h,fun h=>⟨(c h).1,by rw [y3];exact (c h).2⟩,by rw [y3];exact zck X.D⟩
theorem z49 (h:Fau X.D) (h1:mnB s=true) (h2:X.dir s=none) (h3:X.D.files.length < 64) (hr:mkO s X e Y):FR X e Y:=by
 obtain ⟨n,-,hr⟩:=hr;rcases hr with ⟨g,-⟩ | ⟨-,⟨b,g⟩,-⟩ | ⟨-,-,g,-⟩ | ⟨-,-,-,g,-⟩ | ⟨-,-,-,-,h0,⟨-,b,-,hd,-⟩ | ⟨-,hd,-⟩⟩
 ·rw [h1] at g;cases g
 ·rw [show flook X.D.files s=none from h2] at g;cases g
 ·omega
 ·rw [h.dead] at g;cases g
 ·exact FR.chg' h (by rw [hd];exact ⟨rfl,rfl,rfl⟩) rfl h0
 ·exact FR.chg h hd h0
theorem zbf {b:Nat} (h:Fau X.D) (h1:mnB s=true) (h2:X.dir s=some b) (h3:(bs.length:Int) <= X.D.cap - (tot X.D.files X.fc:Nat)) (hr:apO s bs X e Y):FR X e Y:=by
 have h2:flook X.D.files s=some b:=h2;rcases hr with ⟨g,-⟩ | ⟨-,g,-⟩ | ⟨b',-,hl,⟨g,-⟩ | ⟨-,g,-⟩ | ⟨-,-,h0,hd,-⟩⟩
 ·rw [h1] at g;cases g
 ·rw [h2] at g;cases g
 ·omega
 ·rw [h.dead] at g;cases g
 ·exact FR.chg h hd h0
theorem z3j {b:Nat} (h:Fau X.D) (h1:mnB s=true) (h2:X.dir s=some b) (hr:syO s X e Y):FR X e Y:=by
 have h2:flook X.D.files s=some b:=h2;rcases hr with ⟨g,-⟩ | ⟨-,g,-⟩ | ⟨b',-,hl,⟨g,-⟩ | ⟨-,h0,hd,-⟩⟩
 ·rw [h1] at g;cases g
 ·rw [h2] at g;cases g
 ·rw [h.dead] at g;cases g
 ·exact FR.chg h hd h0
theorem fr_cu {b:Nat} (h:Fau X.D) (h1:mnB s=true) (h2:X.dir s=some b) (h3:k <= (X.fc b).b.length) (hr:cuO s k X e Y):FR X e Y:=by
 have h2:flook X.D.files s=some b:=h2;rcases hr with ⟨g,-⟩ | ⟨-,g,-⟩ | ⟨-,-,g,-⟩ | ⟨b',-,-,hl,⟨g,-⟩ | ⟨-,g,-⟩ | ⟨-,-,h0,hd,-⟩⟩
 ·omega
 ·rw [h1] at g;cases g
 ·rw [h2] at g;cases g
 ·rw [h2] at hl;cases hl;omega
 ·rw [h.dead] at g;cases g
 ·exact FR.chg h hd h0
theorem zfv {b:Nat} (h:Fau X.D) (h1:mnB s=true) (h1':mnB t=true) (h2:X.dir s=some b) (hr:rnO s t X e Y):FR X e Y:=by
 have h2:flook X.D.files s=some b:=h2;obtain ⟨hr,-⟩:=hr;rcases hr with ⟨g,-⟩ | ⟨-,g,-⟩ | ⟨-,-,g,-⟩ | ⟨b',-,-,hl,⟨g,-⟩ | ⟨-,h0,hd⟩⟩
 ·rw [h1'] at g;cases g
 ·rw [h1] at g;cases g
 ·rw [h2] at g;cases g
 ·rw [h.dead] at g;cases g
 ·refine FR.chg' h (D':=(chg X.D).1) ?_ rfl h0;rw [hd];split <;> exact ⟨rfl,rfl,rfl⟩
theorem zbg {b:Nat} (h:Fau X.D) (h1:mnB s=true) (h2:X.dir s=some b) (hr:rmO s X e Y):FR X e Y:=by
 have h2:flook X.D.files s=some b:=h2;obtain ⟨hr,-⟩:=hr;rcases hr with ⟨g,-⟩ | ⟨-,g,-⟩ | ⟨b',-,hl,⟨g,-⟩ | ⟨-,h0,hd⟩⟩
 ·rw [h1] at g;cases g
 ·rw [h2] at g;cases g
 ·rw [h.dead] at g;cases g
 ·refine FR.chg' h (D':=(chg X.D).1) ?_ rfl h0;rw [hd];split <;> exact ⟨rfl,rfl,rfl⟩
theorem zhg (h1:mnB s=true) (h2:X.dir s=none) (hr:rmO s X e Y):e=6 /\ Y=X:=by
 have h2:flook X.D.files s=none:=h2;obtain ⟨hr,hf⟩:=hr;rcases hr with ⟨g,-⟩ | ⟨-,-,h0,hd⟩ | ⟨b',-,g,-⟩
 ·rw [h1] at g;cases g
 ·exact ⟨h0,by cases X;cases Y;simp_all⟩
 ·rw [h2] at g;cases g
theorem zct (h:Fau X.D) (h6:X.D.fe ≠ 6) (h1:mnB s=true) (hr:rmnO s X e Y):FR X e Y /\ (e=0 -> Y.dir s=none):=by
 obtain ⟨e1,hr,he⟩:=hr;cases hd:X.dir s with
 | none =>
  obtain ⟨rfl,rfl⟩:=zhg h1 hd hr;subst he;exact ⟨FR.refl h,fun _=>hd⟩
 | some b =>
  have hf:=zbg h h1 hd hr;have ne6:e1 ≠ 6:=by
   intro e6;subst e6;obtain ⟨hr,-⟩:=hr;rcases hr with ⟨-,g,-⟩ | ⟨-,g,-⟩ | ⟨b',-,hl,⟨g,-⟩ | ⟨-,h0,-⟩⟩
   ·omega
   ·rw [show flook X.D.files s=some b from hd] at g;cases g
   ·rw [h.dead] at g;cases g
   ·
    unfold chg at h0;simp only at h0;split at h0
    ·exact h6 h0.symm
    ·rw [if_neg (by have:=h.fuse;omega)] at h0;cases h0
  rw [if_neg ne6] at he;subst he;refine ⟨hf,fun e0=>?_⟩;obtain ⟨-,⟨g,-⟩ | ⟨-,b',-,hd'⟩⟩:=z1h hr
  ·exact absurd e0 g
  ·unfold Ds.dir;rw [hd'.files,z0i];exact if_pos rfl
theorem z6g (h:Fau X.D) (hr:sdO X e Y):FR X e Y:=by
 obtain ⟨hr,-⟩:=hr;rcases hr with ⟨g,-⟩ | ⟨-,h0,hd⟩
 ·rw [h.dead] at g;cases g
 ·refine FR.chg' h (D':=(chg X.D).1) ?_ rfl h0;rw [hd];split <;> exact ⟨rfl,rfl,rfl⟩
structure Bd (n t:Nat) (X:Ds):Prop where
 nf:X.D.files.length <= n
 nt:tot X.D.files X.fc <= t
 key:(X.D.files.map Prod.fst).Nodup
 blk:(X.D.files.map Prod.snd).Nodup
theorem Bd.mono {n t n' t':Nat} (h:Bd n t X) (h1:n <= n') (h2:t <= t'):Bd n' t' X:=⟨Nat.le_trans h.nf h1,Nat.le_trans h.nt h2,h.key,h.blk⟩
theorem z0q (p:ByteArray × Nat) (l:List (ByteArray × Nat)) (fc:Nat -> Fl):tot (p :: l) fc=(fc p.2).b.length + tot l fc:=by simp [tot]
theorem ze1 {l:List (ByteArray × Nat)} {fc fc':Nat -> Fl} (h:∀ p ∈ l,(fc' p.2).b.length=(fc p.2).b.length):tot l fc'=tot l fc:=by
 unfold tot;rw [List.map_congr_left h]
theorem zhx {l:List (ByteArray × Nat)} {fc:Nat -> Fl} {b:Nat} {x:Fl} (hn:(l.map Prod.snd).Nodup) {j:Nat} (hx:x.b.length <= (fc b).b.length + j):tot l (setf fc b x) <= tot l fc + j:=by
 induction l with
 | nil=>simp [tot]
 | cons p l ih =>
  rw [List.map_cons,List.nodup_cons] at hn;rw [z0q,z0q];by_cases e:p.2=b
  ·
   have:tot l (setf fc b x)=tot l fc:=ze1 fun q hq=>by
    rw [z0k];exact fun e2=>hn.1 (by rw [e,<- e2];exact List.mem_map.2 ⟨q,hq,rfl⟩)
   rw [this,e,z0j];omega
  ·rw [z0k _ _ e];have:=ih hn.2;omega
theorem z74 (a b:List (ByteArray × Nat)) (fc:Nat -> Fl):tot (a ++ b) fc=tot a fc + tot b fc:=by simp [tot]
theorem zb9 {l:List (ByteArray × Nat)} (fc:Nat -> Fl) (s:ByteArray):tot (fdel l s) fc <= tot l fc:=by
 unfold fdel
 induction l with
 | nil=>simp
 | cons p l ih =>
  rw [List.filter_cons];split
  ·rw [z0q,z0q];omega
  ·rw [z0q];omega
theorem z9k {l:List (ByteArray × Nat)} {b:Nat} (fc:Nat -> Fl) (s:ByteArray) (h:flook l s=some b):tot (fdel l s) fc + (fc b).b.length <= tot l fc:=by
 induction l with
 | nil=>cases h
 | cons p l ih =>
  rw [z0a] at h;by_cases e:p.1=s
  ·
   rw [if_pos e] at h;cases h;have h1:fdel (p :: l) s=fdel l s:=by unfold fdel;rw [List.filter_cons,if_neg (by simpa using e)]
   have:=zb9 (l:=l) fc s;rw [h1,z0q];omega
  ·
   rw [if_neg e] at h;have h1:fdel (p :: l) s=p :: fdel l s:=by unfold fdel;rw [List.filter_cons,if_pos (by simpa using e)]
   rw [h1,z0q,z0q];have:=ih h;omega
theorem zhw {l:List (ByteArray × Nat)} (fc:Nat -> Fl) (s:ByteArray) (b:Nat) (hk:(l.map Prod.fst).Nodup):tot (l.map fun p=>if p.1=s then (s,b) else p) fc <= tot l fc + (fc b).b.length:=by
 induction l with
 | nil=>simp [tot]
 | cons p l ih =>
  rw [List.map_cons,List.nodup_cons] at hk;rw [List.map_cons,z0q,z0q];by_cases e:p.1=s
  ·
   have:(l.map fun p=>if p.1=s then (s,b) else p)=l:=by
    conv=>rhs;rw [<- List.map_id l]
    exact List.map_congr_left fun q hq=>if_neg fun e2=>hk.1 (by rw [e,<- e2];exact List.mem_map.2 ⟨q,hq,rfl⟩)
   rw [if_pos e,this];simp only;omega
  ·rw [if_neg e];have:=ih hk.2;omega
theorem zf6 (l:List (ByteArray × Nat)) (s:ByteArray) (b:Nat):(l.map fun p=>if p.1=s then (s,b) else p).map Prod.fst=l.map Prod.fst:=by
 rw [List.map_map];refine List.map_congr_left fun p hp=>?_;simp only [Function.comp];split
 ·rename_i e;exact e.symm
 ·rfl
theorem zbt {l:List (ByteArray × Nat)} {s:ByteArray} {b:Nat} (hk:(l.map Prod.fst).Nodup) (hb:(l.map Prod.snd).Nodup) (hn:b ∉ l.map Prod.snd):((l.map fun p=>if p.1=s then (s,b) else p).map Prod.snd).Nodup:=by
 induction l with
 | nil=>simp
 | cons p l ih =>
  rw [List.map_cons,List.nodup_cons] at hk hb;rw [List.map_cons,List.mem_cons,not_or] at hn;rw [List.map_cons,List.map_cons,List.nodup_cons];by_cases e:p.1=s
  ·
   have:(l.map fun p=>if p.1=s then (s,b) else p)=l:=by
    conv=>rhs;rw [<- List.map_id l]
    exact List.map_congr_left fun q hq=>if_neg fun e2=>hk.1 (by rw [e,<- e2];exact List.mem_map.2 ⟨q,hq,rfl⟩)
   rw [this,if_pos e];exact ⟨hn.2,hb.2⟩
  ·
   rw [if_neg e];refine ⟨fun h=>?_,ih hk.2 hb.2 hn.2⟩;rw [List.map_map] at h;obtain ⟨q,hq,e2⟩:=List.mem_map.1 h;simp only [Function.comp] at e2;split at e2
   ·exact hn.1 e2
   ·exact hb.1 (e2 ▸ List.mem_map.2 ⟨q,hq,rfl⟩)
theorem zg4 {l:List (ByteArray × Nat)} {t:ByteArray} (h:¬ (l.any fun p=>decide (p.1=t))=true):t ∉ l.map Prod.fst:=by
 intro hm;obtain ⟨p,hp,e⟩:=List.mem_map.1 hm;exact h (List.any_eq_true.2 ⟨p,hp,by simpa using e⟩)
theorem bd_put {l:List (ByteArray × Nat)} {t:ByteArray} {b:Nat} (hk:(l.map Prod.fst).Nodup) (hb:(l.map Prod.snd).Nodup) (hn:b ∉ l.map Prod.snd) (fc:Nat -> Fl) :
  ((fput l t b).map Prod.fst).Nodup /\ ((fput l t b).map Prod.snd).Nodup /\ tot (fput l t b) fc <= tot l fc + (fc b).b.length:=by
 unfold fput;split
 ·exact ⟨by rw [zf6];exact hk,zbt hk hb hn,zhw fc t b hk⟩
 ·
  rename_i h;refine ⟨?_,?_,?_⟩
  ·rw [List.map_append,List.nodup_append];exact ⟨hk,by simp,fun a ha c hc e=>zg4 h (by simp at hc;rw [<- hc,<- e];exact ha)⟩
  ·rw [List.map_append,List.nodup_append];exact ⟨hb,by simp,fun a ha c hc e=>hn (by simp at hc;rw [<- hc,<- e];exact ha)⟩
  ·rw [z74];simp [tot]
theorem Bd.sm {n t:Nat} (h:Bd n t X) (hs:Sm X Y) (hf:Y.fc=X.fc):Bd n t Y:=by
 obtain ⟨h1,h2,h3,h4⟩:=h;exact ⟨by rw [hs.files];exact h1,by rw [hs.files,hf];exact h2,by rw [hs.files];exact h3,by rw [hs.files];exact h4⟩
theorem Bd.set {n t j b:Nat} {x:Fl} (h:Bd n t X) (hs:Sm X Y) (hf:Y.fc=setf X.fc b x) (hx:x.b.length <= (X.fc b).b.length + j):Bd n (t + j) Y:=by
 obtain ⟨h1,h2,h3,h4⟩:=h;exact ⟨by rw [hs.files];exact h1,by rw [hs.files,hf];have:=zhx h4 hx (fc:=X.fc);omega,by rw [hs.files];exact h3,by rw [hs.files];exact h4⟩
theorem bd_mk {n t:Nat} (h:Bd n t X) (hr:mkO s X e Y):Bd (n + 1) t Y:=by
 rcases z0l hr with ⟨-,h1,h2⟩ | ⟨-,hn,-,b,hb,hd,hf⟩
 ·exact (h.sm h1 h2).mono (by omega) (Nat.le_refl _)
 ·
  have hbn:b ∉ X.D.files.map Prod.snd:=fun hm=>by
   obtain ⟨p,hp,e⟩:=List.mem_map.1 hm;exact hb b (.inl ⟨p,hp,e⟩) rfl
  have hkn:s ∉ X.D.files.map Prod.fst:=fun hm=>by
   obtain ⟨c,hc⟩:=z15 hm;rw [show flook X.D.files s=none from hn] at hc;cases hc
  obtain ⟨h1,h2,h3,h4⟩:=h;have ht:tot X.D.files Y.fc=tot X.D.files X.fc:=ze1 fun p hp=>by
   rw [hf];simp only;rw [if_neg fun e:p.2=b=>hbn (e ▸ List.mem_map.2 ⟨p,hp,rfl⟩)]
  refine ⟨by rw [hd.files,List.length_append];simpa using h1,?_,?_,?_⟩
  ·
   rw [hd.files,z74,ht];have:(Y.fc b).b.length=0:=by rw [hf];simp
   simp only [tot,List.map_cons,List.map_nil,List.sum_cons,List.sum_nil] at h2 ⊢;omega
  ·rw [hd.files,List.map_append,List.nodup_append];exact ⟨h3,by simp,fun a ha c hc e=>hkn (by simp at hc;rw [<- hc,<- e];exact ha)⟩
  ·rw [hd.files,List.map_append,List.nodup_append];exact ⟨h4,by simp,fun a ha c hc e=>hbn (by simp at hc;rw [<- hc,<- e];exact ha)⟩
theorem bd_ap {n t:Nat} (h:Bd n t X) (hr:apO s bs X e Y):Bd n (t + bs.length) Y:=by
 obtain ⟨h1,⟨-,h2⟩ | ⟨b,k,-,hk,-,hf⟩⟩:=z0n hr
 ·exact (h.sm h1 h2).mono (Nat.le_refl _) (by omega)
 ·exact h.set h1 hf (by simp only [List.length_append,List.length_take];omega)
theorem bd_sy {n t:Nat} (h:Bd n t X) (hr:syO s X e Y):Bd n t Y:=by
 obtain ⟨h1,⟨-,h2⟩ | ⟨-,b,-,hf⟩⟩:=z0e hr
 ·exact h.sm h1 h2
 ·exact h.set h1 hf (j:=0) (by simp)
theorem bd_cu {n t:Nat} (h:Bd n t X) (hr:cuO s k X e Y):Bd n t Y:=by
 obtain ⟨h1,⟨-,h2⟩ | ⟨-,b,-,-,hf⟩⟩:=z3b hr
 ·exact h.sm h1 h2
 ·exact h.set h1 hf (j:=0) (by simp only [List.length_take];omega)
theorem bd_rm {n t:Nat} (h:Bd n t X) (hr:rmO s X e Y):Bd n t Y:=by
 obtain ⟨hf,⟨-,h1,-⟩ | ⟨-,b,-,hd⟩⟩:=z1h hr
 ·exact h.sm h1 hf
 ·obtain ⟨h1,h2,h3,h4⟩:=h;have hsub:(fdel X.D.files s).Sublist X.D.files:=List.filter_sublist;exact ⟨by rw [hd.files];exact Nat.le_trans hsub.length_le h1,by rw [hd.files,hf];exact Nat.le_trans (zb9 _ _) h2,by rw [hd.files];exact h3.sublist (hsub.map _),by rw [hd.files];exact h4.sublist (hsub.map _)⟩
theorem bd_rn {n k:Nat} (h:Bd n k X) (hr:rnO s t X e Y):Bd n k Y:=by
 obtain ⟨hf,⟨-,h1⟩ | ⟨-,b,hb,hd⟩⟩:=z2e hr
 ·exact h.sm h1 hf
 ·
  obtain ⟨h1,h2,h3,h4⟩:=h;have hb:flook X.D.files s=some b:=hb;have hsub:(fdel X.D.files s).Sublist X.D.files:=List.filter_sublist;have hk:=h3.sublist (hsub.map Prod.fst);have hbk:=h4.sublist (hsub.map Prod.snd);have hn:b ∉ (fdel X.D.files s).map Prod.snd:=fun hm=>by
   obtain ⟨p,hp,e⟩:=List.mem_map.1 hm;obtain ⟨hp1,hp2⟩:=List.mem_filter.1 hp;have hps:p.1 ≠ s:=by simpa using hp2
   have h5:=zq hb;have:p=(s,b):=by
    have h6:=h4;rw [List.Nodup,List.pairwise_map] at h6;obtain ⟨i,hi,hpi⟩:=List.getElem_of_mem hp1;obtain ⟨j,hj,hpj⟩:=List.getElem_of_mem h5;rcases Nat.lt_trichotomy i j with hij | hij | hij
    ·exact absurd (by rw [hpi,hpj];exact e) (List.pairwise_iff_getElem.1 h6 i j hi hj hij)
    ·subst hij;rw [<- hpi,hpj]
    ·exact absurd (by rw [hpi,hpj];exact e.symm) (List.pairwise_iff_getElem.1 h6 j i hj hi hij)
   exact hps (by rw [this])
  obtain ⟨g1,g2,g3⟩:=bd_put (t:=t) hk hbk hn Y.fc;have g4:=z9k X.fc s hb;refine ⟨?_,?_,by rw [hd.files];exact g1,by rw [hd.files];exact g2⟩
  ·rw [hd.files];exact Nat.le_trans (z7m hb t) h1
  ·rw [hd.files];rw [hf] at g3 ⊢;omega
theorem bd_sd {n t:Nat} (h:Bd n t X) (hr:sdO X e Y):Bd n t Y:=by
 obtain ⟨hf,⟨-,h1⟩ | ⟨-,h1,-⟩⟩:=z0m hr
 ·exact h.sm h1 hf
 ·obtain ⟨g1,g2,g3,g4⟩:=h;exact ⟨by rw [h1];exact g1,by rw [h1,hf];exact g2,by rw [h1];exact g3,by rw [h1];exact g4⟩
theorem cap_mk (hr:mkO s X e Y):Y.D.cap=X.D.cap:=by
 rcases z0l hr with ⟨-,h1,-⟩ | ⟨-,-,-,b,-,hd,-⟩
 ·exact h1.cap
 ·exact hd.cap
end Go.Log
end
section
namespace Go.Log
open Go.Vfs
variable {nm:ByteArray} {X Y Z:Ds} {e:Int} {s t:ByteArray} {n k m q:Nat} {x:List Nat} {A:ByteArray -> Prop} {g:Sh} {L L':Lg}
def AllN (A:ByteArray -> Prop) (X:Ds):Prop:=∀ t b,X.dir t=some b -> A t
structure Qt (n q:Nat) (A:ByteArray -> Prop) (c:Int) (X:Ds):Prop where
 bd:Bd n q X
 al:AllN A X
 cap:X.D.cap=c
variable {c:Int}
theorem Qt.mono {n' q':Nat} {A':ByteArray -> Prop} (h:Qt n q A c X) (h1:n <= n') (h2:q <= q') (h3:∀ t,A t -> A' t):Qt n' q' A' c X:=⟨h.bd.mono h1 h2,fun t b hb=>h3 t (h.al t b hb),h.cap⟩
theorem Qt.sm (h:AllN A X) (hs:Sm X Y):AllN A Y:=fun t b hb=>h t b (by rw [<- hs.dir];exact hb)
theorem z2q (h:Qt n q A c X) (hA:A s) (hr:mkO s X e Y):Qt (n + 1) q A c Y:=by
 refine ⟨bd_mk h.bd hr,?_,(cap_mk hr).trans h.cap⟩;rcases z0l hr with ⟨-,h1,-⟩ | ⟨-,hn,-,b,-,hd,-⟩
 ·exact Qt.sm h.al h1
 ·
  intro t b' hb;have hb:(Dir.put X.dir s b) t=some b':=by rw [show Y.dir=Dir.put X.dir s b by unfold Ds.dir;rw [hd.files,z0g hn]] at hb;exact hb
  unfold Dir.put at hb;split at hb
  ·rename_i e1;rw [e1];exact hA
  ·exact h.al t b' hb
theorem zbq (h:Qt n q A c X) (hr:apO s x X e Y):Qt n (q + x.length) A c Y:=⟨bd_ap h.bd hr,Qt.sm h.al (z0n hr).1,(z0n hr).1.cap.trans h.cap⟩
theorem z2r (h:Qt n q A c X) (hr:syO s X e Y):Qt n q A c Y:=⟨bd_sy h.bd hr,Qt.sm h.al (z0e hr).1,(z0e hr).1.cap.trans h.cap⟩
theorem qt_cu (h:Qt n q A c X) (hr:cuO s k X e Y):Qt n q A c Y:=⟨bd_cu h.bd hr,Qt.sm h.al (z3b hr).1,(z3b hr).1.cap.trans h.cap⟩
theorem al_del (h:AllN A X) (hd:Y.dir=Dir.del X.dir s):AllN A Y:=fun t b hb=>by
 rw [hd] at hb;unfold Dir.del at hb;split at hb
 ·cases hb
 ·exact h t b hb
theorem zbr (h:Qt n q A c X) (hr:rmO s X e Y):Qt n q A c Y:=by
 refine ⟨bd_rm h.bd hr,?_,?_⟩
 ·
  obtain ⟨-,⟨-,h1,-⟩ | ⟨-,b,-,hd⟩⟩:=z1h hr
  ·exact Qt.sm h.al h1
  ·exact al_del h.al (by unfold Ds.dir;rw [hd.files,z0i])
 ·
  obtain ⟨-,⟨-,h1,-⟩ | ⟨-,b,-,hd⟩⟩:=z1h hr
  ·exact h1.cap.trans h.cap
  ·exact hd.cap.trans h.cap
theorem z9d (h:Qt n q A c X) (hr:rmnO s X e Y):Qt n q A c Y:=by
 obtain ⟨e1,hr,-⟩:=hr;exact zbr h hr
theorem zg0 (h:Qt n q A c X) (hA:A t) (hr:rnO s t X e Y):Qt n q A c Y:=by
 refine ⟨bd_rn h.bd hr,?_,?_⟩
 ·
  obtain ⟨-,⟨-,h1⟩ | ⟨-,b,-,hd⟩⟩:=z2e hr
  ·exact Qt.sm h.al h1
  ·
   intro u b' hb;have hb:(Dir.put (Dir.del X.dir s) t b) u=some b':=by rw [show Y.dir=Dir.put (Dir.del X.dir s) t b by unfold Ds.dir;rw [hd.files,z2m,z0i]] at hb;exact hb
   unfold Dir.put Dir.del at hb;split at hb
   ·rename_i e1;rw [e1];exact hA
   ·
    split at hb
    ·cases hb
    ·exact h.al u b' hb
 ·
  obtain ⟨-,⟨-,h1⟩ | ⟨-,b,-,hd⟩⟩:=z2e hr
  ·exact h1.cap.trans h.cap
  ·exact hd.cap.trans h.cap
theorem z6s (h:Qt n q A c X) (hr:sdO X e Y):Qt n q A c Y:=by
 refine ⟨bd_sd h.bd hr,?_,?_⟩
 ·
  obtain ⟨-,⟨-,h1⟩ | ⟨-,h1,-⟩⟩:=z0m hr
  ·exact Qt.sm h.al h1
  ·exact fun t b hb=>h.al t b (by unfold Ds.dir at hb ⊢;rw [<- h1];exact hb)
 ·
  obtain ⟨-,⟨-,h1⟩ | ⟨-,-,-,-,h1⟩⟩:=z0m hr
  ·exact h1.cap.trans h.cap
  ·exact h1.trans h.cap
theorem z54 (h:Qt n q A c X) (hA:A s) (hr:putO s x X e Y):Qt (n + 1) (q + (8 + x.length)) A c Y:=by
 rcases zi hr with ⟨-,h1⟩ | ⟨Z1,h1,hr⟩
 ·exact (z2q h hA h1).mono (Nat.le_refl _) (by omega) (fun _ e=>e)
 have q1:=z2q h hA h1;rcases zi hr with ⟨-,h1⟩ | ⟨Z2,h1,hr⟩
 ·have:=zbq q1 h1;rw [zx] at this;exact this
 have q2:=zbq q1 h1;rw [zx] at q2;exact z2r q2 (z04 hr)
theorem z6f (hF:Fau X.D) (h:Qt n q A c X) (hA:A s) (hm:mnB s=true) (h0:X.dir s=none) (hn:n < 64) (hq:((q + (8 + x.length):Nat):Int) <= c) (hr:putO s x X e Y):FR X e Y:=by
 have hl:X.D.files.length < 64:=by have:=h.bd.nf;omega
 rcases zi hr with ⟨-,h1⟩ | ⟨Z1,h1,hr⟩
 ·exact z49 hF hm h0 hl h1
 have f1:=z49 hF hm h0 hl h1;have q1:=z2q h hA h1;rcases z0l h1 with ⟨h2,-⟩ | ⟨-,-,-,b,-,hd,-⟩
 ·exact absurd rfl h2
 have d1:Z1.dir s=some b:=by
  have:Z1.dir=Dir.put X.dir s b:=by unfold Ds.dir;rw [hd.files,z0g h0]
  rw [this];exact if_pos rfl
 have hroom:((recd x).length:Int) <= Z1.D.cap - (tot Z1.D.files Z1.fc:Nat):=by
  rw [zx,q1.cap];have:=q1.bd.nt;omega
 clear h1 hd;rcases zi hr with ⟨-,h1⟩ | ⟨Z2,h1,hr⟩
 ·exact f1.trans (zbf f1.fau hm d1 hroom h1)
 have f2:=f1.trans (zbf f1.fau hm d1 hroom h1);have d2:Z2.dir s=some b:=by rw [(z0n h1).1.dir];exact d1
 exact f2.trans (z3j f2.fau hm d2 (z04 hr))
theorem z6r (h:Qt n q A c X) (hA1:A (newf nm)) (hA2:A (manf nm)) (hr:manO nm m k X e Y):Qt (n + 1) (q + 24) A c Y:=by
 rcases zi hr with ⟨-,h1⟩ | ⟨Z1,h1,hr⟩
 ·exact (z9d h h1).mono (by omega) (by omega) (fun _ e=>e)
 have q1:=z9d h h1;rcases zi hr with ⟨-,h1⟩ | ⟨Z2,h1,hr⟩
 ·have:=z54 q1 hA1 h1;rw [z2a] at this;exact this
 have q2:=z54 q1 hA1 h1;rw [z2a] at q2;rcases zi hr with ⟨-,h1⟩ | ⟨Z3,h1,hr⟩
 ·exact z6s q2 h1
 have q3:=z6s q2 h1;rcases zi hr with ⟨-,h1⟩ | ⟨Z4,h1,hr⟩
 ·exact zg0 q3 hA2 h1
 exact z6s (zg0 q3 hA2 h1) (z04 hr)
theorem z7j (hr:putO s x X 0 Y):X.dir s=none /\ ∃ b,Y.dir=Dir.put X.dir s b /\ (∀ t c,X.dir t=some c -> c ≠ b) /\ Y.fc b=⟨recd x,(recd x).length⟩ /\ (∀ c,c ≠ b -> Y.fc c=X.fc c):=by
 rcases zi hr with ⟨h0,-⟩ | ⟨Z1,h1,hr⟩
 ·exact absurd rfl h0
 rcases z0l h1 with ⟨h2,-⟩ | ⟨-,hn,-,b,hb,hd,hf⟩
 ·exact absurd rfl h2
 have d1:Z1.dir=Dir.put X.dir s b:=by unfold Ds.dir;rw [hd.files,z0g hn]
 have d1s:Z1.dir s=some b:=by rw [d1];exact if_pos rfl
 rcases zi hr with ⟨h0,-⟩ | ⟨Z2,h2,hr⟩
 ·exact absurd rfl h0
 obtain ⟨s2,⟨h3,-⟩ | ⟨b',k,h3,-,hk,h4⟩⟩:=z0n h2
 ·exact absurd rfl h3
 obtain rfl:b'=b:=Option.some.inj (h3.symm.trans d1s);have d2s:Z2.dir s=some b':=by rw [s2.dir];exact d1s
 obtain ⟨s3,⟨h5,-⟩ | ⟨-,b,h5,h6⟩⟩:=z0e (z04 hr)
 ·exact absurd rfl h5
 obtain rfl:b=b':=Option.some.inj (h5.symm.trans d2s);refine ⟨hn,b,s3.dir.trans (s2.dir.trans d1),fun t c ht=>hb c (.inl ⟨_,zq ht,rfl⟩),?_,fun c hc=>?_⟩
 ·rw [h6,z0j,h4,z0j,hf,hk rfl,List.take_length];simp
 ·rw [h6,z0k _ _ hc,h4,z0k _ _ hc,hf];exact if_neg hc
theorem z8y (hF:Fau X.D) (h6:X.D.fe ≠ 6) (h:Qt n q A c X) (hA1:A (newf nm)) (hm1:mnB (newf nm)=true) (hm2:mnB (manf nm)=true) (hn:n < 64) (hq:((q + 24:Nat):Int) <= c) (hr:manO nm m k X e Y):FR X e Y:=by
 rcases zi hr with ⟨-,h1⟩ | ⟨Z1,h1,hr⟩
 ·exact (zct hF h6 hm1 h1).1
 obtain ⟨f1,d1⟩:=zct hF h6 hm1 h1;have q1:=z9d h h1;rcases zi hr with ⟨-,h1⟩ | ⟨Z2,h1,hr⟩
 ·exact f1.trans (z6f f1.fau q1 hA1 hm1 (d1 rfl) hn (by rw [z2a];exact hq) h1)
 have f2:=f1.trans (z6f f1.fau q1 hA1 hm1 (d1 rfl) hn (by rw [z2a];exact hq) h1);obtain ⟨-,b,d2,-⟩:=z7j h1;rcases zi hr with ⟨-,h1⟩ | ⟨Z3,h1,hr⟩
 ·exact f2.trans (z6g f2.fau h1)
 have f3:=f2.trans (z6g f2.fau h1);have d3:Z3.dir (newf nm)=some b:=by
  obtain ⟨-,⟨g,-⟩ | ⟨-,g,-⟩⟩:=z0m h1
  ·exact absurd rfl g
  ·
   have:Z3.dir=Z2.dir:=by unfold Ds.dir;rw [g]
   rw [this,d2];exact if_pos rfl
 rcases zi hr with ⟨-,h1⟩ | ⟨Z4,h1,hr⟩
 ·exact f3.trans (zfv f3.fau hm1 hm2 d3 h1)
 have f4:=f3.trans (zfv f3.fau hm1 hm2 d3 h1);exact f4.trans (z6g f4.fau (z04 hr))
theorem man_ok (hw:Wf X) (hr:manO nm m k X 0 Y):Wf Y /\ ∃ b,(∀ t c,t ≠ newf nm -> X.dir t=some c -> c ≠ b) /\ Y.dir=manD nm X.dir b /\ Y.fc b=⟨recd (mrec m k),(recd (mrec m k)).length⟩ /\ (∀ c,c ≠ b -> Y.fc c=X.fc c) /\ (∀ f,Rch Y f -> f=Y.dir) /\ Y.D.steps=[] /\ Y.D.lasting=Y.D.files:=by
 rcases zi hr with ⟨h0,-⟩ | ⟨Z1,h1,hr⟩
 ·exact absurd rfl h0
 obtain ⟨f1,d1⟩:=z56 h1;have d1:=zaw d1;rcases zi hr with ⟨h0,-⟩ | ⟨Z2,h2,hr⟩
 ·exact absurd rfl h0
 obtain ⟨hn,b,d2,hb,f2,f2'⟩:=z7j h2;rcases zi hr with ⟨h0,-⟩ | ⟨Z3,h3,hr⟩
 ·exact absurd rfl h0
 obtain ⟨f3,⟨h0,-⟩ | ⟨-,g1,g2,g3,-⟩⟩:=z0m h3
 ·exact absurd rfl h0
 rcases zi hr with ⟨h0,-⟩ | ⟨Z4,h4,hr⟩
 ·exact absurd rfl h0
 obtain ⟨f4,⟨h0,-⟩ | ⟨-,b',hb4,hd⟩⟩:=z2e h4
 ·exact absurd rfl h0
 have h5:=z04 hr;obtain ⟨f5,⟨h0,-⟩ | ⟨-,k1,k2,k3,-⟩⟩:=z0m h5
 ·exact absurd rfl h0
 have d1':∀ t,t ≠ newf nm -> Z1.dir t=X.dir t:=fun t ht=>by
  rcases d1 with d1 | d1
  ·rw [d1]
  ·rw [d1];exact if_neg ht
 have d3:Z3.dir=Dir.put Z1.dir (newf nm) b:=by rw [<- d2];unfold Ds.dir;rw [g1]
 have eb:b'=b:=Option.some.inj (hb4.symm.trans (by rw [d3];exact if_pos rfl));subst eb;have d5:Y.dir=manD nm X.dir b':=by
  have h6:Y.dir=Dir.put (Dir.del Z3.dir (newf nm)) (manf nm) b':=by unfold Ds.dir;rw [k1,hd.files,z2m,z0i]
  rw [h6,d3];funext t;show (if t=manf nm then some b' else if t=newf nm then none else if t=newf nm then some b' else Z1.dir t)=if t=manf nm then some b' else if t=newf nm then none else X.dir t
  by_cases e1:t=manf nm
  ·rw [if_pos e1,if_pos e1]
  ·
   rw [if_neg e1,if_neg e1];by_cases e2:t=newf nm
   ·rw [if_pos e2,if_pos e2]
   ·rw [if_neg e2,if_neg e2,if_neg e2,d1' t e2]
 refine ⟨(by unfold Wf;rw [k3];intro s hs;cases hs),b',fun t c ht hc=>hb t c (by rw [d1' t ht];exact hc),d5,by rw [f5,f4,f3];exact f2,fun c hc=>by rw [f5,f4,f3,f2' c hc,f1],fun f hf=>?_,k3,by rw [k2,k1]⟩;rw [z3z h5 hf];unfold Ds.dir;rw [k1]
end Go.Log
end
section
namespace Go.Log
open Go.Vfs
variable {nm:ByteArray} {X Y Z:Ds} {e:Int} {s t:ByteArray} {n k m q:Nat} {x:List Nat} {A:ByteArray -> Prop} {g:Sh} {L L':Lg} {c:Int} {P:Sh -> Prop}
theorem zdj (h:Qt n q A c X) (hA:nx L.name X < mxn -> A (sgf L.name (nx L.name X + 1))) (hr:appR L x X e L' Y):Qt (n + 1) (q + (8 + x.length)) A c Y:=by
 rcases hr with ⟨-,-,-,rfl⟩ | ⟨-,e1,Z,h1,h2⟩
 ·exact h.mono (by omega) (by omega) (fun _ e=>e)
 have q1:=zbq h h1;rw [zx] at q1;rcases h2 with ⟨-,-,-,rfl⟩ | ⟨-,-,-,-,rfl⟩ | ⟨-,-,h2,-⟩
 ·exact q1.mono (by omega) (Nat.le_refl _) (fun _ e=>e)
 ·exact q1.mono (by omega) (Nat.le_refl _) (fun _ e=>e)
 rcases zi h2 with ⟨-,h3⟩ | ⟨Z1,h3,h2⟩
 ·exact (z2r q1 h3).mono (by omega) (Nat.le_refl _) (fun _ e=>e)
 have q2:=z2r q1 h3;rcases zi h2 with ⟨-,-,h4⟩ | ⟨Z2,⟨h4,h4'⟩,h2'⟩
 ·subst h4;exact q2.mono (by omega) (Nat.le_refl _) (fun _ e=>e)
 clear h2;subst h4';have nz:nx L.name Z=nx L.name X:=z5l (z0n h1).1;have hlt:nx L.name X < mxn:=by
  rw [<- nz];have h4:(0:Int)=nxE L.name Z:=h4;unfold nxE at h4;split at h4
  ·cases h4
  ·omega
 have ha:=hA hlt;rw [<- nz] at ha;rcases zi h2' with ⟨-,h5⟩ | ⟨Z3,h5,h2⟩
 ·exact z2q q2 ha h5
 ·exact z6s (z2q q2 ha h5) (z04 h2)
theorem zdl (h:Qt n q A c X) (hr:synR L X e L' Y):Qt n q A c Y:=by
 rcases hr with ⟨-,-,-,rfl⟩ | ⟨-,h1,-⟩
 ·exact h
 ·exact z2r h h1
theorem zf2 (h:Qt n q A c X) {l:List ByteArray} (hr:askO (l.map rmO) X e Y):Qt n q A c Y:=by
 induction l generalizing X with
 | nil=>obtain ⟨-,rfl⟩:=hr;exact h
 | cons t l ih =>
  rcases zi (o:=rmO t) (l:=l.map rmO) hr with ⟨-,h1⟩ | ⟨Z,h1,h2⟩
  ·exact zbr h h1
  ·exact ih (zbr h h1) h2
structure TN (nm:ByteArray) (A:ByteArray -> Prop) (k:Nat):Prop where
 new:A (newf nm)
 man:A (manf nm)
 snap:A (snf nm (k + 1))
 seg:A (sgf nm (k + 2))
theorem zas (h:Qt n q A c X) (hA:nx L.name X + 1 < mxn -> TN L.name A (nx L.name X)) (hr:turnR L x X e L' Y):Qt (n + 3) (q + (8 + x.length) + 24) A c Y:=by
 rcases hr with ⟨-,-,-,rfl⟩ | ⟨-,h1,-⟩
 ·exact h.mono (by omega) (by omega) (fun _ e=>e)
 rcases zi h1 with ⟨-,h2⟩ | ⟨Z1,h2,h1⟩
 ·exact (z2r h h2).mono (by omega) (by omega) (fun _ e=>e)
 have q1:=z2r h h2;rcases zi h1 with ⟨-,-,h3⟩ | ⟨Z2,⟨h3,h3'⟩,h1'⟩
 ·subst h3;exact q1.mono (by omega) (by omega) (fun _ e=>e)
 clear h1;subst h3'
 have ha:=hA (by
  have h3:(0:Int)=turnE L.name X:=h3;unfold turnE at h3;split at h3
  ·cases h3
  ·omega)
 rcases zi h1' with ⟨-,h4⟩ | ⟨Z3,h4,h1⟩
 ·exact (z54 q1 ha.snap h4).mono (by omega) (by omega) (fun _ e=>e)
 have q3:=z54 q1 ha.snap h4;rcases zi h1 with ⟨-,h5⟩ | ⟨Z4,h5,h1⟩
 ·exact (z2q q3 ha.seg h5).mono (by omega) (by omega) (fun _ e=>e)
 have q4:=z2q q3 ha.seg h5;rcases zi h1 with ⟨-,h6⟩ | ⟨Z5,h6,h1⟩
 ·exact z6r q4 ha.new ha.man h6
 have q5:=z6r q4 ha.new ha.man h6;obtain ⟨ns,-,hw⟩:=z04 h1;exact zf2 q5 hw
theorem zfu {f:Int} (hF:Fau X.D) (hf:f=0) (hr:erO f X e Y):FR X e Y:=by
 obtain ⟨rfl,rfl⟩:=hr;subst hf;exact FR.refl hF
theorem fr_app (hn:mnB nm=true) (h16:nm.size <= 16) (h:LI nm L X g) (hx:Recs [x]) (hF:Fau X.D) (hq:Qt n q A c X) (hn64:n < 64) (hc:((q + (8 + x.length):Nat):Int) <= c) (hnx:nx nm X < mxn) (hr:appR L x X e L' Y):FR X e Y:=by
 have hxl:x.length <= mxr:=(hx x (by simp)).1;rcases hr with ⟨h0,-⟩ | ⟨-,e1,Z,h1,h2⟩
 ·exact absurd (h.may hxl) h0
 have hmm:=h.shape.m1;have hmg:mnB (sgf nm g.m)=true:=z0r hn h16 hmm.2;rw [h.atseg] at h1;have f1:=zbf hF hmg h.shape.lastAt (by rw [zx,hq.cap];have:=hq.bd.nt;omega) h1;rcases h2 with ⟨h0,rfl,-,rfl⟩ | ⟨rfl,-,rfl,-,rfl⟩ | ⟨rfl,-,h2,-⟩
 ·exact f1
 ·exact f1
 have s1:=(z0n h1).1;have d1:Z.dir (sgf nm g.m)=some g.b:=by rw [s1.dir];exact h.shape.lastAt
 have e1:Lg.seg { L with recs:=L.recs ++ [x],size:=L.size + (8 + x.length) }=sgf nm g.m:=h.atseg;have e2:({ L with recs:=L.recs ++ [x],size:=L.size + (8 + x.length) }:Lg).name=nm:=h.name;rw [e1,e2] at h2;rcases zi h2 with ⟨-,h3⟩ | ⟨Z1,h3,h2⟩
 ·exact f1.trans (z3j f1.fau hmg d1 h3)
 have f2:=f1.trans (z3j f1.fau hmg d1 h3);have s2:=(z0e h3).1;have n1:nx nm Z=nx nm X:=z5l s1;have n2:nx nm Z1=nx nm X:=(z5l s2).trans n1;have hE:nxE nm Z=0:=by unfold nxE;rw [if_neg (by omega)]
 rcases zi h2 with ⟨-,h4⟩ | ⟨Z2,h4,h2'⟩
 ·exact f2.trans (zfu f2.fau hE h4)
 clear h2;obtain ⟨-,rfl⟩:=h4;have hno:=z4d (nm:=nm) (X:=Z2) (k:=nx nm Z + 1) (by omega) (by omega);have hlen:Z2.D.files.length < 64:=by rw [s2.files,s1.files];have:=hq.bd.nf;omega
 have hmk:mnB (sgf nm (nx nm Z + 1))=true:=z0r hn h16 (by omega);rcases zi h2' with ⟨-,h5⟩ | ⟨Z3,h5,h2⟩
 ·exact f2.trans (z49 f2.fau hmk hno.1 hlen h5)
 have f3:=f2.trans (z49 f2.fau hmk hno.1 hlen h5);exact f3.trans (z6g f3.fau (z04 h2))
theorem fr_syn (hn:mnB nm=true) (h16:nm.size <= 16) (h:LI nm L X g) (hF:Fau X.D) (hr:synR L X e L' Y):FR X e Y:=by
 rcases hr with ⟨h0,-⟩ | ⟨-,h1,-⟩
 ·exact absurd (h.may (Nat.zero_le _)) h0
 ·rw [h.atseg] at h1;exact z3j hF (z0r hn h16 h.shape.m1.2) h.shape.lastAt h1
theorem zek (hm:∀ t b,X.dir t=some b -> mnB t=true) (hF:Fau X.D) {l:List ByteArray} (hl:∀ t ∈ l,∃ b,X.dir t=some b) (hnd:l.Nodup) (hr:askO (l.map rmO) X e Y):FR X e Y:=by
 induction l generalizing X with
 | nil=>obtain ⟨rfl,rfl⟩:=hr;exact FR.refl hF
 | cons t l ih =>
  obtain ⟨b,hb⟩:=hl t (by simp);rw [List.nodup_cons] at hnd;rcases zi (o:=rmO t) (l:=l.map rmO) hr with ⟨-,h1⟩ | ⟨Z,h1,h2⟩
  ·exact zbg hF (hm t b hb) hb h1
  ·
   have f1:=zbg hF (hm t b hb) hb h1;obtain ⟨-,⟨g,-⟩ | ⟨-,b',-,hd⟩⟩:=z1h h1
   ·exact absurd rfl g
   have dz:Z.dir=Dir.del X.dir t:=by unfold Ds.dir;rw [hd.files,z0i]
   refine f1.trans (ih (fun u c hc=>?_) f1.fau (fun u hu=>?_) hnd.2 h2)
   ·
    rw [dz] at hc;unfold Dir.del at hc;split at hc
    ·cases hc
    ·exact hm u c hc
   ·obtain ⟨c,hc⟩:=hl u (by simp [hu]);exact ⟨c,by rw [dz];exact (if_neg fun e:u=t=>hnd.1 (e ▸ hu)).trans hc⟩
theorem zgk (hn:mnB nm=true) (h16:nm.size <= 16) (h:LI nm L X g) (hx:Recs [x]) (hF:Fau X.D) (h6:X.D.fe ≠ 6) (hmn:∀ t,A t -> mnB t=true) (hA:TN nm A (nx nm X)) (hq:Qt n q A c X) (hn64:n + 2 < 64) (hc:((q + (8 + x.length) + 24:Nat):Int) <= c) (hnx:nx nm X + 1 < mxn) (hr:turnR L x X e L' Y):FR X e Y:=by
 have hxl:x.length <= mxr:=(hx x (by simp)).1;rcases hr with ⟨h0,-⟩ | ⟨-,h1,-⟩
 ·exact absurd (h.may hxl) h0
 rw [h.atseg] at h1;obtain rfl:nm=L.name:=h.name.symm;have f6:∀ {Z},FR X 0 Z -> Z.D.fe ≠ 6:=fun h=>h.fe.elim (fun e=>e ▸ h6) (fun e=>by rw [e];decide);rcases zi h1 with ⟨-,h2⟩ | ⟨Z1,h2,h1⟩
 ·exact z3j hF (z0r hn h16 h.shape.m1.2) h.shape.lastAt h2
 have f1:=z3j hF (z0r hn h16 h.shape.m1.2) h.shape.lastAt h2;have q1:=z2r hq h2;have n1:nx L.name Z1=nx L.name X:=z5l (z0e h2).1;have hE:turnE L.name X=0:=by unfold turnE;rw [if_neg (by omega)]
 rcases zi h1 with ⟨-,h3⟩ | ⟨Z2,h3,h1'⟩
 ·exact f1.trans (zfu f1.fau hE h3)
 clear h1;obtain ⟨-,rfl⟩:=h3;have hms:mnB (snf L.name (nx L.name X + 1))=true:=z5k hn h16 (by omega);have hno:=z4d (nm:=L.name) (X:=Z2) (k:=nx L.name X + 1) (by omega) (by omega);rcases zi h1' with ⟨-,h4⟩ | ⟨Z3,h4,h1⟩
 ·exact f1.trans (z6f f1.fau q1 hA.snap hms hno.2 (by omega) (by omega) h4)
 have f3:=f1.trans (z6f f1.fau q1 hA.snap hms hno.2 (by omega) (by omega) h4);have q3:=z54 q1 hA.snap h4;obtain ⟨-,b1,d3,-⟩:=z7j h4;have hno3:Z3.dir (sgf L.name (nx L.name X + 2))=none:=by
  rw [d3];show (if _=_ then _ else Z2.dir _)=_;rw [if_neg (z2w L.name (by omega) (by omega))];exact (z4d (nm:=L.name) (by omega) (by omega)).1
 have hmg:mnB (sgf L.name (nx L.name X + 2))=true:=z0r hn h16 (by omega);have hl3:Z3.D.files.length < 64:=by have:=q3.bd.nf;omega
 rcases zi h1 with ⟨-,h5⟩ | ⟨Z4,h5,h1⟩
 ·exact f3.trans (z49 f3.fau hmg hno3 hl3 h5)
 have f4:=f3.trans (z49 f3.fau hmg hno3 hl3 h5);have q4:=z2q q3 hA.seg h5;rcases zi h1 with ⟨-,h6'⟩ | ⟨Z5,h6',h1⟩
 ·exact f4.trans (z8y f4.fau (f6 f4) q4 hA.new (z5j hn h16) (z30 hn h16) (by omega) (by omega) h6')
 have f5:=f4.trans (z8y f4.fau (f6 f4) q4 hA.new (z5j hn h16) (z30 hn h16) (by omega) (by omega) h6');have q5:=z6r q4 hA.new hA.man h6';obtain ⟨ns,hp,hw⟩:=z04 h1;refine f5.trans (zek (fun t b hb=>hmn t (q5.al t b hb)) f5.fau (fun t ht=>?_) ?_ hw)
 ·have h7:=hp.mem_iff.1 (List.mem_filter.1 ht).1;exact z15 h7
 ·exact (hp.nodup_iff.2 q5.bd.key).sublist List.filter_sublist
theorem zgj (hn:mnB nm=true) (h16:nm.size <= 16) (hF:Fau X.D) {b en m k:Nat} (hmm:m <= mxn) (hd:X.dir (sgf nm m)=some b) (hl:(X.fc b).b.length=k) (hen:en <= k) (hr:askO [if k=en then nop else cuO (sgf nm m) en,syO (sgf nm m),sdO] X e Y):FR X e Y:=by
 have hmg:mnB (sgf nm m)=true:=z0r hn h16 hmm;have cutF:∀ {e Z},(if k=en then nop else cuO (sgf nm m) en) X e Z -> FR X e Z /\ Sm X Z:=fun {e Z} hc=>by
  by_cases he:k=en
  ·rw [if_pos he] at hc;obtain ⟨rfl,rfl⟩:=hc;exact ⟨FR.refl hF,Sm.refl _⟩
  ·rw [if_neg he] at hc;exact ⟨fr_cu hF hmg hd (by omega) hc,(z3b hc).1⟩
 rcases zi hr with ⟨-,h1⟩ | ⟨Z1,h1,hr⟩
 ·exact (cutF h1).1
 obtain ⟨f1,s1⟩:=cutF h1;have d1:Z1.dir (sgf nm m)=some b:=by rw [s1.dir];exact hd
 rcases zi hr with ⟨-,h2⟩ | ⟨Z2,h2,hr⟩
 ·exact f1.trans (z3j f1.fau hmg d1 h2)
 have f2:=f1.trans (z3j f1.fau hmg d1 h2);exact f2.trans (z6g f2.fau (z04 hr))
theorem zh9 {en m k:Nat} (h:Qt n q A c X) (hr:askO [if k=en then nop else cuO (sgf nm m) en,syO (sgf nm m),sdO] X e Y):Qt n q A c Y:=by
 have cutF:∀ {e Z},(if k=en then nop else cuO (sgf nm m) en) X e Z -> Qt n q A c Z:=fun {e Z} hc=>by
  by_cases he:k=en
  ·rw [if_pos he] at hc;obtain ⟨rfl,rfl⟩:=hc;exact h
  ·rw [if_neg he] at hc;exact qt_cu h hc
 rcases zi hr with ⟨-,h1⟩ | ⟨Z1,h1,hr⟩
 ·exact cutF h1
 have q1:=cutF h1;rcases zi hr with ⟨-,h2⟩ | ⟨Z2,h2,hr⟩
 ·exact z2r q1 h2
 exact z6s (z2r q1 h2) (z04 hr)
theorem zbn {most:Nat} (hn:mnB nm=true) (h16:nm.size <= 16) (hw:Wf X) (hF:Fau X.D) (hfe:X.D.fe=0) (hq:Qt n q A c X) (hn64:n + 1 < 64) (hc:((q + 24:Nat):Int) <= c) (h0:X.dir (manf nm)=none) (hnx:nx nm X=0) (hA1:A (sgf nm 1)) (hA2:A (newf nm)) (hA3:A (manf nm)) (hr:openR nm most X e L Y) :
  e=0 /\ Fau Y.D /\ Y.D.fe=0 /\ Qt (n + 2) (q + 24) A c Y /\ Y.D.steps=[] /\ Y.D.lasting=Y.D.files /\ L={ lg0 nm most with first:=1,segment:=1,segments:=1 } /\ ∃ g,LI nm L Y g /\ g.sn=none /\ (∀ t,t=manf nm \/ t=sgf nm 1 \/ (t ≠ newf nm /\ ∃ b,X.dir t=some b) ↔ ∃ b,Y.dir t=some b):=by
 rcases hr with ⟨-,hr,hL⟩ | ⟨b,h1,-⟩ | ⟨b,_,_,_,h1,-⟩
 ·
  rw [hnx] at hr hL;have hE:nxE nm X=0:=by unfold nxE;rw [hnx];rfl
  have hmg:mnB (sgf nm 1)=true:=z0r hn h16 (by decide);have hno:=z4d (nm:=nm) (X:=X) (k:=1) (by omega) (by decide);have hl:X.D.files.length < 64:=by have:=hq.bd.nf;omega
  rcases zi hr with ⟨g,h1⟩ | ⟨Z1,h1,hr'⟩
  ·obtain ⟨g1,-⟩:=h1;exact absurd (g1.trans hE) g
  clear hr;obtain ⟨-,rfl⟩:=h1;have mkF:∀ {e Z},mkO (sgf nm 1) Z1 e Z -> FR Z1 e Z:=fun h=>z49 hF hmg hno.1 hl h;rcases zi hr' with ⟨g,h2⟩ | ⟨Z2,h2,hr⟩
  ·exact absurd ((mkF h2).calm hfe).1 g
  have f2:=mkF h2;have q2:=z2q hq hA1 h2;rcases z0l h2 with ⟨h3,-⟩ | ⟨-,-,-,b,hb,hd,hf⟩
  ·exact absurd rfl h3
  have h3:=z04 hr;have f3:=f2.trans (z8y f2.fau (by rw [(f2.calm hfe).2];decide) q2 hA2 (z5j hn h16) (z30 hn h16) (by omega) (by omega) h3);have q3:=z6r q2 hA2 hA3 h3;obtain ⟨rfl,hfe3⟩:=f3.calm hfe;have w2:Wf Z2:=hd.wf hw fun _=>⟨b,rfl⟩
  obtain ⟨w3,b3,hb3,d3,c3,c3',r3,s3,l3⟩:=man_ok w2 h3;have d2:Z2.dir=Dir.put Z1.dir (sgf nm 1) b:=by unfold Ds.dir;rw [hd.files,z0g hno.1]
  have hsm:=z2u nm (n:=1) (by omega) (by decide);have hsn:=z2v nm (n:=1) (by omega) (by decide);have d2s:Z2.dir (sgf nm 1)=some b:=by rw [d2];exact if_pos rfl
  have ebb:b ≠ b3:=hb3 _ _ hsn d2s;have cb:Y.fc b=⟨[],0⟩:=by rw [c3' b ebb,hf];exact if_pos rfl
  have at':∀ t,t ≠ manf nm -> t ≠ newf nm -> Y.dir t=Z2.dir t:=fun t h7 h8=>by rw [d3];unfold manD;rw [if_neg h7,if_neg h8]
  refine ⟨rfl,f3.fau,hfe3,q3.mono (by omega) (Nat.le_refl _) (fun _ e=>e),s3,l3,hL,⟨0,1,none,b3,0,[],1,b,[],0,0⟩,?_,rfl,fun t=>?_⟩
  ·
   have sh:Shape nm Y.dir Y.fc ⟨0,1,none,b3,0,[],1,b,[],0,0⟩:=by
    refine { f1:=Nat.le_refl _,s1:=Nat.zero_le _,man:=by rw [d3];exact if_pos rfl,manc:=c3,snap:=.inl ⟨rfl,rfl⟩,asc:=List.pairwise_singleton _ _,rng:=?_,segs:=?_,clc:=(fun c hc=>by cases hc),lastb:=?_,lastq:=Nat.zero_le _,lastl:=?_,lastd:=Nat.zero_le _,lastr:=(fun x hx=>by cases hx),apart:=⟨ebb,fun h=>by have h:1 <= 0:=h;omega,fun c hc=>by cases hc⟩ }
    ·intro p hp;rw [List.mem_singleton.1 (show p ∈ [(1,b)] from hp)];exact ⟨Nat.le_refl _,show 1 <= mxn by decide⟩
    ·
     intro k k1 k2;have k1':1 <= k:=k1;show Y.dir (sgf nm k)=([(1,b)].find? fun p=>decide (p.1=k)).map Prod.snd;rw [at' _ (z2u nm k1' k2) (z2v nm k1' k2),d2];show (if sgf nm k=sgf nm 1 then some b else Z1.dir (sgf nm k))=_;by_cases ek:k=1
     ·subst ek;rw [if_pos rfl];simp
     ·rw [if_neg (fun e=>ek (z5p nm k1' k2 (by omega) (by decide) e)),(z4d (nm:=nm) (X:=Z1) (k:=k) (by omega) k2).1,z7w];intro p hp;rw [List.mem_singleton.1 hp];exact fun e=>ek e.symm
    ·show (Y.fc b).b=_;rw [cb];rfl
    ·show _ <= (Y.fc b).lasts /\ (Y.fc b).lasts <= _;rw [cb];exact ⟨Nat.le_refl _,Nat.le_refl _⟩
   subst hL;exact { inn:=⟨w3,fun f hf=>⟨_,rfl,by rw [r3 f hf];exact sh⟩⟩,full:=rfl,name:=rfl,nob:=rfl,first:=rfl,seg:=rfl,segs:=rfl,size:=rfl,recs:=rfl,syn:=Nat.le_refl _,snap:=.inl ⟨rfl,rfl,rfl⟩ }
  ·
   rw [d3,d2];unfold manD Dir.put;by_cases e1:t=manf nm
   ·simp [e1]
   ·
    rw [if_neg e1];by_cases e2:t=newf nm
    ·
     rw [if_pos e2];constructor
     ·
      rintro (h | h | h)
      ·exact absurd h e1
      ·exact absurd (h.symm.trans e2) hsn
      ·exact absurd e2 h.1
     ·rintro ⟨_,h⟩;cases h
    ·
     rw [if_neg e2];by_cases e3:t=sgf nm 1
     ·rw [if_pos e3];exact ⟨fun _=>⟨b,rfl⟩,fun _=>.inr (.inl e3)⟩
     ·rw [if_neg e3];exact ⟨fun h=>h.elim (fun h=>absurd h e1) fun h=>h.elim (fun h=>absurd h e3) fun h=>h.2,fun h=>.inr (.inr ⟨e2,h⟩)⟩
 ·rw [show flook X.D.files (manf nm)=none from h0] at h1;cases h1
 ·rw [show flook X.D.files (manf nm)=none from h0] at h1;cases h1
end Go.Log
end
section
namespace Go.Log
open Go.Vfs
variable {nm:ByteArray} {X Y Z:Ds} {e:Int} {s t:ByteArray} {n k m q K:Nat} {x:List Nat} {g:Sh} {L L':Lg} {c:Int} {P:Sh -> Prop}
def AN (nm:ByteArray) (K:Nat) (t:ByteArray):Prop:=mnB t=true /\ sgn nm t <= K /\ snn nm t <= K
theorem AN.mono {K K':Nat} (h:K <= K'):AN nm K t -> AN nm K' t:=fun ⟨a,b,c⟩=>⟨a,by omega,by omega⟩
theorem nxL_le {l:List ByteArray} (h:∀ s ∈ l,sgn nm s <= K /\ snn nm s <= K):nxL nm l <= K:=by
 induction l with
 | nil=>exact Nat.zero_le _
 | cons a l ih =>
  show max (max (sgn nm a) (snn nm a)) (nxL nm l) <= K;have h1:=h a (by simp);have h2:=ih fun s hs=>h s (by simp [hs]);omega
theorem z8l (h:AllN (AN nm K) X):nx nm X <= K:=nxL_le fun s hs=>by
 obtain ⟨b,hb⟩:=z15 hs;exact ⟨(h s b hb).2.1,(h s b hb).2.2⟩
variable (hn:mnB nm=true) (h16:nm.size <= 16)
include hn h16
theorem z8o {k:Nat} (h1:1 <= k) (h2:k <= mxn) (hK:k <= K):AN nm K (sgf nm k):=⟨z0r hn h16 h2,by rw [z1k nm h1 h2];exact hK,by rw [zhq];exact Nat.zero_le _⟩
theorem zg3 {k:Nat} (h1:1 <= k) (h2:k <= mxn) (hK:k <= K):AN nm K (snf nm k):=⟨z5k hn h16 h2,by rw [zb0];exact Nat.zero_le _,by rw [z2g nm h1 h2];exact hK⟩
theorem zcb:AN nm K (newf nm):=⟨z5j hn h16,by rw [zaz];exact Nat.zero_le _,by rw [zb2];exact Nat.zero_le _⟩
theorem zca:AN nm K (manf nm):=⟨z30 hn h16,by rw [zay];exact Nat.zero_le _,by rw [zb1];exact Nat.zero_le _⟩
omit hn h16
structure GS (nm:ByteArray) (L:Lg) (X:Ds) (g:Sh) (n q K:Nat) (c:Int):Prop where
 li:LI nm L X g
 fau:Fau X.D
 fe:X.D.fe ≠ 6
 qt:Qt n q (AN nm K) c X
structure GB (nm:ByteArray) (X:Ds) (P:Sh -> Prop) (n q K:Nat) (c:Int):Prop where
 inn:In nm X P
 fau:Fau X.D
 fe:X.D.fe=0
 qt:Qt n q (AN nm K) c X
theorem FR.fe6 (h:FR X e Y) (h6:X.D.fe ≠ 6):Y.D.fe ≠ 6:=h.fe.elim (fun e=>e ▸ h6) (fun e=>by rw [e];decide)
include hn h16
theorem z4t (h:GS nm L X g n q K c) (hx:Recs [x]) (h64:n < 64) (hc:((q + (8 + x.length):Nat):Int) <= c) (hK:K < mxn) (hr:appR L x X e L' Y) :
  (X.D.fe=0 -> e=0 /\ Y.D.fe=0) /\ ((e=0 /\ L'.bad=false /\ L'.recs=L.recs ++ [x] /\ L.segment <= L'.segment /\ ∃ g',GS nm L' Y g' (n + 1) (q + (8 + x.length)) (K + 1) c /\ g'.sn=g.sn /\ g.closed.length + g.du <= g'.closed.length + g'.du) \/
   (e ≠ 0 /\ L'.bad=true /\ L'.synced=L.synced /\ L'.segment=L.segment /\ GB nm Y (Left g (L.recs ++ [x])) (n + 1) (q + (8 + x.length)) (K + 1) c)):=by
 have hnx:=z8l h.qt.al;have hL:=h.li.name;have qy:Qt (n + 1) (q + (8 + x.length)) (AN nm (K + 1)) c Y:=zdj (h.qt.mono (Nat.le_refl _) (Nat.le_refl _) (fun _=>AN.mono (by omega))) (fun _=>by rw [hL];exact z8o hn h16 (by omega) (by omega) (by omega)) hr;have f:=fr_app hn h16 h.li hx h.fau h.qt h64 hc (by omega) hr;refine ⟨f.calm,?_⟩;rcases zcd h.li hx hr with ⟨h1,h2,h3,h4,g',h5,h6,h7⟩ | ⟨h1,h2,h3,h4,h5⟩
 ·exact .inl ⟨h2,h1,h4,h3,g',⟨h5,f.fau,f.fe6 h.fe,qy⟩,h6,h7⟩
 ·exact .inr ⟨h2,h1,h4,h3,⟨h5,f.fau,f.met h2,qy⟩⟩
theorem z4u (h:GS nm L X g n q K c) (hr:synR L X e L' Y) :
  (X.D.fe=0 -> e=0 /\ Y.D.fe=0) /\ ((e=0 /\ L'={ L with synced:=L.recs.length } /\ GS nm L' Y { g with du:=g.rs.length } n q K c) \/ (e ≠ 0 /\ L'={ L with bad:=true } /\ GB nm Y (·=g) n q K c)):=by
 have qy:=zdl h.qt hr;have f:=fr_syn hn h16 h.li h.fau hr;refine ⟨f.calm,?_⟩;rcases zby h.li hr with ⟨h1,h2,h3⟩ | ⟨h1,h2,h3⟩
 ·exact .inl ⟨h1,h2,⟨h3,f.fau,f.fe6 h.fe,qy⟩⟩
 ·exact .inr ⟨h1,h2,⟨h3,f.fau,f.met h1,qy⟩⟩
theorem zaf (h:GS nm L X g n q K c) (hx:Recs [x]) (h64:n + 2 < 64) (hc:((q + (8 + x.length) + 24:Nat):Int) <= c) (hK:K + 2 <= mxn) (hK2:K + 1 < mxn) (hr:turnR L x X e L' Y) :
  (X.D.fe=0 -> e=0 /\ Y.D.fe=0) /\ ((e=0 /\ ∃ s n' bm bs b,L'={ L with snap:=x,has:=true,recs:=[],synced:=0,first:=n',segment:=n',segments:=1,size:=0 } /\ L.segment <= n' /\ GS nm L' Y (Sh.new s n' x bm bs b) (n + 3) (q + (8 + x.length) + 24) (K + 2) c) \/
   (e ≠ 0 /\ L'={ L with bad:=true } /\ GB nm Y (fun q=>Left g L.recs q \/ q.sn=some x /\ q.closed=[] /\ q.rs=[]) (n + 3) (q + (8 + x.length) + 24) (K + 2) c)):=by
 have hnx:=z8l h.qt.al;have hL:=h.li.name;have tn:TN nm (AN nm (K + 2)) (nx nm X):=⟨zcb hn h16,zca hn h16,zg3 hn h16 (by omega) (by omega) (by omega),z8o hn h16 (by omega) (by omega) (by omega)⟩
 have q2:Qt n q (AN nm (K + 2)) c X:=h.qt.mono (Nat.le_refl _) (Nat.le_refl _) (fun _=>AN.mono (by omega));have qy:=zas q2 (fun _=>by rw [hL];exact tn) hr;have f:=zgk hn h16 h.li hx h.fau h.fe (fun t a=>a.1) tn q2 h64 hc (by omega) hr;refine ⟨f.calm,?_⟩;rcases zc1 h.li hx hr with ⟨h1,s,n',bm,bs,b,h2,h3,h4⟩ | ⟨h1,h2,h3⟩
 ·exact .inl ⟨h1,s,n',bm,bs,b,h2,h4,⟨h3,f.fau,f.fe6 h.fe,qy⟩⟩
 ·exact .inr ⟨h1,h2,⟨h3,f.fau,f.met h1,qy⟩⟩
theorem z7c {most:Nat} (hi:In nm X P) (hP:Trims P) (hF:Fau X.D) (h6:X.D.fe ≠ 6) (hq:Qt n q (AN nm K) c X) (hr:openR nm most X e L Y) :
  (X.D.fe=0 -> e=0 /\ Y.D.fe=0) /\ ∃ h j,P h /\ Shape nm X.dir X.fc h /\ h.du <= j /\ j <= h.rs.length /\ (h.q=(enc h.rs).length -> j=h.rs.length) /\ (enc (h.rs.take j)).length <= h.q /\ (e=0 -> GS nm L Y { h.trim j with du:=j } n q K c /\ L.synced=L.recs.length /\ L.most=most):=by
 obtain ⟨h,j,h1,h2,h3,h4,h5,h7,⟨en,e1,e2,e3,e4,e5⟩,h8⟩:=zbo hn h16 hq.bd.key hi hP hr;have f:=zgj hn h16 hF h2.m1.2 e4 e1 e3 e5;refine ⟨f.calm,h,j,h1,h2,h3,h4,h5,by rw [<- e2];exact e3,fun e0=>?_⟩;obtain ⟨g1,g2,g3⟩:=h8 e0;exact ⟨⟨g1,f.fau,f.fe6 h6,zh9 hq e5⟩,g2,g3⟩
theorem z90 {most:Nat} (hw:Wf X) (hF:Fau X.D) (hfe:X.D.fe=0) (hq:Qt n q (AN nm 0) c X) (hn64:n + 1 < 64) (hc:((q + 24:Nat):Int) <= c) (h0:X.dir (manf nm)=none) (hr:openR nm most X e L Y) :
  e=0 /\ L={ lg0 nm most with first:=1,segment:=1,segments:=1 } /\ Y.D.fe=0 /\ Y.D.steps=[] /\ Y.D.lasting=Y.D.files /\ ∃ g,GS nm L Y g (n + 2) (q + 24) 1 c /\ g.sn=none /\ (∀ t,t=manf nm \/ t=sgf nm 1 \/ (t ≠ newf nm /\ ∃ b,X.dir t=some b) ↔ ∃ b,Y.dir t=some b):=by
 have hnx:=z8l hq.al;obtain ⟨h1,h2,h3,h4,h5,h6,h7,g,h8,h9,h10⟩:=zbn hn h16 hw hF hfe (hq.mono (Nat.le_refl _) (Nat.le_refl _) (fun _=>AN.mono (Nat.zero_le 1))) hn64 hc h0 (by omega) (z8o hn h16 (Nat.le_refl _) (by decide) (Nat.le_refl _)) (zcb hn h16) (zca hn h16) hr;exact ⟨h1,h7,h3,h5,h6,g,⟨h8,h2,by rw [h3];decide,h4⟩,h9,h10⟩
end Go.Log
end
section
namespace Go.Proofs.YtpjomdmjohjheaaGreatDoor
open Go.Vfs Go.Log
variable {nm:ByteArray} {L L':Lg} {X Y Z:Ds} {e:Int} {x:List Nat} {g h:Sh} {k a b:Ks} {most:Nat} {n q K:Nat} {c:Int}
structure KF (k:Ks) (h:Sh):Prop where
 s:bstr (h.sn.getD [])=k.s
 has:h.sn.isSome=k.has
 pre:h.closed ++ h.rs <+: k.all
 sure:k.sure <= ((h.closed.length + h.du:Nat):Int)
structure KW (k:Ks) (L:Lg) (g:Sh):Prop where
 s:bstr (g.sn.getD [])=k.s
 has:g.sn.isSome=k.has
 all:k.all=L.recs
 sure:k.sure <= ((g.closed.length + g.du:Nat):Int)
theorem KW.kf (h:KW k L g) (hl:LI nm L X g):KF k g:=⟨h.s,h.has,by rw [h.all,hl.recs];exact List.prefix_rfl,h.sure⟩
theorem zeo:Trims fun h=>KF a h \/ KF b h:=fun h j hp _ hj _=>by
 have key:∀ {k},KF k h -> KF k (h.trim j):=fun hk=>⟨hk.s,hk.has,List.IsPrefix.trans (show h.closed ++ h.rs.take j <+: h.closed ++ h.rs from List.prefix_append_right_inj _ |>.2 (List.take_prefix _ _)) hk.pre,hk.sure⟩
 exact hp.imp key key
theorem zgr (hl:LI nm L X g):snapOf L=g.sn.getD [] /\ L.has=g.sn.isSome:=by
 unfold snapOf;rcases hl.snap with ⟨h1,h2,h3⟩ | ⟨x,h1,h2,h3⟩
 ·rw [h1,h2];exact ⟨rfl,rfl⟩
 ·rw [h1,h2,h3];exact ⟨rfl,rfl⟩
theorem zfx {j:Nat} (hk:KF k h) (h1:h.du <= j) (h2:j <= h.rs.length) (hl:LI nm L Y { h.trim j with du:=j }):k.Is L:=by
 obtain ⟨h3,h4⟩:=zgr hl;have hr:L.recs=h.closed ++ h.rs.take j:=hl.recs;refine ⟨by rw [h3];exact hk.s,by rw [h4];exact hk.has,?_,?_⟩
 ·have:=hk.sure;rw [hr,List.length_append,List.length_take];omega
 ·rw [hr];exact List.IsPrefix.trans (List.prefix_append_right_inj _ |>.2 (List.take_prefix _ _)) hk.pre
theorem z88 {l:List StepD} (h:L.bad=true) (hr:playR l L X k L' Y a b):L'=L /\ Y=X /\ a=k /\ b=k:=by
 cases l with
 | nil=>exact hr
 | cons s l =>
  rcases hr with ⟨-,h1⟩ | ⟨h0,-⟩ | ⟨h0,-⟩ | ⟨h0,-⟩ | ⟨h0,-⟩
  ·exact h1
  all_goals exact absurd (h0.symm.trans h) (by decide)
theorem zgq {y:Nat} (hk:KW k L g) (hl:LI nm L X g) (hy:y=L.synced) (hf:Log.Left g (L.recs ++ [x]) h):KF { k with all:=k.all ++ [x],sure:=max k.sure (y:Int) } h:=by
 obtain ⟨h1,h2,h3⟩:=hf;have:=hk.sure;have:=hl.syn;refine ⟨by rw [h1];exact hk.s,by rw [h1];exact hk.has,by rw [hk.all];exact h2,?_⟩;show max k.sure (y:Int) <= _;omega
theorem kf_left' (hk:KW k L g) (hf:Log.Left g L.recs h):KF k h:=by
 obtain ⟨h1,h2,h3⟩:=hf;have:=hk.sure;exact ⟨by rw [h1];exact hk.s,by rw [h1];exact hk.has,by rw [hk.all];exact h2,by omega⟩
theorem zcx (h1:h.sn=some x) (h2:h.closed=[]) (h3:h.rs=[]):KF (turnedK x) h:=by
 refine ⟨by rw [h1];rfl,by rw [h1];rfl,by rw [h2,h3];exact List.nil_prefix,?_⟩;show (0:Int) <= _;omega
theorem kw_app {g':Sh} (hk:KW k L g) (hr:L'.recs=L.recs ++ [x]) (hs:g'.sn=g.sn) (hd:g.closed.length + g.du <= g'.closed.length + g'.du) (hl:LI nm L' Y g'):KW { k with all:=k.all ++ [x],sure:=max k.sure (L'.synced:Int) } L' g':=by
 have:=hk.sure;have:=hl.syn;refine ⟨by rw [hs];exact hk.s,by rw [hs];exact hk.has,by rw [hr,<- hk.all],?_⟩;show max k.sure (L'.synced:Int) <= _;omega
theorem kw_syn (hk:KW k L g) (hl:LI nm L X g):KW { k with sure:=(k.all.length:Int) } { L with synced:=L.recs.length } { g with du:=g.rs.length }:=by
 refine ⟨hk.s,hk.has,hk.all,?_⟩;show (k.all.length:Int) <= ((g.closed.length + g.rs.length:Nat):Int)
 rw [hk.all,hl.recs,List.length_append];omega
theorem zbw {w0 w:World} {sa:Option Addr} {sn sc:Nat} {steps:List StepD} {mst:Int} (hs:StepsAt w0 w sa sn sc steps) (hf:Few steps mst):∀ s ∈ steps,Recs [s.b]:=by
 intro s hm y hy;obtain ⟨i,hi⟩:=List.mem_iff_getElem?.1 hm;obtain ⟨b,off,cs,-,⟨vb,vp,-,⟨a,c,-,-,-,-,hz,-⟩,-⟩,-⟩:=hs.2.2.2 i s hi;rw [List.mem_singleton.1 hy];refine ⟨Nat.le_trans ?_ (show 20000 <= mxr by decide),hz⟩;have key:∀ (l:List StepD),(l.map wgt).sum <= 20000 -> ∀ s ∈ l,s.b.length <= 20000:=by
  intro l
  induction l with
  | nil=>intro _ s hs;cases hs
  | cons a l ih =>
   intro hl s hs;simp only [List.map_cons,List.sum_cons] at hl;rcases List.mem_cons.1 hs with rfl | hs
   ·unfold wgt at hl;omega
   ·exact ih (by omega) s hs
 exact key steps hf.2 s hm
end Go.Proofs.YtpjomdmjohjheaaGreatDoor
end
section
namespace Go.Log
open Go.Vfs
variable {nm ot:ByteArray} {L L':Lg} {X Y Z:Ds} {e:Int} {x:List Nat} {g h:Sh} {n q K:Nat} {c:Int} {s t:ByteArray}
theorem z84 {α:Type} [DecidableEq α] {l:List α} (hn:l.Nodup):∀ {m:List α},(∀ x ∈ l,x ∈ m) -> l.length <= m.length:=by
 induction l with
 | nil=>intro m _;exact Nat.zero_le _
 | cons a l ih =>
  intro m h;rw [List.nodup_cons] at hn;have ha:a ∈ m:=h a (by simp);have h1:l.length <= (m.erase a).length:=ih hn.2 fun x hx=>(List.mem_erase_of_ne (fun e:x=a=>hn.1 (e ▸ hx))).2 (h x (by simp [hx]));rw [List.length_erase_of_mem ha] at h1;have:0 < m.length:=List.length_pos_of_mem ha;simp only [List.length_cons];omega
def NM (ot nm:ByteArray) (t:ByteArray):Prop:=t=ot \/ t=manf nm \/ ours nm t=true
theorem z93 (k:Nat) (h1:1 <= k) (h2:k <= mxn):NM ot nm (sgf nm k):=.inr (.inr (by unfold ours;rw [z1k nm h1 h2];simp;omega))
theorem zgy (k:Nat) (h1:1 <= k) (h2:k <= mxn):NM ot nm (snf nm k):=.inr (.inr (by unfold ours;rw [z2g nm h1 h2];simp;omega))
theorem nm_new:NM ot nm (newf nm):=.inr (.inr (by unfold ours;simp))
theorem zd8:NM ot nm (manf nm):=.inr (.inl rfl)
theorem z5e {l:List ByteArray}:∀ {X:Ds},askO (l.map rmO) X 0 Y -> ∀ t,(t ∈ l -> Y.dir t=none) /\ (t ∉ l -> Y.dir t=X.dir t):=by
 induction l with
 | nil=>intro X h t;obtain ⟨-,rfl⟩:=h;exact ⟨fun h=>by simp at h,fun _=>rfl⟩
 | cons s l ih =>
  intro X h t;rcases zi (o:=rmO s) (l:=l.map rmO) h with ⟨h0,-⟩ | ⟨Z,h1,h2⟩
  ·exact absurd rfl h0
  obtain ⟨-,⟨h0,-⟩ | ⟨-,b',-,hd⟩⟩:=z1h h1
  ·exact absurd rfl h0
  have dz:Z.dir=Dir.del X.dir s:=by unfold Ds.dir;rw [hd.files,z0i]
  obtain ⟨i1,i2⟩:=ih h2 t;refine ⟨fun ht=>?_,fun ht=>?_⟩
  ·
   by_cases hl:t ∈ l
   ·exact i1 hl
   ·rw [i2 hl,dz];have:t=s:=(List.mem_cons.1 ht).resolve_right hl;exact if_pos this
  ·rw [i2 (fun e=>ht (by simp [e])),dz];exact if_neg fun e=>ht (by simp [e])
theorem zc2 (hl:LI nm L X g) (hx:Recs [x]) (hr:turnR L x X 0 L' Y):∃ s n,1 <= s /\ s <= mxn /\ 1 <= n /\ n <= mxn /\ ∃ Z:Ds,(∀ t,swept nm s n t=false -> Y.dir t=Z.dir t) /\ (∀ t b,Y.dir t=some b -> swept nm s n t=false /\ Z.dir t=some b):=by
 have hxl:x.length <= mxr:=(hx x (by simp)).1;rcases hr with ⟨h0,-⟩ | ⟨-,h1,-⟩
 ·exact absurd (hl.may hxl) h0
 rw [hl.name] at h1;rcases zi h1 with ⟨h0,-⟩ | ⟨Z1,-,h2⟩
 ·exact absurd rfl h0
 rcases zi h2 with ⟨h0,-⟩ | ⟨Z2,⟨h3,-⟩,h4⟩
 ·exact absurd rfl h0
 have hlt:nx nm X + 1 < mxn:=by
  unfold turnE at h3;split at h3
  ·cases h3
  ·omega
 rcases zi h4 with ⟨h0,-⟩ | ⟨Z3,-,h5⟩
 ·exact absurd rfl h0
 rcases zi h5 with ⟨h0,-⟩ | ⟨Z4,-,h6⟩
 ·exact absurd rfl h0
 rcases zi h6 with ⟨h0,-⟩ | ⟨Z5,-,h7⟩
 ·exact absurd rfl h0
 obtain ⟨ns,hp,hw⟩:=z04 h7;refine ⟨nx nm X + 1,nx nm X + 2,by omega,by omega,by omega,by omega,Z5,fun t ht=>?_,fun t b hb=>?_⟩
 ·exact (z5e hw t).2 fun hm=>by rw [(List.mem_filter.1 hm).2] at ht;cases ht
 ·
  by_cases hm:t ∈ ns.filter (swept nm (nx nm X + 1) (nx nm X + 2))
  ·rw [(z5e hw t).1 hm] at hb;cases hb
  ·
   have hz:=(z5e hw t).2 hm;rw [hz] at hb;refine ⟨?_,hb⟩;have h8:t ∈ ns:=hp.mem_iff.2 (List.mem_map.2 ⟨_,zq hb,rfl⟩);cases hs:swept nm (nx nm X + 1) (nx nm X + 2) t with
   | false=>rfl
   | true=>exact absurd (List.mem_filter.2 ⟨h8,hs⟩) hm
theorem few_of (hN:AllN (NM ot nm) X) (hk:(X.D.files.map Prod.fst).Nodup) {s n:Nat} (hs:∀ t b,X.dir t=some b -> swept nm s n t=false):X.D.files.length <= 4:=by
 have:=z84 hk (m:=[ot,manf nm,snf nm s,sgf nm n]) fun t ht=>by
  obtain ⟨b,hb⟩:=z15 ht;have h1:=hs t b hb;rcases hN t b hb with rfl | rfl | h2
  ·simp
  ·simp
  ·unfold swept at h1;rw [h2] at h1;rw [Bool.true_and,Bool.not_eq_false',Bool.or_eq_true,Bool.or_eq_true,decide_eq_true_eq,decide_eq_true_eq,decide_eq_true_eq] at h1;rcases h1 with (h1 | h1) | h1 <;> simp [h1]
 simpa using this
end Go.Log
namespace Go.Proofs.YtpjomdmjohjheaaGreatDoor
open Go.Vfs Go.Log
variable {ot:ByteArray} {L L':Lg} {X Y:Ds} {g:Sh} {k a b:Ks} {n q K:Nat} {nm:ByteArray} {x:List Nat} {c:Int}
theorem zfp {K' n' q':Nat} (hl:LI nm L X g) (hx:Recs [x]) (hN:Qt n q (NM ot nm) c X) (hQ:Qt n' q' (AN nm K') c Y) (hr:turnR L x X 0 L' Y):Qt 4 q' (AN nm K') c Y /\ Qt 4 q' (NM ot nm) c Y:=by
 obtain ⟨s,n1,h1,h2,h3,h4,Z,h5,h6⟩:=zc2 hl hx hr;have hn1:AllN (NM ot nm) Y:=(zas hN (fun hh=>by rw [hl.name] at hh ⊢;exact ⟨nm_new,zd8,zgy _ (by omega) (by omega),z93 _ (by omega) (by omega)⟩) hr).al;have hf:=few_of (s:=s) (n:=n1) hn1 hQ.bd.key fun t b hb=>(h6 t b hb).1;exact ⟨⟨⟨hf,hQ.bd.nt,hQ.bd.key,hQ.bd.blk⟩,hQ.al,hQ.cap⟩,⟨⟨hf,hQ.bd.nt,hQ.bd.key,hQ.bd.blk⟩,hn1,hQ.cap⟩⟩
theorem zdh {l:List StepD} (hn:mnB nm=true) (h16:nm.size <= 16):∀ {L:Lg} {X:Ds} {g:Sh} {k:Ks} {n q K:Nat},GS nm L X g n q K c -> Qt n q (NM ot nm) c X -> KW k L g -> (∀ s ∈ l,Recs [s.b]) -> max n 4 + l.length + 3 < 64 -> ((q + (l.map wgt).sum + 32 * l.length:Nat):Int) <= c -> K + 2 * l.length + 2 <= mxn ->
  playR l L X k L' Y a b -> L'.bad=true -> ∃ n' q' K',GB nm Y (fun h=>KF a h \/ KF b h) n' q' K' c /\ n' < 64 /\ q' <= q + (l.map wgt).sum + 32 * l.length /\ K' <= K + 2 * l.length:=by
 induction l with
 | nil=>intro L X g k n q K hl _ _ _ _ _ _ hr hb;obtain ⟨rfl,-⟩:=hr;rw [hl.li.nob] at hb;cases hb
 | cons s l ih =>
  intro L X g k n q K hl hN hk hs hn1 hc hK hr hb;have hx:Recs [s.b]:=hs s (by simp);have ht:∀ t ∈ l,Recs [t.b]:=fun t e=>hs t (by simp [e]);have hw:s.b.length <= wgt s:=by unfold wgt;omega
  simp only [List.map_cons,List.sum_cons,List.length_cons] at hc hK hn1 ⊢;have hnx:=z8l hl.qt.al;rcases hr with ⟨h0,-⟩ | ⟨-,-,e,L1,Z,r1,p1⟩ | ⟨-,-,e,L1,Z,r1,p1⟩ | ⟨-,-,e,L1,Z,r1,p1⟩ | ⟨-,-,-,-,p1⟩
  ·rw [hl.li.nob] at h0;cases h0
  ·
   have hN1:Qt (n + 1) (q + (8 + s.b.length)) (NM ot nm) c Z:=zdj hN (fun hh=>by rw [hl.li.name] at hh ⊢;exact z93 _ (by omega) (by omega)) r1;rcases (z4t hn h16 hl hx (by omega) (by omega) (by omega) r1).2 with ⟨-,-,h4,-,g',h5,h6,h7⟩ | ⟨-,h1,h4,-,h5⟩
   ·obtain ⟨n',q',K',i1,i2,i3,i4⟩:=ih h5 hN1 (kw_app hk h4 h6 h7 h5.li) ht (by omega) (by omega) (by omega) p1 hb;exact ⟨n',q',K',i1,i2,by omega,by omega⟩
   ·obtain ⟨rfl,rfl,rfl,rfl⟩:=z88 h1 p1;exact ⟨_,_,_,⟨h5.inn.mono fun h hf=>.inl (zgq hk hl.li h4 hf),h5.fau,h5.fe,h5.qt⟩,by omega,by omega,by omega⟩
  ·
   have hN1:Qt n q (NM ot nm) c Z:=zdl hN r1;rcases (z4u hn h16 hl r1).2 with ⟨e0,rfl,h2⟩ | ⟨e0,rfl,h2⟩
   ·rw [if_pos e0] at p1;obtain ⟨n',q',K',i1,i2,i3,i4⟩:=ih h2 hN1 (kw_syn hk hl.li) ht (by omega) (by omega) (by omega) p1 hb;exact ⟨n',q',K',i1,i2,by omega,by omega⟩
   ·rw [if_neg e0] at p1;obtain ⟨rfl,rfl,rfl,rfl⟩:=z88 rfl p1;exact ⟨_,_,_,⟨h2.inn.mono fun h hf=>.inl (by subst hf;exact hk.kf hl.li),h2.fau,h2.fe,h2.qt⟩,by omega,by omega,by omega⟩
  ·
   rcases (zaf hn h16 hl hx (by omega) (by omega) (by omega) (by omega) r1).2 with ⟨e0,s',n',bm,bs,b',rfl,-,h3⟩ | ⟨e0,rfl,h3⟩
   ·
    rcases p1 with ⟨h0,-⟩ | ⟨-,p1⟩
    ·exact absurd e0 h0
    ·subst e0;obtain ⟨t1,t2⟩:=zfp hl.li hx hN h3.qt r1;obtain ⟨n',q',K',i1,i2,i3,i4⟩:=ih ⟨h3.li,h3.fau,h3.fe,t1⟩ t2 ⟨rfl,rfl,rfl,by show (0:Int) <= _;omega⟩ ht (by omega) (by omega) (by omega) p1 hb;exact ⟨n',q',K',i1,i2,by omega,by omega⟩
   ·
    rcases p1 with ⟨-,rfl,rfl,rfl,rfl⟩ | ⟨h0,-⟩
    ·
     refine ⟨_,_,_,⟨h3.inn.mono fun h hf=>?_,h3.fau,h3.fe,h3.qt⟩,by omega,by omega,by omega⟩;rcases hf with hf | ⟨h1,h2,h4⟩
     ·exact .inl (kf_left' hk hf)
     ·exact .inr (zcx h1 h2 h4)
    ·exact absurd h0 e0
  ·obtain ⟨n',q',K',i1,i2,i3,i4⟩:=ih hl hN hk ht (by omega) (by omega) (by omega) p1 hb;exact ⟨n',q',K',i1,i2,by omega,by omega⟩
end Go.Proofs.YtpjomdmjohjheaaGreatDoor
end
section
namespace Go.Proofs.YtpjomdmjohjheaaGreatDoor
open Go.RowKit Go.Lk Go.Vfs Go.Log
theorem agg53:AggT Tryz.prog 53 4:=⟨by kernel_rfl,by kernel_rfl⟩
def Ks.cs (k:Ks) (av:Value):Array Value:=#[.string k.s,.bool k.has,av,.int .i64 k.sure]
theorem Ks.one (k:Ks) {a:Option Addr} {n c:Nat}:∀ u ∈ (k.cs (.slice a n c)).toList,u.oneCell'=true:=by
 intro u hu;simp only [Ks.cs,List.mem_cons,List.not_mem_nil,or_false] at hu;rcases hu with rfl | rfl | rfl | rfl <;> rfl
theorem z5d (l:List StepD) (k:Nat):((l.take k).map wgt).sum <= (l.map wgt).sum:=by
 have e:l.map wgt=(l.take k).map wgt ++ (l.drop k).map wgt:=by rw [<- List.map_append,List.take_append_drop]
 rw [e,List.sum_append];omega
theorem hb53 (s:ByteArray) (w:World):(Instr.build 53 #[(0,.string s),(1,.bool true)]).run Tryz.prog w=.ok (.agg #[.string s,.bool true,.slice none 0 0,.int .i64 0]) w:=by kernel_rfl
def OwnE (E:Nat -> Prop) (W0:World) (O:Nat -> Prop):Nat -> Prop:=fun k=>k < W0.heap.size \/ (O k /\ ¬ E k)
def PlayE (E:Nat -> Prop) (W0 w:World) (l d:Nat) (O:Nat -> Prop) (steps:List StepD) (L:Lg) (X:Ds) (K:Ks) (e:Ending) (w':World):Prop :=
 ∃ Ka Kb va vb L' Y O' t,e=.returned (.tuple #[Ka.v va,Kb.v vb]) /\ LS W0 w' l d L' Y O' /\ (∀ k,O k -> O' k) /\ RB w' (OwnE E W0 O') va Ka.all /\ RB w' (OwnE E W0 O') vb Kb.all /\ playR steps L X K L' Y Ka Kb /\ PB L X steps.length t L' Y /\ t <= 20000 /\ Keeps (Oth W0 O) w w'
def PlayD (W0 w:World) (l d:Nat) (O:Nat -> Prop) (steps:List StepD) (L:Lg) (X:Ds) (K:Ks) (e:Ending) (w':World):Prop :=
 ∃ Ka Kb va vb L' Y O' t,e=.returned (.tuple #[Ka.v va,Kb.v vb]) /\ LS W0 w' l d L' Y O' /\ (∀ k,O k -> O' k) /\ RB w' (Own W0 O') va Ka.all /\ RB w' (Own W0 O') vb Kb.all /\ playR steps L X K L' Y Ka Kb /\ PB L X steps.length t L' Y /\ t <= 20000 /\ Keeps (Oth W0 O) w w'
def OwnK (E:Nat -> Prop) (W0:World) (O:Nat -> Prop) (b4 b6 b7:Nat):Nat -> Prop:=fun k=>k < W0.heap.size \/ (O k /\ k ≠ b4 /\ k ≠ b6 /\ k ≠ b7 /\ ¬ E k)
def PlI (E:Nat -> Prop) (W0 w:World) (l d:Nat) (O:Nat -> Prop) (steps:List StepD) (L:Lg) (X:Ds) (K:Ks) (b4 b6 b7:Nat) (i:Nat) (wr:World):Prop :=
 ∃ Li Xi Ki O1 a c,LS W0 wr l d Li Xi O1 /\ (∀ k,O k \/ k=b4 \/ k=b6 \/ k=b7 -> O1 k) /\ wr.heap[b4]?=some (.cells (Ki.cs (.slice a Ki.all.length c)) 53 (0,0)) /\ (∃ z6,wr.heap[b6]?=some (.cells z6 53 (0,0)) /\ z6.size=4) /\ (∃ z7,wr.heap[b7]?=some (.cells z7 53 (0,0)) /\ z7.size=4) /\
  RB wr (OwnK E W0 O1 b4 b6 b7) (.slice a Ki.all.length c) Ki.all /\ (∀ L' Y Ka Kb,playR (steps.drop i) Li Xi Ki L' Y Ka Kb -> playR steps L X K L' Y Ka Kb) /\ PB L X i ((steps.take i).map wgt).sum Li Xi /\ Ki.all.length <= K.all.length + i /\ Keeps (Oth W0 O) w wr
theorem _root_.Go.Log.LS.lt {W0 w:World} {l d:Nat} {L:Lg} {X:Ds} {O:Nat -> Prop} (h:LS W0 w l d L X O) {k:Nat} (hk:O k):k < w.heap.size:=by obtain ⟨_,_,_,_,-,h2,-⟩:=h.ex;exact (h2 k hk).1
theorem z4e {E:Nat -> Prop} {W0 w w':World} {O:Nat -> Prop} {b4 b6 b7:Nat} (hk:Keeps (Oth W0 O) w w'):∀ k,OwnK E W0 O b4 b6 b7 k -> ¬ Oth W0 O k:=fun k e f=>by
 rcases e with e | e
 ·have:=f.1;omega
 ·exact f.2 e.1
theorem z5z {E:Nat -> Prop} {W0 w wr wd:World} {l d b4 b6 b7 k t:Nat} {L Li:Lg} {X Xi:Ds} {O O1:Nat -> Prop} {K Ka Kb:Ks} {steps:List StepD} {va vb:Value} (h1:LS W0 wr l d Li Xi O1) (h2:∀ k,O k \/ k=b4 \/ k=b6 \/ k=b7 -> O1 k) (ha:RB wr (OwnK E W0 O1 b4 b6 b7) va Ka.all) (hb:RB wr (OwnK E W0 O1 b4 b6 b7) vb Kb.all)
  (hR:playR steps L X K Li Xi Ka Kb) (hp:PB L X k t Li Xi) (hk:k <= steps.length) (ht:t <= 20000) (kw:Keeps (Oth W0 O) w wr) (kd:Keeps (fun b=>b=b6 \/ b=b7) wr wd) (hO6:¬ O b6 /\ ¬ O b7) (h6:W0.heap.size <= b6 /\ W0.heap.size <= b7):PlayE E W0 w l d O steps L X K (.returned (.tuple #[Ka.v va,Kb.v vb])) wd:=by
 have hn:∀ k,OwnK E W0 O1 b4 b6 b7 k -> ¬ (k=b6 \/ k=b7):=fun k e f=>by
  rcases e with e | e
  ·omega
  ·exact f.elim e.2.2.1 e.2.2.2.1
 have ho:∀ k,OwnK E W0 O1 b4 b6 b7 k -> OwnE E W0 O1 k:=fun k e=>e.imp id fun e=>⟨e.1,e.2.2.2.2⟩
 obtain ⟨p1,p2,p3,p4⟩:=hp;refine ⟨Ka,Kb,va,vb,Li,Xi,O1,t,rfl,h1.set kd (fun k e=>⟨h2 k (.inr (.inr e)),by omega⟩),fun k e=>h2 k (.inl e),(ha.keeps kd hn).mono ho,(hb.keeps kd hn).mono ho,hR,⟨by omega,by omega,by omega,by omega⟩,ht,kw.trans kd fun j hj e=>⟨by omega,fun f=>?_⟩⟩;rcases e with rfl | rfl
 ·exact hO6.1 f
 ·exact hO6.2 f
theorem z3t {P:Program} {fn:Func} {p q:Tmp} {ty T T':TypeId} {g g' n:Nat} {cs cs':Array Value} {fr fr':Nat × Nat} {w:World} (A:AggT P ty n) (h:fn.results=#[.cell p ty,.cell q ty]) (tmps:Array Value) (hp:tmps.getD p undef=.pointer (some ⟨g,0,none⟩)) (hq:tmps.getD q undef=.pointer (some ⟨g',0,none⟩))
  (hg:w.heap[g]?=some (.cells cs T fr)) (hn:cs.size=n) (hg':w.heap[g']?=some (.cells cs' T' fr')) (hn':cs'.size=n):(results fn tmps).run P w=.ok (.tuple #[.agg cs,.agg cs']) w:=by
 have hp':tmps[p]?.getD undef=.pointer (some ⟨g,0,none⟩):=by simpa using hp
 have hq':tmps[q]?.getD undef=.pointer (some ⟨g',0,none⟩):=by simpa using hq
 have hl:=z2j (w:=w) (off:=0) A hg (by omega);rw [Nat.zero_add,<- hn,Array.extract_size] at hl;have hl':=z2j (w:=w) (off:=0) A hg' (by omega);rw [Nat.zero_add,<- hn',Array.extract_size] at hl';simp [results,h,hp',hq',asAddr,hl,hl',Sem.run_bind,Result.andThen_ok,Sem.run_pure]
theorem zf0 {E:Nat -> Prop} {W0 w:World} {l d:Nat} {L:Lg} {X:Ds} {O:Nat -> Prop} (h:LS W0 w l d L X O) (hE:∀ k,E k -> k < w.heap.size) (K:Ks) (kv:Value) (hk:RB w (OwnE E W0 O) kv K.all) (sa:Option Addr) (sc:Nat) (steps:List StepD) (hs:StepsAt W0 W0 sa steps.length sc steps) (hfew:(steps.map wgt).sum <= 20000) (hok:PlayOk L X steps.length) (hka:K.all.length + steps.length <= 3000000000000) :
  Calls Tryz.prog 28 #[.pointer (some ⟨l,0,none⟩),K.v kv,.slice sa steps.length sc] w (PlayE E W0 w l d O steps L X K):=by
 obtain ⟨m,hm⟩:∃ m,steps.length=m:=⟨_,rfl⟩
 have H:=qq h;have HE:=qq hE;have HK:=qq hk;have HST:=qq hs;have HF:=qq hfew;have HO:=qq hok;have HM:=qq hm;have HKA:=qq hka;obtain ⟨ka,kc,kvs,rfl,-⟩:=id hk;have hmc:m <= sc /\ sc <= 9223372036854775807:=by have h1:=hs.2.1;have h2:=hs.2.2.1;unfold maxLen at h2;omega
 rw [hm];clear h hE hk hs hfew hok hm hka;show Calls Tryz.prog 28 #[.pointer (some ⟨l,0,none⟩),.agg (K.cs (.slice ka K.all.length kc)),.slice sa m sc] w _;go_enter Tryz.func28,Tryz.ntmps28;go_wp2_with (first | go_skip | (with_reducible refine qv (by decide) ?_))
 refine za (vbox rfl ?_);intro b4 w1 n4;simp only [Nat.reduceAdd,qn];go_wp2_with (first | go_skip | (with_reducible refine qv (by decide) ?_))
 refine za (valloc (z:=.agg #[.string ByteArray.empty,.bool false,.slice none 0 0,.int .i64 0]) (by kernel_rfl) ?_);intro b6 w2 n6;simp only [Nat.reduceAdd,qn];go_wp2_with (first | go_skip | (with_reducible refine qv (by decide) ?_))
 refine za (valloc (z:=.agg #[.string ByteArray.empty,.bool false,.slice none 0 0,.int .i64 0]) (by kernel_rfl) ?_);intro b7 w3 n7;simp only [Nat.reduceAdd,qn];have L46:b4 < b6:=by have:=n4.lt;have:=n6.ge;omega
 have L67:b6 < b7:=by have:=n6.lt;have:=n7.ge;omega
 have G4:Hid (w.heap.size <= b4):=qq n4.ge
 have I0:Hid (PlI E W0 w l d O steps L X K b4 b6 b7 0 w3):=qq (by
  have k3:=(n4.k.trans_nb n6.k).trans_nb n7.k;have hlt7:b7 < w3.heap.size:=n7.lt;have hge:=n4.ge
  refine ⟨L,X,K,fun k=>O k \/ (k=b4 \/ k=b6 \/ k=b7),ka,kc,H.out.add k3 (fun k e=>by omega),fun k e=>e,n7.k.nb (n6.k.nb n4.blk),⟨_,n7.k.nb n6.blk,rfl⟩,⟨_,n7.blk,rfl⟩,(HK.out.keeps k3 (fun _ _ e=>e)).mono (fun k e=>e.imp id fun e=>⟨.inl e.1,by have:=H.out.lt e.1;omega,by have:=H.out.lt e.1;omega,by have:=H.out.lt e.1;omega,e.2⟩),fun L' Y Ka Kb h=>by rw [List.drop_zero] at h;exact h,by simpa using PB.refl L X,Nat.le_refl _,k3.of_nb⟩)
 clear n4 n6 n7;go_wp2
 go_loopw [8] (fun i wr=>∃ k:Nat,k <= m /\ i=.int .i64 k /\ PlI E W0 w l d O steps L X K b4 b6 b7 k wr) (fun i _=>m - (intOf i).toNat)
 case atStart=>exact ⟨0,Nat.zero_le _,rfl,I0.out⟩
 case round =>
  obtain ⟨k,hk,rfl,Li,Xi,Ki,O1,a,c,q1,q2,q3,q4,q5,q6,q7,q8,q8a,q9⟩:=hrel;have H1:=qq q1;have H2:=qq q2;have H3:=qq q3;have H4:=qq q4;have H5:=qq q5;have H6:=qq q6;have H7:=qq q7;have H8:=qq q8;have HA8:=qq q8a;have H9:=qq q9;clear q1 q2 q3 q4 q5 q6 q7 q8 q8a q9 I0;have RO:=qq (zbk H1.out);by_cases hlt:k < m
  ·
   have i1:(k:Int) < (m:Int):=by omega
   obtain ⟨bd,hbd⟩:∃ b,Li.bad=b:=⟨_,rfl⟩
   have HBD:=qq hbd;rw [hbd] at RO;clear hbd;go_wp2_with fail;refine RO.out.mono ?_;rintro _ _ ⟨rfl,rfl⟩;clear RO;cases bd with
   | true =>
    go_wp2;obtain ⟨z6,hz6,hs6⟩:=H4.out;obtain ⟨z7,hz7,hs7⟩:=H5.out;have HZ6:=qq hz6;have HZ7:=qq hz7;have HS6:=qq hs6;have HS7:=qq hs7;clear hz6 hz7 hs6 hs7;refine WT.region (fun u=>u.heap[b4]?=some (.cells (Ki.cs (.slice a Ki.all.length c)) 53 (0,0))) 3 4 [0,1,2,3] (by kernel_rfl) rfl ?_;have HS:Hid ((fun u:World=>u.heap[b4]?=some (.cells (Ki.cs (.slice a Ki.all.length c)) 53 (0,0))) wr.drew):=qq H3.out;refine WT.t 0 (v:=(.agg (Ki.cs (.slice a Ki.all.length c)))) (y:=by rintro w C1;exact z0c agg53 (by rfl) (zm C1) rfl) (s:=HS.out) (h:=?_);refine WT.t 1 (v:=(.agg (Ki.cs (.slice a Ki.all.length c)))) (y:=by rintro w C1;exact z0c agg53 (by rfl) (zm C1) rfl) (s:=HS.out) (h:=?_);refine WT.onlySkipE 2 (by simp only [qi];rfl) (by kernel_rfl) (by rfl) (zc (w:=wr.drew) (v:=.agg (Ki.cs (.slice a Ki.all.length c))) (n:=4) (by kernel_rfl) (by rfl) (by rfl) HZ6.out (by rfl) (by rw [HS6.out];exact Nat.le_refl _) (Ki.one)) ?_;intro wa s6;replace HS:Hid ((fun u:World=>u.heap[b4]?=some (.cells (Ki.cs (.slice a Ki.all.length c)) 53 (0,0))) wa):=qq (s6.k.at (w:=wr.drew) H3.out (fun e=>by omega));refine ⟨HS.out,?_⟩;simp only [Nat.reduceAdd,qn];refine WT.stop (by kernel_rfl) ?_;refine WP.onlySkipE 3 (by simp only [qi];rfl) (by kernel_rfl) (by rfl) (zc (v:=.agg (Ki.cs (.slice a Ki.all.length c))) (n:=4) (by kernel_rfl) (by rfl) (by rfl) (s6.k.at (w:=wr.drew) HZ7.out (fun e=>by omega)) (by rfl) (by rw [HS7.out];exact Nat.le_refl _) (Ki.one)) ?_;intro wb s7;simp only [Nat.reduceAdd,qn];refine WP.done (by kernel_rfl) ?_;have Z6:Hid (wb.heap[b6]?=some (.cells (Ki.cs (.slice a Ki.all.length c)) 53 (0,0))):=qq (s7.k.at (by have:=s6.blk;rw [show splice z6 (Value.agg (Ki.cs (.slice a Ki.all.length c))).cells 0=Ki.cs (.slice a Ki.all.length c) from z06 (by rw [HS6.out];rfl)] at this;exact this) (fun e=>by omega));have Z7:Hid (wb.heap[b7]?=some (.cells (Ki.cs (.slice a Ki.all.length c)) 53 (0,0))):=qq (by have:=s7.blk;rw [show splice z7 (Value.agg (Ki.cs (.slice a Ki.all.length c))).cells 0=Ki.cs (.slice a Ki.all.length c) from z06 (by rw [HS7.out];rfl)] at this;exact this);have KD:Hid (Keeps (fun b=>b=b6 \/ b=b7) wr wb):=qq ((((Keeps.refl (fun b=>b=b6 \/ b=b7) wr).drew).trans s6.k (fun _ _ e=>.inl e)).trans s7.k (fun _ _ e=>.inr e));clear s6 s7 HS;go_wp2;refine bodyPost_ret (z3t agg53 rfl _ rfl rfl Z6.out rfl Z7.out rfl) rfl ?_;have hz:=H.out.k.size;have htk:((steps.take k).map wgt).sum <= 20000:=Nat.le_trans (z5d steps k) HF.out;exact z5z (b4:=b4) H1.out H2.out H6.out H6.out (H7.out _ _ _ _ (zdg HBD.out)) H8.out (by rw [HM.out];omega) htk H9.out KD.out (by have:=G4.out;exact ⟨fun e=>by have:=H.out.lt e;omega,fun e=>by have:=H.out.lt e;omega⟩) (by have:=G4.out;omega)
   | false =>
    obtain ⟨s,hs⟩:∃ s,steps[k]?=some s:=⟨_,List.getElem?_eq_getElem (by rw [HM.out];exact hlt)⟩
    have HSK:=qq hs;have hdrop:steps.drop k=s :: steps.drop (k + 1):=by
     rw [List.drop_eq_getElem_cons (List.getElem?_eq_some_iff.1 hs).1,(List.getElem?_eq_some_iff.1 hs).2]
    have htake:((steps.take (k + 1)).map wgt).sum=((steps.take k).map wgt).sum + wgt s:=by
     rw [List.take_succ_eq_append_getElem (List.getElem?_eq_some_iff.1 hs).1,(List.getElem?_eq_some_iff.1 hs).2];simp
    have HDR:=qq hdrop;have HTK:=qq htake;have HWG:Hid (((steps.take (k + 1)).map wgt).sum <= 20000):=qq (Nat.le_trans (z5d steps (k + 1)) HF.out);obtain ⟨sb,so,cs,rfl,⟨vb,vp,rfl,hvb,-⟩,hh⟩:=HST.out.2.2.2 k s hs;have HVB:=qq hvb;have HHS:=qq hh;obtain ⟨ba,bc,rfl,-⟩:=hvb.rows;have cs0:∀ j u,(stc s (.slice ba s.b.length bc) vp)[j]?=some u -> ∀ wx,Keeps Nb W0 wx -> wx.cell? ⟨sb,so + k * 6 + j,none⟩=some u:=fun j u hj wx kx=>by
     rcases hh with h | ⟨b',o',e,hc⟩
     ·cases h
     ·cases e;exact (kx.cell (lt_of_cell (hc j u hj)) (fun e=>e)).trans (hc j u hj)
    have CS:=qq cs0;have c0:wr.cell? ⟨sb,so + k * 6,none⟩=some (.int .i64 s.kind):=cs0 0 _ rfl wr H1.out.k;have i64:IntKind.i64.wrap ((k:Int) + 1)=((k + 1:Nat):Int):=by rw [IntWalk.i64_in _ (by omega)];rfl
    obtain ⟨kd,hkd⟩:∃ n,s.kind=n:=⟨_,rfl⟩
    rw [hkd] at c0;have HKD:=qq hkd;clear hs hdrop htake hh hvb cs0 hkd;by_cases hk1:kd=1
    ·
     subst hk1;have HCELLS:Hid (∀ wx,Keeps Nb wr wx -> wx.cell? ⟨sb,so + k * 6 + 4,none⟩=some (.slice ba s.b.length bc)):=qq fun wx kx=>CS.out 4 _ rfl wx (H1.out.k.trans_nb kx);obtain ⟨bn,hbn⟩:∃ n,s.b.length=n:=⟨_,rfl⟩
     have HBN:=qq hbn;rw [hbn] at HCELLS;obtain ⟨a',c',vs,e',g1,g2,g3,g4,g5⟩:=id H6.out;cases e';have hone:∀ u ∈ vs,u.oneCell'=true:=fun u hu=>by
      obtain ⟨i,hi⟩:=List.getElem?_of_mem hu;obtain ⟨x,hx⟩:∃ x,Ki.all[i]?=some x:=⟨_,List.getElem?_eq_getElem (by rw [<- g5.1];exact (List.getElem?_eq_some_iff.1 hi).1)⟩
      obtain ⟨_,_,rfl,-⟩:=g5.2 i u x hi hx;rfl
     obtain ⟨n,hn⟩:∃ n,Ki.all.length=n:=⟨_,rfl⟩
     have HNA:=qq hn;have hvl:vs.length=n * 1:=by rw [g5.1,hn];omega
     have HVL:=qq hvl;have HONE:=qq hone;have HG3:=qq g3;have HG5:=qq g5;have HG4:=qq g4;have hnb:n <= 3000000000000:=by have h1:=HA8.out;have h2:=HKA.out;rw [HM.out] at h2;omega
     have H3':Hid (wr.heap[b4]?=some (.cells (Ki.cs (.slice a n c)) 53 (0,0))):=qq (by rw [<- hn];exact H3.out);clear hbn hn hvl hone g1 g2 g3 g4 g5;go_wp2;refine WT.region (fun u:World=>u.heap[b4]?=some (.cells (Ki.cs (.slice a n c)) 53 (0,0)) /\ u.cell? ⟨sb,so + k * 6 + 4,none⟩=some (.slice ba bn bc)) 10 12 [0,1,3,4,5,6,7,2,8,9,10,11] (by kernel_rfl) rfl ?_;obtain ⟨x0,hx0⟩:∃ u,u=wr.drew:=⟨_,rfl⟩
     have K_x0:Hid (Keeps Nb wr x0):=qq (by rw [hx0];exact (Keeps.refl _ wr).drew);rw [<- hx0];clear hx0;have HS:Hid ((fun u:World=>u.heap[b4]?=some (.cells (Ki.cs (.slice a n c)) 53 (0,0)) /\ u.cell? ⟨sb,so + k * 6 + 4,none⟩=some (.slice ba bn bc)) x0):=qq ⟨K_x0.out.nb H3'.out,HCELLS.out _ K_x0.out⟩;refine WT.t 0 (v:=_) (y:=by rintro w ⟨C1,C2⟩;go_simp;with_reducible rfl) (s:=HS.out) (h:=?_);refine WT.t 1 (v:=.slice a n c) (y:=by rintro w ⟨C1,C2⟩;exact zb (by kernel_rfl) (by rfl) ((cell_of_block C1).trans rfl)) (s:=HS.out) (h:=?_);refine WT.t 3 (v:=_) (y:=by rintro w ⟨C1,C2⟩;go_simp;with_reducible rfl) (s:=HS.out) (h:=?_);refine WT.t 4 (v:=_) (y:=by rintro w ⟨C1,C2⟩;go_simp;with_reducible rfl) (s:=HS.out) (h:=?_);refine WT.t 5 (v:=_) (y:=by rintro w ⟨C1,C2⟩;go_simp;with_reducible rfl) (s:=HS.out) (h:=?_);refine WT.t 6 (v:=_) (y:=by rintro w ⟨C1,C2⟩;go_simp;with_reducible rfl) (s:=HS.out) (h:=?_);refine WT.t 7 (v:=.slice ba bn bc) (y:=by rintro w ⟨C1,C2⟩;exact zb (by kernel_rfl) (by rfl) C2) (s:=HS.out) (h:=?_);refine WT.forkE 2 8 [0,1,3,4,5,6,7,8,2,9,10,11] (by simp only [qi];rfl) (by simp only [qi];rfl) (by kernel_rfl) (by rfl) (by rfl) (re_push' el27 (RowS.nil x0 (fun _=>False) (fun _=>False) 22 1) (by rfl) (by rfl) (HG3.out.nb K_x0.out) HVL.out HONE.out (by unfold maxLen;omega) (by omega)) (zl el27 [.slice ba bn bc] rfl (by simp [List.range'_succ];first | done | rfl | exact ⟨rfl,rfl⟩ | exact ⟨rfl,rfl,rfl⟩ | exact ⟨rfl,rfl,rfl,rfl⟩ | exact ⟨rfl,rfl,rfl,rfl,rfl⟩ | exact ⟨rfl,rfl,rfl,rfl,rfl,rfl⟩) (by simp [Value.cells]) (by simp)) ?_ ?_
     ·
      rintro v2 x1 ⟨hr2,S2,k2,hS2⟩;have K_x1:Hid (Keeps Nb wr x1):=qq (K_x0.out.trans_nb (k2.mono fun j _ e=>(hS2 j e).1.elim))
      have HR2:Hid (RowS x1 (fun k=>wr.heap.size <= k /\ k < x1.heap.size) (fun _=>False) 22 1 v2 n vs):=qq (by
       have z:=K_x0.out.size;have:=hr2.mono (F':=fun k=>wr.heap.size <= k /\ k < x1.heap.size) (fun k e=>e.elim (fun e=>e.elim) (fun e=>⟨by omega,e.2⟩)) (fun _ e=>e)
       rw [Nat.zero_add,List.nil_append] at this;exact this)
      clear hr2 k2 hS2;replace HS:Hid ((fun u:World=>u.heap[b4]?=some (.cells (Ki.cs (.slice a n c)) 53 (0,0)) /\ u.cell? ⟨sb,so + k * 6 + 4,none⟩=some (.slice ba bn bc)) x1):=qq ⟨K_x1.out.nb H3'.out,HCELLS.out _ K_x1.out⟩;refine ⟨HS.out,?_⟩;simp only [Nat.reduceAdd,qn];refine WT.o 8 (y:=zl el27 [.slice ba bn bc] rfl (by simp [List.range'_succ];first | done | rfl | exact ⟨rfl,rfl⟩ | exact ⟨rfl,rfl,rfl⟩ | exact ⟨rfl,rfl,rfl,rfl⟩ | exact ⟨rfl,rfl,rfl,rfl,rfl⟩ | exact ⟨rfl,rfl,rfl,rfl,rfl,rfl⟩) (by simp [Value.cells]) (by simp)) (h:=?_);rintro _ x2 ⟨g8,rfl,n8⟩;have K_x2:Hid (Keeps Nb wr x2):=qq (K_x1.out.trans_nb n8.k);have HH8:Hid (Has x2 (some ⟨g8,0,none⟩) [.slice ba bn bc]):=qq (zm n8.blk);replace HR2:Hid (RowS x2 (fun k=>wr.heap.size <= k /\ k < x2.heap.size) (fun _=>False) 22 1 v2 n vs):=qq ((HR2.out.keeps n8.k (fun _ _ _ e=>e)).mono (fun k e=>⟨e.1,by have:=e.2;have:=n8.k.size;omega⟩) (fun _ e=>e));clear n8;replace HS:Hid ((fun u:World=>u.heap[b4]?=some (.cells (Ki.cs (.slice a n c)) 53 (0,0)) /\ u.cell? ⟨sb,so + k * 6 + 4,none⟩=some (.slice ba bn bc)) x2):=qq ⟨K_x2.out.nb H3'.out,HCELLS.out _ K_x2.out⟩;refine ⟨HS.out,?_⟩;simp only [Nat.reduceAdd,qn];refine WT.o 9 (y:=re_push' el27 HR2.out (by rfl) (by rfl) HH8.out rfl (by intro u hu;rw [List.mem_singleton.1 hu];rfl) (by unfold maxLen;omega) (by omega)) (h:=?_);rintro v3 x3 ⟨hr3,S3,k3,hS3⟩;have K_x3:Hid (Keeps Nb wr x3):=qq (K_x2.out.trans k3 fun j hj e=>by have:=(hS3 j e).1.1;omega)
      have HR3:Hid (RowS x3 (fun k=>wr.heap.size <= k /\ k < x3.heap.size) (fun _=>False) 22 1 v3 (n + 1) (vs ++ [.slice ba bn bc])):=qq (by
       have z:=K_x2.out.size;have z3:=k3.size
       exact hr3.mono (fun k e=>e.elim (fun e=>⟨e.1,by have:=e.2;omega⟩) (fun e=>⟨by omega,e.2⟩)) (fun _ e=>e))
      obtain ⟨-,-,a3,c3,rfl,-⟩:=id hr3;clear hr3 k3 hS3 HR2 HH8;replace HS:Hid ((fun u:World=>u.heap[b4]?=some (.cells (Ki.cs (.slice a n c)) 53 (0,0)) /\ u.cell? ⟨sb,so + k * 6 + 4,none⟩=some (.slice ba bn bc)) x3):=qq ⟨K_x3.out.nb H3'.out,HCELLS.out _ K_x3.out⟩;refine ⟨HS.out,?_⟩;simp only [Nat.reduceAdd,qn];refine WT.stop (by kernel_rfl) ?_;refine WP.o 10 (v:=_) (y:=by go_simp;first | with_reducible rfl | exact ⟨rfl,rfl⟩) (h:=?_);refine WP.onlySkipE 11 (by simp only [qi];rfl) (by kernel_rfl) (by rfl) (zc (v:=.slice a3 (n + 1) c3) (n:=1) (by kernel_rfl) (by rfl) (by rfl) (K_x3.out.nb H3'.out) (by rfl) (by simp [Value.cells,Ks.cs]) (by simp [Value.cells,Value.oneCell'])) ?_;intro x4 s4;simp only [Nat.reduceAdd,qn];refine WP.done (by kernel_rfl) ?_;have hz:=H.out.k.size;have hg4:=G4.out;have hb4r:b4 < wr.heap.size:=H1.out.lt (H2.out b4 (.inr (.inl rfl)));have HL4:Hid (LS W0 x4 l d Li Xi fun k=>O1 k \/ (wr.heap.size <= k /\ k < x3.heap.size)):=qq ((H1.out.add K_x3.out (N:=fun k=>wr.heap.size <= k /\ k < x3.heap.size) (fun k e=>e)).set s4.k (fun k e=>by have e:k=b4:=e;subst e;exact ⟨.inl (H2.out _ (.inr (.inl rfl))),by omega⟩));have B44:Hid (x4.heap[b4]?=some (.cells (Ks.cs { Ki with all:=Ki.all ++ [s.b] } (.slice a3 (n + 1) c3)) 53 (0,0))):=qq s4.blk;have K4:Hid (Keeps (·=b4) wr x4):=qq (K_x3.out.of_nb.trans s4.k (fun _ _ e=>e))
      have RB4:Hid (RB x4 (OwnK E W0 (fun k=>O1 k \/ (wr.heap.size <= k /\ k < x3.heap.size)) b4 b6 b7) (.slice a3 (n + 1) c3) (Ki.all ++ [s.b])):=qq (by
       have hl:(Ki.all ++ [s.b]).length=n + 1:=by rw [List.length_append,HNA.out];rfl
       have h6:=H1.out.lt (H2.out b6 (.inr (.inr (.inl rfl))));have h7:=H1.out.lt (H2.out b7 (.inr (.inr (.inr rfl))));have h1:RB x3 (OwnK E W0 (fun k=>O1 k \/ (wr.heap.size <= k /\ k < x3.heap.size)) b4 b6 b7) (.slice a3 (n + 1) c3) (Ki.all ++ [s.b]):=by
        refine RB.of (vs:=vs ++ [.slice ba bn bc]) (by rw [hl];exact HR3.out) (((HG5.out.keeps K_x3.out (fun _ _ e=>e)).mono fun k e=>e.imp id fun e=>⟨.inl e.1,e.2⟩).append (.cons ?_ (.nil _ _))) (fun k e=>.inr ⟨.inr e,by omega,by omega,by omega,fun f=>by have:=HE.out k f;have:=H9.out.size;omega⟩) (fun _ e=>e);rw [<- HBN.out];exact (HVB.out.keeps (H1.out.k.trans_nb K_x3.out) (fun _ _ e=>e)).mono (fun k e=>.inl e)
       refine h1.keeps s4.k (fun k e f=>?_);have f:k=b4:=f;subst f;rcases e with e | e
       ·omega
       ·exact e.2.1 rfl)
      have c4:x4.cell? ⟨sb,so + k * 6 + 4,none⟩=some (.slice ba bn bc):=by rw [<- HBN.out];exact CS.out 4 _ rfl x4 HL4.out.k
      have hp0:=HO.out;have hp8:=H8.out;have AP:=qq (z13 HL4.out (v:=.slice ba bn bc) (bs:=s.b) (by rw [<- HBN.out];exact (HVB.out.keeps HL4.out.k (fun _ _ e=>e)).mono (fun k e=>.inl e)) (by have h1:=hp0.pot;have h2:=hp8.pot;rw [HM.out] at h1;omega) (by have h1:=hp0.segs;have h2:=hp8.segs;rw [HM.out] at h1;omega) (by have h1:=hp0.recs;have h2:=hp8.recs;rw [HM.out] at h1;omega) (by have h1:=hp0.size;have h2:=hp8.size;have h3:=HWG.out;have h4:=HTK.out;rw [HM.out] at h1;omega));clear s4 HS hp0 hp8 hz hg4 hb4r;go_wp2_with fail;refine AP.out.mono ?_;rintro _ w7 ⟨er,L7,X7,rfl,hl7,hr7,hp7,hk7⟩;have H7':=qq hl7;have HR7:=qq hr7
      have HPB:Hid (PB L X (k + 1) ((steps.take (k + 1)).map wgt).sum L7 X7):=qq (by
       obtain ⟨p1,p2,p3,p4⟩:=H8.out.app hr7 hp7;rw [HTK.out];have hw:wgt s=s.b.length + s.name.size + s.picks.length:=rfl
       exact ⟨p1,p2,p3,by omega⟩)
      have B4:=qq (Oth.at hk7 B44.out (.inl (H2.out b4 (.inr (.inl rfl)))));have B6:Hid (∃ z6,w7.heap[b6]?=some (.cells z6 53 (0,0)) /\ z6.size=4):=qq (by obtain ⟨z,h1,h2⟩:=H4.out;exact ⟨z,Oth.at hk7 (K4.out.at h1 (fun e=>by omega)) (.inl (H2.out b6 (.inr (.inr (.inl rfl))))),h2⟩);have B7:Hid (∃ z7,w7.heap[b7]?=some (.cells z7 53 (0,0)) /\ z7.size=4):=qq (by obtain ⟨z,h1,h2⟩:=H5.out;exact ⟨z,Oth.at hk7 (K4.out.at h1 (fun e=>by omega)) (.inl (H2.out b7 (.inr (.inr (.inr rfl))))),h2⟩);have RB7:=qq (RB4.out.keeps hk7 (z4e hk7));have KW7:Hid (Keeps (Oth W0 O) w w7):=qq ((H9.out.trans K4.out (fun j hj e=>by have e:j=b4:=e;subst e;have:=H.out.k.size;have:=G4.out;exact ⟨by omega,fun f=>by have:=H.out.lt f;omega⟩)).trans hk7 (fun j hj e=>⟨e.1,fun f=>e.2 (.inl (H2.out j (.inl f)))⟩));have HSUB:Hid (∀ k,O k \/ k=b4 \/ k=b6 \/ k=b7 -> O1 k \/ (wr.heap.size <= k /\ k < x3.heap.size)):=qq fun k e=>.inl (H2.out k e);clear hl7 hr7 hp7 hk7 AP c4 B44;go_wp2;refine WT.region (fun u=>u.heap[b4]?=some (.cells (Ks.cs { Ki with all:=Ki.all ++ [s.b] } (.slice a3 (n + 1) c3)) 53 (0,0))) 5 7 [0,1,2,3,4,5,6] (by kernel_rfl) rfl ?_;have HS:Hid ((fun u:World=>u.heap[b4]?=some (.cells (Ks.cs { Ki with all:=Ki.all ++ [s.b] } (.slice a3 (n + 1) c3)) 53 (0,0))) w7.drew):=qq B4.out;have SQ:=qq (z82 (H7'.out.nb (Keeps.refl Nb w7).drew));refine WT.t 0 (v:=_) (y:=by rintro w C1;go_simp;with_reducible rfl) (s:=HS.out) (h:=?_);refine WT.t 1 (v:=.int .i64 Ki.sure) (y:=by rintro w C1;exact zb (by kernel_rfl) (by rfl) ((cell_of_block C1).trans rfl)) (s:=HS.out) (h:=?_);refine WT.t 2 (v:=_) (y:=by rintro w C1;go_simp;with_reducible rfl) (s:=HS.out) (h:=?_);refine WT.call 3 (by simp only [qi];rfl) (by kernel_rfl) (by rfl) (by go_simp;first | done | rfl | exact ⟨⟨rfl,rfl⟩,rfl⟩ | exact ⟨⟨rfl,rfl,rfl⟩,rfl⟩ | exact ⟨⟨rfl,rfl,rfl,rfl⟩,rfl⟩ | exact ⟨⟨rfl,rfl,rfl,rfl,rfl⟩,rfl⟩) SQ.out ?_;rintro _ _ ⟨rfl,rfl⟩;refine ⟨_,rfl,HS.out,?_⟩;simp only [Nat.reduceAdd,qn];refine WT.t 4 (v:=.int .i64 (max Ki.sure (L7.synced:Int))) (y:=by rintro w C1;go_simp;first | done | rfl | with_reducible rfl) (s:=HS.out) (h:=?_);refine WT.stop (by kernel_rfl) ?_;refine WP.o 5 (v:=_) (y:=by go_simp;first | with_reducible rfl | exact ⟨rfl,rfl⟩) (h:=?_);refine WP.onlySkipE 6 (by simp only [qi];rfl) (by kernel_rfl) (by rfl) (zc (w:=w7.drew) (v:=.int .i64 (max Ki.sure (L7.synced:Int))) (n:=1) (by kernel_rfl) (by rfl) (by rfl) B4.out (by rfl) (by simp [Value.cells,Ks.cs]) (by simp [Value.cells,Value.oneCell'])) ?_;intro w8 s8;simp only [Nat.reduceAdd,qn];refine WP.done (by kernel_rfl) ?_
      have HI:Hid (PlI E W0 w l d O steps L X K b4 b6 b7 (k + 1) w8):=qq (by
       have hz:=H.out.k.size;have hg4:=G4.out;have hl:(Ki.all ++ [s.b]).length=n + 1:=by rw [List.length_append,HNA.out];rfl
       have hk8:Keeps (·=b4) w7 w8:=((Keeps.refl (·=b4) w7).drew).trans s8.k (fun _ _ e=>e);refine ⟨L7,X7,{ Ki with all:=Ki.all ++ [s.b],sure:=max Ki.sure (L7.synced:Int) },_,a3,c3,H7'.out.set hk8 (fun k e=>by have e:k=b4:=e;subst e;exact ⟨HSUB.out _ (.inr (.inl rfl)),by omega⟩),HSUB.out,?_,?_,?_,?_,fun L' Y Ka Kb h=>H7.out _ _ _ _ (by rw [HDR.out];exact .inr (.inl ⟨HBD.out,HKD.out,er,L7,X7,HR7.out,h⟩)),HPB.out,(by show (Ki.all ++ [s.b]).length <= _;rw [hl];have:=HA8.out;rw [HNA.out] at this;omega),KW7.out.trans hk8 (fun j hj e=>by have e:j=b4:=e;subst e;exact ⟨by omega,fun f=>by have:=H.out.lt f;omega⟩)⟩
       ·show w8.heap[b4]?=some (.cells (Ks.cs _ (.slice a3 (Ki.all ++ [s.b]).length c3)) 53 (0,0));rw [hl];exact s8.blk
       ·obtain ⟨z,h1,h2⟩:=B6.out;exact ⟨z,hk8.at h1 (fun e=>by have e:b6=b4:=e;omega),h2⟩
       ·obtain ⟨z,h1,h2⟩:=B7.out;exact ⟨z,hk8.at h1 (fun e=>by have e:b7=b4:=e;omega),h2⟩
       ·
        show RB w8 _ (.slice a3 (Ki.all ++ [s.b]).length c3) (Ki.all ++ [s.b]);rw [hl];refine RB7.out.keeps hk8 (fun k e f=>?_);have f:k=b4:=f;subst f;rcases e with e | e
        ·omega
        ·exact e.2.1 rfl)
      clear s8 HS SQ;go_wp2;go_roundw
      case rel=>exact ⟨k + 1,by omega,by go_num,HI.out⟩
      case measure=>simp [intOf];omega
     ·
      rintro _ x1 ⟨g8,rfl,n8⟩;have K_x1:Hid (Keeps Nb wr x1):=qq (K_x0.out.trans_nb n8.k);have HH8:Hid (Has x1 (some ⟨g8,0,none⟩) [.slice ba bn bc]):=qq (zm n8.blk);clear n8;replace HS:Hid ((fun u:World=>u.heap[b4]?=some (.cells (Ki.cs (.slice a n c)) 53 (0,0)) /\ u.cell? ⟨sb,so + k * 6 + 4,none⟩=some (.slice ba bn bc)) x1):=qq ⟨K_x1.out.nb H3'.out,HCELLS.out _ K_x1.out⟩;refine ⟨HS.out,?_⟩;simp only [Nat.reduceAdd,qn];refine WT.o 2 (y:=re_push' el27 (RowS.nil x1 (fun _=>False) (fun _=>False) 22 1) (by rfl) (by rfl) (HG3.out.nb K_x1.out) HVL.out HONE.out (by unfold maxLen;omega) (by omega)) (h:=?_);rintro v2 x2 ⟨hr2,S2,k2,hS2⟩;have k12:Keeps Nb x1 x2:=k2.mono fun j _ e=>(hS2 j e).1.elim;have K_x2:Hid (Keeps Nb wr x2):=qq (K_x1.out.trans_nb k12)
      have HR2:Hid (RowS x2 (fun k=>wr.heap.size <= k /\ k < x2.heap.size) (fun _=>False) 22 1 v2 n vs):=qq (by
       have z:=K_x1.out.size;have:=hr2.mono (F':=fun k=>wr.heap.size <= k /\ k < x2.heap.size) (fun k e=>e.elim (fun e=>e.elim) (fun e=>⟨by omega,e.2⟩)) (fun _ e=>e)
       rw [Nat.zero_add,List.nil_append] at this;exact this)
      replace HH8:=qq (HH8.out.nb k12);clear hr2 k2 hS2 k12;replace HS:Hid ((fun u:World=>u.heap[b4]?=some (.cells (Ki.cs (.slice a n c)) 53 (0,0)) /\ u.cell? ⟨sb,so + k * 6 + 4,none⟩=some (.slice ba bn bc)) x2):=qq ⟨K_x2.out.nb H3'.out,HCELLS.out _ K_x2.out⟩;refine ⟨HS.out,?_⟩;simp only [Nat.reduceAdd,qn];refine WT.o 9 (y:=re_push' el27 HR2.out (by rfl) (by rfl) HH8.out rfl (by intro u hu;rw [List.mem_singleton.1 hu];rfl) (by unfold maxLen;omega) (by omega)) (h:=?_);rintro v3 x3 ⟨hr3,S3,k3,hS3⟩;have K_x3:Hid (Keeps Nb wr x3):=qq (K_x2.out.trans k3 fun j hj e=>by have:=(hS3 j e).1.1;omega)
      have HR3:Hid (RowS x3 (fun k=>wr.heap.size <= k /\ k < x3.heap.size) (fun _=>False) 22 1 v3 (n + 1) (vs ++ [.slice ba bn bc])):=qq (by
       have z:=K_x2.out.size;have z3:=k3.size
       exact hr3.mono (fun k e=>e.elim (fun e=>⟨e.1,by have:=e.2;omega⟩) (fun e=>⟨by omega,e.2⟩)) (fun _ e=>e))
      obtain ⟨-,-,a3,c3,rfl,-⟩:=id hr3;clear hr3 k3 hS3 HR2 HH8;replace HS:Hid ((fun u:World=>u.heap[b4]?=some (.cells (Ki.cs (.slice a n c)) 53 (0,0)) /\ u.cell? ⟨sb,so + k * 6 + 4,none⟩=some (.slice ba bn bc)) x3):=qq ⟨K_x3.out.nb H3'.out,HCELLS.out _ K_x3.out⟩;refine ⟨HS.out,?_⟩;simp only [Nat.reduceAdd,qn];refine WT.stop (by kernel_rfl) ?_;refine WP.o 10 (v:=_) (y:=by go_simp;first | with_reducible rfl | exact ⟨rfl,rfl⟩) (h:=?_);refine WP.onlySkipE 11 (by simp only [qi];rfl) (by kernel_rfl) (by rfl) (zc (v:=.slice a3 (n + 1) c3) (n:=1) (by kernel_rfl) (by rfl) (by rfl) (K_x3.out.nb H3'.out) (by rfl) (by simp [Value.cells,Ks.cs]) (by simp [Value.cells,Value.oneCell'])) ?_;intro x4 s4;simp only [Nat.reduceAdd,qn];refine WP.done (by kernel_rfl) ?_;have hz:=H.out.k.size;have hg4:=G4.out;have hb4r:b4 < wr.heap.size:=H1.out.lt (H2.out b4 (.inr (.inl rfl)));have HL4:Hid (LS W0 x4 l d Li Xi fun k=>O1 k \/ (wr.heap.size <= k /\ k < x3.heap.size)):=qq ((H1.out.add K_x3.out (N:=fun k=>wr.heap.size <= k /\ k < x3.heap.size) (fun k e=>e)).set s4.k (fun k e=>by have e:k=b4:=e;subst e;exact ⟨.inl (H2.out _ (.inr (.inl rfl))),by omega⟩));have B44:Hid (x4.heap[b4]?=some (.cells (Ks.cs { Ki with all:=Ki.all ++ [s.b] } (.slice a3 (n + 1) c3)) 53 (0,0))):=qq s4.blk;have K4:Hid (Keeps (·=b4) wr x4):=qq (K_x3.out.of_nb.trans s4.k (fun _ _ e=>e))
      have RB4:Hid (RB x4 (OwnK E W0 (fun k=>O1 k \/ (wr.heap.size <= k /\ k < x3.heap.size)) b4 b6 b7) (.slice a3 (n + 1) c3) (Ki.all ++ [s.b])):=qq (by
       have hl:(Ki.all ++ [s.b]).length=n + 1:=by rw [List.length_append,HNA.out];rfl
       have h6:=H1.out.lt (H2.out b6 (.inr (.inr (.inl rfl))));have h7:=H1.out.lt (H2.out b7 (.inr (.inr (.inr rfl))));have h1:RB x3 (OwnK E W0 (fun k=>O1 k \/ (wr.heap.size <= k /\ k < x3.heap.size)) b4 b6 b7) (.slice a3 (n + 1) c3) (Ki.all ++ [s.b]):=by
        refine RB.of (vs:=vs ++ [.slice ba bn bc]) (by rw [hl];exact HR3.out) (((HG5.out.keeps K_x3.out (fun _ _ e=>e)).mono fun k e=>e.imp id fun e=>⟨.inl e.1,e.2⟩).append (.cons ?_ (.nil _ _))) (fun k e=>.inr ⟨.inr e,by omega,by omega,by omega,fun f=>by have:=HE.out k f;have:=H9.out.size;omega⟩) (fun _ e=>e);rw [<- HBN.out];exact (HVB.out.keeps (H1.out.k.trans_nb K_x3.out) (fun _ _ e=>e)).mono (fun k e=>.inl e)
       refine h1.keeps s4.k (fun k e f=>?_);have f:k=b4:=f;subst f;rcases e with e | e
       ·omega
       ·exact e.2.1 rfl)
      have c4:x4.cell? ⟨sb,so + k * 6 + 4,none⟩=some (.slice ba bn bc):=by rw [<- HBN.out];exact CS.out 4 _ rfl x4 HL4.out.k
      have hp0:=HO.out;have hp8:=H8.out;have AP:=qq (z13 HL4.out (v:=.slice ba bn bc) (bs:=s.b) (by rw [<- HBN.out];exact (HVB.out.keeps HL4.out.k (fun _ _ e=>e)).mono (fun k e=>.inl e)) (by have h1:=hp0.pot;have h2:=hp8.pot;rw [HM.out] at h1;omega) (by have h1:=hp0.segs;have h2:=hp8.segs;rw [HM.out] at h1;omega) (by have h1:=hp0.recs;have h2:=hp8.recs;rw [HM.out] at h1;omega) (by have h1:=hp0.size;have h2:=hp8.size;have h3:=HWG.out;have h4:=HTK.out;rw [HM.out] at h1;omega));clear s4 HS hp0 hp8 hz hg4 hb4r;go_wp2_with fail;refine AP.out.mono ?_;rintro _ w7 ⟨er,L7,X7,rfl,hl7,hr7,hp7,hk7⟩;have H7':=qq hl7;have HR7:=qq hr7
      have HPB:Hid (PB L X (k + 1) ((steps.take (k + 1)).map wgt).sum L7 X7):=qq (by
       obtain ⟨p1,p2,p3,p4⟩:=H8.out.app hr7 hp7;rw [HTK.out];have hw:wgt s=s.b.length + s.name.size + s.picks.length:=rfl
       exact ⟨p1,p2,p3,by omega⟩)
      have B4:=qq (Oth.at hk7 B44.out (.inl (H2.out b4 (.inr (.inl rfl)))));have B6:Hid (∃ z6,w7.heap[b6]?=some (.cells z6 53 (0,0)) /\ z6.size=4):=qq (by obtain ⟨z,h1,h2⟩:=H4.out;exact ⟨z,Oth.at hk7 (K4.out.at h1 (fun e=>by omega)) (.inl (H2.out b6 (.inr (.inr (.inl rfl))))),h2⟩);have B7:Hid (∃ z7,w7.heap[b7]?=some (.cells z7 53 (0,0)) /\ z7.size=4):=qq (by obtain ⟨z,h1,h2⟩:=H5.out;exact ⟨z,Oth.at hk7 (K4.out.at h1 (fun e=>by omega)) (.inl (H2.out b7 (.inr (.inr (.inr rfl))))),h2⟩);have RB7:=qq (RB4.out.keeps hk7 (z4e hk7));have KW7:Hid (Keeps (Oth W0 O) w w7):=qq ((H9.out.trans K4.out (fun j hj e=>by have e:j=b4:=e;subst e;have:=H.out.k.size;have:=G4.out;exact ⟨by omega,fun f=>by have:=H.out.lt f;omega⟩)).trans hk7 (fun j hj e=>⟨e.1,fun f=>e.2 (.inl (H2.out j (.inl f)))⟩));have HSUB:Hid (∀ k,O k \/ k=b4 \/ k=b6 \/ k=b7 -> O1 k \/ (wr.heap.size <= k /\ k < x3.heap.size)):=qq fun k e=>.inl (H2.out k e);clear hl7 hr7 hp7 hk7 AP c4 B44;go_wp2;refine WT.region (fun u=>u.heap[b4]?=some (.cells (Ks.cs { Ki with all:=Ki.all ++ [s.b] } (.slice a3 (n + 1) c3)) 53 (0,0))) 5 7 [0,1,2,3,4,5,6] (by kernel_rfl) rfl ?_;have HS:Hid ((fun u:World=>u.heap[b4]?=some (.cells (Ks.cs { Ki with all:=Ki.all ++ [s.b] } (.slice a3 (n + 1) c3)) 53 (0,0))) w7.drew):=qq B4.out;have SQ:=qq (z82 (H7'.out.nb (Keeps.refl Nb w7).drew));refine WT.t 0 (v:=_) (y:=by rintro w C1;go_simp;with_reducible rfl) (s:=HS.out) (h:=?_);refine WT.t 1 (v:=.int .i64 Ki.sure) (y:=by rintro w C1;exact zb (by kernel_rfl) (by rfl) ((cell_of_block C1).trans rfl)) (s:=HS.out) (h:=?_);refine WT.t 2 (v:=_) (y:=by rintro w C1;go_simp;with_reducible rfl) (s:=HS.out) (h:=?_);refine WT.call 3 (by simp only [qi];rfl) (by kernel_rfl) (by rfl) (by go_simp;first | done | rfl | exact ⟨⟨rfl,rfl⟩,rfl⟩ | exact ⟨⟨rfl,rfl,rfl⟩,rfl⟩ | exact ⟨⟨rfl,rfl,rfl,rfl⟩,rfl⟩ | exact ⟨⟨rfl,rfl,rfl,rfl,rfl⟩,rfl⟩) SQ.out ?_;rintro _ _ ⟨rfl,rfl⟩;refine ⟨_,rfl,HS.out,?_⟩;simp only [Nat.reduceAdd,qn];refine WT.t 4 (v:=.int .i64 (max Ki.sure (L7.synced:Int))) (y:=by rintro w C1;go_simp;first | done | rfl | with_reducible rfl) (s:=HS.out) (h:=?_);refine WT.stop (by kernel_rfl) ?_;refine WP.o 5 (v:=_) (y:=by go_simp;first | with_reducible rfl | exact ⟨rfl,rfl⟩) (h:=?_);refine WP.onlySkipE 6 (by simp only [qi];rfl) (by kernel_rfl) (by rfl) (zc (w:=w7.drew) (v:=.int .i64 (max Ki.sure (L7.synced:Int))) (n:=1) (by kernel_rfl) (by rfl) (by rfl) B4.out (by rfl) (by simp [Value.cells,Ks.cs]) (by simp [Value.cells,Value.oneCell'])) ?_;intro w8 s8;simp only [Nat.reduceAdd,qn];refine WP.done (by kernel_rfl) ?_
      have HI:Hid (PlI E W0 w l d O steps L X K b4 b6 b7 (k + 1) w8):=qq (by
       have hz:=H.out.k.size;have hg4:=G4.out;have hl:(Ki.all ++ [s.b]).length=n + 1:=by rw [List.length_append,HNA.out];rfl
       have hk8:Keeps (·=b4) w7 w8:=((Keeps.refl (·=b4) w7).drew).trans s8.k (fun _ _ e=>e);refine ⟨L7,X7,{ Ki with all:=Ki.all ++ [s.b],sure:=max Ki.sure (L7.synced:Int) },_,a3,c3,H7'.out.set hk8 (fun k e=>by have e:k=b4:=e;subst e;exact ⟨HSUB.out _ (.inr (.inl rfl)),by omega⟩),HSUB.out,?_,?_,?_,?_,fun L' Y Ka Kb h=>H7.out _ _ _ _ (by rw [HDR.out];exact .inr (.inl ⟨HBD.out,HKD.out,er,L7,X7,HR7.out,h⟩)),HPB.out,(by show (Ki.all ++ [s.b]).length <= _;rw [hl];have:=HA8.out;rw [HNA.out] at this;omega),KW7.out.trans hk8 (fun j hj e=>by have e:j=b4:=e;subst e;exact ⟨by omega,fun f=>by have:=H.out.lt f;omega⟩)⟩
       ·show w8.heap[b4]?=some (.cells (Ks.cs _ (.slice a3 (Ki.all ++ [s.b]).length c3)) 53 (0,0));rw [hl];exact s8.blk
       ·obtain ⟨z,h1,h2⟩:=B6.out;exact ⟨z,hk8.at h1 (fun e=>by have e:b6=b4:=e;omega),h2⟩
       ·obtain ⟨z,h1,h2⟩:=B7.out;exact ⟨z,hk8.at h1 (fun e=>by have e:b7=b4:=e;omega),h2⟩
       ·
        show RB w8 _ (.slice a3 (Ki.all ++ [s.b]).length c3) (Ki.all ++ [s.b]);rw [hl];refine RB7.out.keeps hk8 (fun k e f=>?_);have f:k=b4:=f;subst f;rcases e with e | e
        ·omega
        ·exact e.2.1 rfl)
      clear s8 HS SQ;go_wp2;go_roundw
      case rel=>exact ⟨k + 1,by omega,by go_num,HI.out⟩
      case measure=>simp [intOf];omega
    ·
     by_cases hk2:kd=2
     ·
      subst hk2;have hp8:=H8.out.pot;have hp0:=HO.out.pot;have SY:=qq (z2z H1.out (by rw [HM.out] at hp0;omega));clear hp8 hp0 hk1;go_wp2_with fail;refine SY.out.mono ?_;rintro _ w5 ⟨er,L5,X5,rfl,hl5,hr5,hp5,hk5⟩;have H5':=qq hl5;have B4:=qq (Oth.at hk5 H3.out (H2.out b4 (.inr (.inl rfl))));have B6:Hid (∃ z6,w5.heap[b6]?=some (.cells z6 53 (0,0)) /\ z6.size=4):=qq (by obtain ⟨z,h1,h2⟩:=H4.out;exact ⟨z,Oth.at hk5 h1 (H2.out b6 (.inr (.inr (.inl rfl)))),h2⟩);have B7:Hid (∃ z7,w5.heap[b7]?=some (.cells z7 53 (0,0)) /\ z7.size=4):=qq (by obtain ⟨z,h1,h2⟩:=H5.out;exact ⟨z,Oth.at hk5 h1 (H2.out b7 (.inr (.inr (.inr rfl)))),h2⟩);have RB5:=qq (H6.out.keeps hk5 (z4e hk5));have KW5:Hid (Keeps (Oth W0 O) w w5):=qq (H9.out.trans hk5 (fun j hj e=>⟨e.1,fun f=>e.2 (H2.out j (.inl f))⟩));clear hl5 hk5;have HPB:Hid (PB L X (k + 1) ((steps.take (k + 1)).map wgt).sum L5 X5):=qq (by rw [HTK.out];exact H8.out.syn hr5 hp5 _);have HR5:=qq hr5;clear hr5 hp5 SY;go_wp2_with fail;refine (z07 er w5).mono ?_;rintro _ _ ⟨rfl,rfl⟩;by_cases her:er=0
      ·
       subst her;have c2:w5.cell? ⟨b4,2,none⟩=some (.slice a Ki.all.length c):=(cell_of_block B4.out).trans rfl;go_wp2_with (first | go_skip | (with_reducible refine qv (by decide) ?_))
       refine za (zd rfl (zc (v:=.int .i64 (Ki.all.length:Nat)) (n:=1) (by kernel_rfl) (by rfl) (by rfl) B4.out (by rfl) (by simp [Value.cells,Ks.cs]) (by simp [Value.cells,Value.oneCell'])) ?_);intro w6 s6;simp only [Nat.reduceAdd,qn]
       have HN:Hid (LS W0 w6 l d L5 X5 O1 /\ w6.heap[b4]?=some (.cells (Ks.cs { Ki with sure:=(Ki.all.length:Int) } (.slice a Ki.all.length c)) 53 (0,0)) /\ (∃ z6,w6.heap[b6]?=some (.cells z6 53 (0,0)) /\ z6.size=4) /\ (∃ z7,w6.heap[b7]?=some (.cells z7 53 (0,0)) /\ z7.size=4) /\ RB w6 (OwnK E W0 O1 b4 b6 b7) (.slice a Ki.all.length c) (Ks.all { Ki with sure:=(Ki.all.length:Int) }) /\ Keeps (Oth W0 O) w w6):=qq (by
        have hz:=H.out.k.size;have hg4:=G4.out;refine ⟨H5'.out.set s6.k (fun k e=>by have e:k=b4:=e;subst e;exact ⟨H2.out _ (.inr (.inl rfl)),by omega⟩),s6.blk,?_,?_,RB5.out.keeps s6.k (fun k e f=>?_),KW5.out.trans s6.k (fun j hj e=>by have e:j=b4:=e;subst e;exact ⟨by omega,fun f=>by have:=H.out.lt f;omega⟩)⟩
        ·obtain ⟨z,h1,h2⟩:=B6.out;exact ⟨z,s6.k.at h1 (fun e=>by have e:b6=b4:=e;omega),h2⟩
        ·obtain ⟨z,h1,h2⟩:=B7.out;exact ⟨z,s6.k.at h1 (fun e=>by have e:b7=b4:=e;omega),h2⟩
        ·
         have f:k=b4:=f;subst f;rcases e with e | e
         ·omega
         ·exact e.2.1 rfl)
       have HI:Hid (PlI E W0 w l d O steps L X K b4 b6 b7 (k + 1) w6):=qq ⟨L5,X5,{ Ki with sure:=(Ki.all.length:Int) },O1,a,c,HN.out.1,H2.out,HN.out.2.1,HN.out.2.2.1,HN.out.2.2.2.1,HN.out.2.2.2.2.1,fun L' Y Ka Kb h=>H7.out _ _ _ _ (by rw [HDR.out];exact .inr (.inr (.inl ⟨HBD.out,HKD.out,0,L5,X5,HR5.out,by rw [if_pos rfl];exact h⟩))),HPB.out,(by have:=HA8.out;show Ki.all.length <= _;omega),HN.out.2.2.2.2.2⟩;clear s6 c2;go_wp2;go_roundw
       case rel=>exact ⟨k + 1,by omega,by go_num,HI.out⟩
       case measure=>simp [intOf];omega
      ·
       have t0:(er == 0)=false:=by simpa using her
       have HI:Hid (PlI E W0 w l d O steps L X K b4 b6 b7 (k + 1) w5):=qq ⟨L5,X5,Ki,O1,a,c,H5'.out,H2.out,B4.out,B6.out,B7.out,RB5.out,fun L' Y Ka Kb h=>H7.out _ _ _ _ (by rw [HDR.out];exact .inr (.inr (.inl ⟨HBD.out,HKD.out,er,L5,X5,HR5.out,by rw [if_neg her];exact h⟩))),HPB.out,(by have:=HA8.out;omega),KW5.out⟩;clear her;go_wp2;go_roundw
       case rel=>exact ⟨k + 1,by omega,by go_num,HI.out⟩
       case measure=>simp [intOf];omega
     ·
      by_cases hk3:kd=3
      ·
       subst hk3;have n1:((3:Int) == 1)=false:=rfl;have c4:wr.cell? ⟨sb,so + k * 6 + 4,none⟩=some (.slice ba s.b.length bc):=CS.out 4 _ rfl wr H1.out.k;have HB53:=qq hb53;obtain ⟨bn,hbn⟩:∃ n,s.b.length=n:=⟨_,rfl⟩
       obtain ⟨bl,hbl⟩:∃ x,bstr s.b=x:=⟨_,rfl⟩
       have HBN:=qq hbn;have HBL:=qq hbl;rw [hbn] at c4
       have HH4:Hid (Has wr ba (s.b.map fun z=>.int .u8 (z:Nat))):=qq (by
        obtain ⟨a',c',e,_,_,hr,_⟩:=HVB.out
        cases e;exact (hr.nb H1.out.k).has)
       clear hbn hbl hk1 hk2;have b53:=hb53;go_wp2_with (first | go_skip | (with_reducible refine zr (s:=22) ?_))
       refine za (zt (v:=.string bl) rfl (by rw [<- HBL.out];exact z3g Tryz.underlying22 Tryz.underlying5 Tryz.underlying9 (by rfl) HH4.out HBN.out) ?_);simp only [Nat.reduceAdd,qn];go_wp2_with (first | go_skip | (with_reducible refine qv (by decide) ?_))
       refine za (valloc (z:=.agg #[.string ByteArray.empty,.bool false,.slice none 0 0,.int .i64 0]) (by kernel_rfl) ?_);intro b9 w5 n5;simp only [Nat.reduceAdd,qn];go_wp2_with (first | go_skip | (with_reducible refine qv (by decide) ?_))
       refine za (zd rfl (zc (v:=.agg #[.string bl,.bool true,.slice none 0 0,.int .i64 0]) (n:=4) (by kernel_rfl) (by rfl) (by rfl) n5.blk (by rfl) (by simp [Value.cells]) (by simp [Value.cells,Value.oneCell'])) ?_);intro w6 s6;simp only [Nat.reduceAdd,qn];have hn9:wr.heap.size <= b9:=n5.ge;have hk6:Keeps Nb wr w6:=n5.k.own (k:=b9) hn9 s6.k;have h9lt:b9 < w6.heap.size:=lt_of_block s6.blk;have HL6:=qq (H1.out.add (N:=fun k=>k=b9) hk6 (fun k e=>by omega))
       have C9:Hid (w6.heap[b9]?=some (.cells (Ks.cs (turnedK s.b) (.slice none 0 0)) 53 (0,0))):=qq (by
        have h1:=s6.blk;rw [show splice (Value.agg #[.string ByteArray.empty,.bool false,.slice none 0 0,.int .i64 0]).cells (Value.agg #[.string bl,.bool true,.slice none 0 0,.int .i64 0]).cells 0=#[.string bl,.bool true,.slice none 0 0,.int .i64 0] from rfl] at h1
        rw [h1,<- HBL.out];rfl)
       have K6:=qq hk6;have hp0:=HO.out.pot;have hp8:=H8.out.pot;have c46:w6.cell? ⟨sb,so + k * 6 + 4,none⟩=some (.slice ba bn bc):=(hk6.cell (lt_of_cell c4) (fun e=>e)).trans c4;have hvb6:Bytes w6 (Own W0 fun k=>O1 k \/ k=b9) (.slice ba bn bc) s.b:=by rw [<- HBN.out];exact (HVB.out.keeps HL6.out.k (fun _ _ e=>e)).mono (fun k e=>.inl e)
       have TN:=qq (z7e HL6.out hvb6 (by rw [HM.out] at hp0;omega));have HG9:=qq hn9;clear n5 s6 hk6 hn9 h9lt hp0 hp8 c4 hvb6 b53;go_wp2_with fail;refine TN.out.mono ?_;rintro _ w7 ⟨er,L7,X7,rfl,hl7,hr7,hp7,hk7⟩;have HL7:=qq hl7;have HR7:=qq hr7;have HK7:=qq hk7;have HPB:Hid (PB L X (k + 1) ((steps.take (k + 1)).map wgt).sum L7 X7):=qq (by rw [HTK.out];exact H8.out.turn hr7 hp7 _);have B4:=qq (Oth.at hk7 (K6.out.nb H3.out) (.inl (H2.out b4 (.inr (.inl rfl)))));have B6:Hid (∃ z6,w7.heap[b6]?=some (.cells z6 53 (0,0)) /\ z6.size=4):=qq (by obtain ⟨z,h1,h2⟩:=H4.out;exact ⟨z,Oth.at hk7 (K6.out.nb h1) (.inl (H2.out b6 (.inr (.inr (.inl rfl))))),h2⟩);have B7:Hid (∃ z7,w7.heap[b7]?=some (.cells z7 53 (0,0)) /\ z7.size=4):=qq (by obtain ⟨z,h1,h2⟩:=H5.out;exact ⟨z,Oth.at hk7 (K6.out.nb h1) (.inl (H2.out b7 (.inr (.inr (.inr rfl))))),h2⟩);have B9:=qq (Oth.at hk7 C9.out (.inr rfl));have hb9n:b9 ≠ b4 /\ b9 ≠ b6 /\ b9 ≠ b7:=by
        have:=HG9.out;have h4:=H1.out.lt (H2.out b4 (.inr (.inl rfl)));have h6:=H1.out.lt (H2.out b6 (.inr (.inr (.inl rfl))));have h7:=H1.out.lt (H2.out b7 (.inr (.inr (.inr rfl))));omega
       have RB7:Hid (RB w7 (OwnK E W0 (fun k=>O1 k \/ k=b9) b4 b6 b7) (.slice a Ki.all.length c) Ki.all):=qq (((H6.out.keeps K6.out (fun _ _ e=>e)).mono (fun k e=>e.imp id fun e=>⟨.inl e.1,e.2⟩)).keeps hk7 (z4e hk7));have RBT:Hid (RB w7 (OwnK E W0 (fun k=>O1 k \/ k=b9) b4 b6 b7) (.slice none 0 0) []):=qq ⟨none,0,[],rfl,Nat.le_refl _,Nat.zero_le _,.inl rfl,(fun _ _ e=>by cases e),.nil _ _⟩;have KW7:Hid (Keeps (Oth W0 O) w w7):=qq ((H9.out.trans_nb K6.out).trans hk7 (fun j hj e=>⟨e.1,fun f=>e.2 (.inl (H2.out j (.inl f)))⟩));have HSUB:Hid (∀ k,O k \/ k=b4 \/ k=b6 \/ k=b7 -> O1 k \/ k=b9):=qq fun k e=>.inl (H2.out k e);clear hl7 hr7 hp7 hk7 TN c46;go_wp2_with fail;refine (z07 er w7).mono ?_;rintro _ _ ⟨rfl,rfl⟩;by_cases her:er=0
       ·
        subst her;have t0:((0:Int) != 0)=false:=rfl;go_wp2_with (first | go_skip | (with_reducible refine z3q (t:=53) ?_) | (with_reducible refine zf ?_))
        refine za (zt (v:=.agg (Ks.cs (turnedK s.b) (.slice none 0 0))) rfl (z0c agg53 (by rfl) (zm B9.out) rfl) ?_);simp only [Nat.reduceAdd,qn];go_wp2_with (first | go_skip | (with_reducible refine z3q (t:=53) ?_) | (with_reducible refine zf ?_))
        refine za (zd rfl (zc (v:=.agg (Ks.cs (turnedK s.b) (.slice none 0 0))) (n:=4) (by kernel_rfl) (by rfl) (by rfl) B4.out (by rfl) (by simp [Ks.cs]) (Ks.one _)) ?_);intro w8 s8;simp only [Nat.reduceAdd,qn]
        have HI:Hid (PlI E W0 w l d O steps L X K b4 b6 b7 (k + 1) w8):=qq (by
         have hz:=H.out.k.size;have hg4:=G4.out;refine ⟨L7,X7,turnedK s.b,_,none,0,HL7.out.set s8.k (fun k e=>by have e:k=b4:=e;subst e;exact ⟨HSUB.out _ (.inr (.inl rfl)),by omega⟩),HSUB.out,?_,?_,?_,RBT.out.keeps s8.k (fun k e f=>?_),fun L' Y Ka Kb h=>H7.out _ _ _ _ (by rw [HDR.out];exact .inr (.inr (.inr (.inl ⟨HBD.out,HKD.out,0,L7,X7,HR7.out,.inr ⟨rfl,h⟩⟩)))),HPB.out,Nat.zero_le _,KW7.out.trans s8.k (fun j hj e=>by have e:j=b4:=e;subst e;exact ⟨by omega,fun f=>by have:=H.out.lt f;omega⟩)⟩
         ·have:=s8.blk;rw [show splice (Ki.cs (.slice a Ki.all.length c)) (Value.agg (Ks.cs (turnedK s.b) (.slice none 0 0))).cells 0=Ks.cs (turnedK s.b) (.slice none 0 0) from z06 rfl] at this;exact this
         ·obtain ⟨z,h1,h2⟩:=B6.out;exact ⟨z,s8.k.at h1 (fun e=>by have e:b6=b4:=e;omega),h2⟩
         ·obtain ⟨z,h1,h2⟩:=B7.out;exact ⟨z,s8.k.at h1 (fun e=>by have e:b7=b4:=e;omega),h2⟩
         ·
          have f:k=b4:=f;subst f;rcases e with e | e
          ·omega
          ·exact e.2.1 rfl)
        clear s8;go_wp2;go_roundw
        case rel=>exact ⟨k + 1,by omega,by go_num,HI.out⟩
        case measure=>simp [intOf];omega
       ·
        have t0:(er != 0)=true:=by simpa using her
        have HER:=qq her;clear her;go_wp2;obtain ⟨z6,hz6,hs6⟩:=B6.out;obtain ⟨z7,hz7,hs7⟩:=B7.out;have HZ6:=qq hz6;have HZ7:=qq hz7;have HS6:=qq hs6;have HS7:=qq hs7;clear hz6 hz7 hs6 hs7;refine WT.region (fun u=>u.heap[b4]?=some (.cells (Ki.cs (.slice a Ki.all.length c)) 53 (0,0)) /\ u.heap[b9]?=some (.cells (Ks.cs (turnedK s.b) (.slice none 0 0)) 53 (0,0))) 3 4 [0,1,2,3] (by kernel_rfl) rfl ?_;have HS:Hid ((fun u:World=>u.heap[b4]?=some (.cells (Ki.cs (.slice a Ki.all.length c)) 53 (0,0)) /\ u.heap[b9]?=some (.cells (Ks.cs (turnedK s.b) (.slice none 0 0)) 53 (0,0))) w7.drew):=qq ⟨B4.out,B9.out⟩;refine WT.t 0 (v:=.agg (Ki.cs (.slice a Ki.all.length c))) (y:=by rintro w ⟨C1,C2⟩;exact z0c agg53 (by rfl) (zm C1) rfl) (s:=HS.out) (h:=?_);refine WT.t 1 (v:=.agg (Ks.cs (turnedK s.b) (.slice none 0 0))) (y:=by rintro w ⟨C1,C2⟩;exact z0c agg53 (by rfl) (zm C2) rfl) (s:=HS.out) (h:=?_);refine WT.onlySkipE 2 (by simp only [qi];rfl) (by kernel_rfl) (by rfl) (zc (w:=w7.drew) (v:=.agg (Ki.cs (.slice a Ki.all.length c))) (n:=4) (by kernel_rfl) (by rfl) (by rfl) HZ6.out (by rfl) (by rw [HS6.out];exact Nat.le_refl _) (Ki.one)) ?_;intro wa s6;replace HS:Hid ((fun u:World=>u.heap[b4]?=some (.cells (Ki.cs (.slice a Ki.all.length c)) 53 (0,0)) /\ u.heap[b9]?=some (.cells (Ks.cs (turnedK s.b) (.slice none 0 0)) 53 (0,0))) wa):=qq ⟨s6.k.at (w:=w7.drew) B4.out (fun e=>by omega),s6.k.at (w:=w7.drew) B9.out (fun e=>hb9n.2.1 e)⟩;refine ⟨HS.out,?_⟩;simp only [Nat.reduceAdd,qn];refine WT.stop (by kernel_rfl) ?_;refine WP.onlySkipE 3 (by simp only [qi];rfl) (by kernel_rfl) (by rfl) (zc (v:=.agg (Ks.cs (turnedK s.b) (.slice none 0 0))) (n:=4) (by kernel_rfl) (by rfl) (by rfl) (s6.k.at (w:=w7.drew) HZ7.out (fun e=>by omega)) (by rfl) (by rw [HS7.out];exact Nat.le_refl _) (Ks.one _)) ?_;intro wb s7;simp only [Nat.reduceAdd,qn];refine WP.done (by kernel_rfl) ?_;have Z6:Hid (wb.heap[b6]?=some (.cells (Ki.cs (.slice a Ki.all.length c)) 53 (0,0))):=qq (s7.k.at (by have:=s6.blk;rw [show splice z6 (Value.agg (Ki.cs (.slice a Ki.all.length c))).cells 0=Ki.cs (.slice a Ki.all.length c) from z06 (by rw [HS6.out];rfl)] at this;exact this) (fun e=>by omega));have Z7:Hid (wb.heap[b7]?=some (.cells (Ks.cs (turnedK s.b) (.slice none 0 0)) 53 (0,0))):=qq (by have:=s7.blk;rw [show splice z7 (Value.agg (Ks.cs (turnedK s.b) (.slice none 0 0))).cells 0=Ks.cs (turnedK s.b) (.slice none 0 0) from z06 (by rw [HS7.out];rfl)] at this;exact this);have KD:Hid (Keeps (fun b=>b=b6 \/ b=b7) w7 wb):=qq ((((Keeps.refl (fun b=>b=b6 \/ b=b7) w7).drew).trans s6.k (fun _ _ e=>.inl e)).trans s7.k (fun _ _ e=>.inr e));clear s6 s7 HS;go_wp2;refine bodyPost_ret (z3t agg53 rfl _ rfl rfl Z6.out rfl Z7.out rfl) rfl ?_;have hz:=H.out.k.size;exact z5z (b4:=b4) (Kb:=turnedK s.b) HL7.out HSUB.out RB7.out RBT.out (H7.out _ _ _ _ (by rw [HDR.out];exact .inr (.inr (.inr (.inl ⟨HBD.out,HKD.out,er,L7,X7,HR7.out,.inl ⟨HER.out,rfl,rfl,rfl,rfl⟩⟩))))) HPB.out (by rw [HM.out];omega) HWG.out KW7.out KD.out (by have:=G4.out;exact ⟨fun e=>by have:=H.out.lt e;omega,fun e=>by have:=H.out.lt e;omega⟩) (by have:=G4.out;omega)
      ·
       have n1:(kd == 1)=false:=by simpa using hk1
       have n2:(kd == 2)=false:=by simpa using hk2
       have n3:(kd == 3)=false:=by simpa using hk3
       have HI:Hid (PlI E W0 w l d O steps L X K b4 b6 b7 (k + 1) wr):=qq ⟨Li,Xi,Ki,O1,a,c,H1.out,H2.out,H3.out,H4.out,H5.out,H6.out,fun L' Y Ka Kb h=>H7.out _ _ _ _ (by rw [HDR.out];exact .inr (.inr (.inr (.inr ⟨HBD.out,by rw [HKD.out];exact hk1,by rw [HKD.out];exact hk2,by rw [HKD.out];exact hk3,h⟩)))),by rw [HTK.out];exact H8.out.same _,(by have:=HA8.out;omega),H9.out⟩;clear hk1 hk2 hk3;go_wp2;go_roundw
       case rel=>exact ⟨k + 1,by omega,by go_num,HI.out⟩
       case measure=>simp [intOf];omega
  ·
   have hkm:k=m:=by omega
   subst hkm;go_wp2;obtain ⟨z6,hz6,hs6⟩:=H4.out;obtain ⟨z7,hz7,hs7⟩:=H5.out;have HZ6:=qq hz6;have HZ7:=qq hz7;have HS6:=qq hs6;have HS7:=qq hs7;clear hz6 hz7 hs6 hs7;refine WT.region (fun u=>u.heap[b4]?=some (.cells (Ki.cs (.slice a Ki.all.length c)) 53 (0,0))) 3 4 [0,1,2,3] (by kernel_rfl) rfl ?_;have HS:Hid ((fun u:World=>u.heap[b4]?=some (.cells (Ki.cs (.slice a Ki.all.length c)) 53 (0,0))) wr.drew):=qq H3.out;refine WT.t 0 (v:=(.agg (Ki.cs (.slice a Ki.all.length c)))) (y:=by rintro w C1;exact z0c agg53 (by rfl) (zm C1) rfl) (s:=HS.out) (h:=?_);refine WT.t 1 (v:=(.agg (Ki.cs (.slice a Ki.all.length c)))) (y:=by rintro w C1;exact z0c agg53 (by rfl) (zm C1) rfl) (s:=HS.out) (h:=?_);refine WT.onlySkipE 2 (by simp only [qi];rfl) (by kernel_rfl) (by rfl) (zc (w:=wr.drew) (v:=.agg (Ki.cs (.slice a Ki.all.length c))) (n:=4) (by kernel_rfl) (by rfl) (by rfl) HZ6.out (by rfl) (by rw [HS6.out];exact Nat.le_refl _) (Ki.one)) ?_;intro wa s6;replace HS:Hid ((fun u:World=>u.heap[b4]?=some (.cells (Ki.cs (.slice a Ki.all.length c)) 53 (0,0))) wa):=qq (s6.k.at (w:=wr.drew) H3.out (fun e=>by omega));refine ⟨HS.out,?_⟩;simp only [Nat.reduceAdd,qn];refine WT.stop (by kernel_rfl) ?_;refine WP.onlySkipE 3 (by simp only [qi];rfl) (by kernel_rfl) (by rfl) (zc (v:=.agg (Ki.cs (.slice a Ki.all.length c))) (n:=4) (by kernel_rfl) (by rfl) (by rfl) (s6.k.at (w:=wr.drew) HZ7.out (fun e=>by omega)) (by rfl) (by rw [HS7.out];exact Nat.le_refl _) (Ki.one)) ?_;intro wb s7;simp only [Nat.reduceAdd,qn];refine WP.done (by kernel_rfl) ?_;have Z6:Hid (wb.heap[b6]?=some (.cells (Ki.cs (.slice a Ki.all.length c)) 53 (0,0))):=qq (s7.k.at (by have:=s6.blk;rw [show splice z6 (Value.agg (Ki.cs (.slice a Ki.all.length c))).cells 0=Ki.cs (.slice a Ki.all.length c) from z06 (by rw [HS6.out];rfl)] at this;exact this) (fun e=>by omega));have Z7:Hid (wb.heap[b7]?=some (.cells (Ki.cs (.slice a Ki.all.length c)) 53 (0,0))):=qq (by have:=s7.blk;rw [show splice z7 (Value.agg (Ki.cs (.slice a Ki.all.length c))).cells 0=Ki.cs (.slice a Ki.all.length c) from z06 (by rw [HS7.out];rfl)] at this;exact this);have KD:Hid (Keeps (fun b=>b=b6 \/ b=b7) wr wb):=qq ((((Keeps.refl (fun b=>b=b6 \/ b=b7) wr).drew).trans s6.k (fun _ _ e=>.inl e)).trans s7.k (fun _ _ e=>.inr e));clear s6 s7 HS;go_wp2;refine bodyPost_ret (z3t agg53 rfl _ rfl rfl Z6.out rfl Z7.out rfl) rfl ?_;have hz:=H.out.k.size;exact z5z (b4:=b4) H1.out H2.out H6.out H6.out (H7.out _ _ _ _ (by rw [<- HM.out,List.drop_length];exact ⟨rfl,rfl,rfl,rfl⟩)) H8.out (by rw [HM.out];exact Nat.le_refl _) (by rw [<- HM.out,List.take_length];exact HF.out) H9.out KD.out (by have:=G4.out;exact ⟨fun e=>by have:=H.out.lt e;omega,fun e=>by have:=H.out.lt e;omega⟩) (by have:=G4.out;omega)
theorem zh4 {W0 w:World} {l d:Nat} {L:Lg} {X:Ds} {O:Nat -> Prop} (h:LS W0 w l d L X O) (K:Ks) (kv:Value) (hk:RB w (Own W0 O) kv K.all) (sa:Option Addr) (sc:Nat) (steps:List StepD) (hs:StepsAt W0 W0 sa steps.length sc steps) (hfew:(steps.map wgt).sum <= 20000) (hok:PlayOk L X steps.length) (hka:K.all.length + steps.length <= 3000000000000) :
  Calls Tryz.prog 28 #[.pointer (some ⟨l,0,none⟩),K.v kv,.slice sa steps.length sc] w (PlayD W0 w l d O steps L X K):=by
 refine (zf0 (E:=fun _=>False) h (fun _ e=>e.elim) K kv (hk.mono fun k e=>e.imp id fun e=>⟨e,id⟩) sa sc steps hs hfew hok hka).mono ?_;rintro e w' ⟨Ka,Kb,va,vb,L',Y,O',t,h1,h2,h3,h4,h5,h6⟩;exact ⟨Ka,Kb,va,vb,L',Y,O',t,h1,h2,h3,h4.mono fun k e=>e.imp id fun e=>e.1,h5.mono fun k e=>e.imp id fun e=>e.1,h6⟩
end Go.Proofs.YtpjomdmjohjheaaGreatDoor
end
section
namespace Go.Log
open Go.Vfs
open Go.Proofs.YtpjomdmjohjheaaGreatDoor (newD)
variable {nm:ByteArray} {X Y Z:Ds} {e:Int} {s t:ByteArray} {n k m q K:Nat} {x:List Nat} {g:Sh} {L L':Lg} {c:Int} {P:Sh -> Prop}
def sa:ByteArray:=⟨#[97]⟩
theorem z1w:mnB sa=true:=by decide
theorem z1v:sa.size <= 16:=by decide
theorem z4s {zs:List Int} {F:List (ByteArray × Nat)} {fc:Nat -> Fl} {j:Nat}:∀ {l:List ByteArray},(∀ s ∈ l,∀ b,flook F s=some b -> (fc b).b.length <= (fc b).lasts) -> l.foldl (tr1 zs F) (fc,j)=(fc,j)
 | [],_=>rfl
 | s :: l,h=>by
  rw [List.foldl_cons];have:tr1 zs F (fc,j) s=(fc,j):=by
   unfold tr1;cases hs:flook F s with
   | none=>rfl
   | some b=>simp only;rw [if_neg (by have:=h s (by simp) b hs;omega)]
  rw [this];exact z4s fun s' h'=>h s' (by simp [h'])
theorem zei {zs:List Int} {F:List (ByteArray × Nat)} {fc:Nat -> Fl} {t:ByteArray} {b0:Nat} {l:List ByteArray} (hl:l.Nodup) (ht:t ∈ l) (hb:flook F t=some b0) (hlo:(fc b0).lasts < (fc b0).b.length) (hf:∀ s ∈ l,s ≠ t -> ∀ b,flook F s=some b -> b ≠ b0 /\ (fc b).b.length <= (fc b).lasts) :
  (l.foldl (tr1 zs F) (fc,0)).1 b0=⟨(fc b0).b.take ((fc b0).lasts + pkn zs 0 % ((fc b0).b.length - (fc b0).lasts + 1)),(fc b0).lasts + pkn zs 0 % ((fc b0).b.length - (fc b0).lasts + 1)⟩:=by
 obtain ⟨a,d,rfl⟩:=List.append_of_mem ht;rw [List.nodup_append] at hl;obtain ⟨h1,h2,h3⟩:=hl;rw [List.nodup_cons] at h2;rw [List.foldl_append,z4s fun s hs b hsb=>(hf s (by simp [hs]) (h3 s hs t (by simp)) b hsb).2,List.foldl_cons,z68 hb,if_pos hlo];have key:∀ s ∈ d,∀ b,flook F s=some b -> (setf fc b0 ⟨(fc b0).b.take ((fc b0).lasts + pkn zs 0 % ((fc b0).b.length - (fc b0).lasts + 1)),(fc b0).lasts + pkn zs 0 % ((fc b0).b.length - (fc b0).lasts + 1)⟩ b).b.length <= (setf fc b0 ⟨(fc b0).b.take ((fc b0).lasts + pkn zs 0 % ((fc b0).b.length - (fc b0).lasts + 1)),(fc b0).lasts + pkn zs 0 % ((fc b0).b.length - (fc b0).lasts + 1)⟩ b).lasts:=fun s hs b hsb=>by
  have hne:s ≠ t:=fun e=>h2.1 (e ▸ hs);obtain ⟨h4,h5⟩:=hf s (by simp [hs]) hne b hsb;rw [z0k _ _ h4];exact h5
 rw [z4s key];exact z0j _ _ _
theorem zep {D':Dk} {fc':Nat -> Fl} {φ:Nat -> Option Nat} {l2:List (ByteArray × Nat)} {bs:List Bool} (h:In sa X (·=g)) (hst:X.D.steps=[]) (hla:X.D.lasting=X.D.files) (hk:(X.D.files.map Prod.fst).Nodup) (hnm:∀ t b,X.dir t=some b -> t=manf sa \/ t=sgf sa 1)
  (hm:g.m=1) (hr:g.rs=[[120],[121]]) (hq:g.q=18) (hlast:(X.fc g.b).lasts=9) (hc:CrashR [3] X.D X.fc D' fc' φ l2 bs) :
  ∃ v,In sa ⟨D',fc'⟩ (·=Sh.move g v 12):=by
 have hlk:(X.D.lasting.map Prod.fst).Nodup:=by rw [hla];exact hk
 obtain ⟨f,g',v,n,hRf,rfl,hsh,hin,hdir⟩:=z9p h hlk hc;have hfd:f=X.dir:=by
  obtain ⟨bs',rfl⟩:=hRf;rw [hst,z8m,hla];rfl
 subst hfd;obtain ⟨q',rfl,hs'⟩:=hin.live;have h1:=hs'.lastAt;have h2:=hs'.lastb;have hlq:g'.q=(X.fc g'.b).b.length:=by rw [hsh.lastb,List.length_take];have:=hsh.lastq;omega
 have hn18:n <= 18:=by
  have h3:n <= (enc g'.rs).length:=hs'.lastq;have h4:=hsh.lastq;have:(enc [[120],[121]]).length=18:=by simp [enc,zx]
  rw [hr] at h3;omega
 obtain ⟨nms,fc1,hp,hf1,hfc⟩:=hc.tr;rw [hst] at hfc;have hDf:D'.files.map Prod.fst=l2.map Prod.fst:=by
  rw [hc.eq];show ((replay bs X.D.steps l2).map (mv φ)).map Prod.fst=_;rw [hst,show replay bs [] l2=l2 by cases bs <;> rfl,List.map_map];rfl
 have hnd:nms.Nodup:=by
  refine hp.nodup_iff.2 ?_;rw [hDf];exact ((hc.p2.map Prod.fst).nodup_iff).2 hlk
 have hd1:flook D'.files (sgf sa 1)=some (v g'.b):=by rw [<- hm];exact h1
 have hmem:sgf sa 1 ∈ nms:=by
  refine hp.mem_iff.2 (List.mem_map.2 ⟨_,zq hd1,rfl⟩)
 have hv:∀ t b,X.dir t=some b -> fc1 (v b)=X.fc b:=fun t b hb=>by
  have hb2:(t,b) ∈ l2:=hc.p2.mem_iff.2 (by rw [hla];exact zq hb);have hR:Ref X.D b:=.inl ⟨_,zq hb,rfl⟩;obtain ⟨b',hb'⟩:=Option.ne_none_iff_exists'.1 (hc.all b hR);have h5:flook D'.files t=some ((φ b).getD 0):=by
   rw [hc.eq];show flook ((replay bs X.D.steps l2).map (mv φ)) t=_;rw [hst,show replay bs [] l2=l2 by cases bs <;> rfl,z4q,z6e hlk hc.p2,hla,show flook X.D.files t=some b from hb];rfl
  have h6:=hdir t;rw [show (⟨D',fc'⟩:Ds).dir t=flook D'.files t from rfl,h5,hb] at h6;have h7:v b=b':=by
   have:=Option.some.inj h6;rw [hb'] at this;exact this.symm
  rw [h7];exact hf1 b b' hb'
 have hcon:fc1 (v g'.b)=X.fc g'.b:=hv _ _ hsh.lastAt
 have hone:=zei (zs:=[3]) (F:=D'.files) (fc:=fc1) (t:=sgf sa 1) (b0:=v g'.b) hnd hmem hd1 (by rw [hcon,hlast,<- hlq,hq];decide) (fun s hs hne b hb=>by
  have h6:=hdir s;rw [show (⟨D',fc'⟩:Ds).dir s=flook D'.files s from rfl,hb] at h6;cases hx:X.dir s with
  | none=>rw [hx] at h6;cases h6
  | some b1 =>
   rw [hx] at h6;have e1:b=v b1:=by simpa using h6
   have e2:s=manf sa:=(hnm s b1 hx).resolve_right hne;have e3:b1=g'.bm:=by rw [e2,hsh.man] at hx;exact (Option.some.inj hx).symm
   have e4:(⟨D',fc'⟩:Ds).dir (manf sa)=some (v g'.bm):=hs'.man;refine ⟨?_,?_⟩
   ·rw [e1,e3];exact (hs'.apart.1).symm
   ·rw [e1,hv s b1 hx,e3,hsh.manc];exact Nat.le_refl _)
 have hz:(List.length ([]:List Stp))=0:=rfl;rw [hz] at hfc;rw [<- hfc,hcon,hlast,<- hlq,hq] at hone;have hfcb:(fc' (v g'.b)).b=(X.fc g'.b).b.take 12:=by rw [hone];rfl
 have hn12:n=12:=by
  have h3:(fc' (v g'.b)).b=(enc g'.rs).take n:=h2;have h4:=congrArg List.length (hfcb.symm.trans h3);rw [List.length_take,List.length_take,<- hlq,hq] at h4;have:(enc [[120],[121]]).length=18:=by simp [enc,zx]
  rw [hr,this] at h4;omega
 exact ⟨v,hn12 ▸ hin⟩
theorem zce (h:LI nm L X g) (hx:Recs [x]) (hsz:L.size + (8 + x.length) <= L.most) (hr:appR L x X 0 L' Y):L'={ L with recs:=L.recs ++ [x],size:=L.size + (8 + x.length) } /\ Sm X Y /\ LI nm L' Y { g with rs:=g.rs ++ [x],q:=g.q + (8 + x.length) } /\ (Y.fc g.b).lasts=(X.fc g.b).lasts:=by
 have hxl:x.length <= mxr:=(hx x (by simp)).1;rcases hr with ⟨h0,-⟩ | ⟨-,e1,Z,h1,h2⟩
 ·exact absurd (h.may hxl) h0
 rcases h2 with ⟨g1,g2,-⟩ | ⟨rfl,-,-,rfl,rfl⟩ | ⟨-,g1,-⟩
 ·exact absurd g2.symm g1
 ·
  rw [h.atseg] at h1;obtain ⟨s1,⟨h3,-⟩ | ⟨b,k,hb,hk,hk0,hf⟩⟩:=z0n h1
  ·exact absurd rfl h3
  obtain rfl:b=g.b:=Option.some.inj (hb.symm.trans h.shape.lastAt);have hkl:=hk0 rfl;subst hkl;have i1:In nm Y (·={ g with rs:=g.rs ++ [x],q:=g.q + (recd x).length }):=h.inn.write s1 hf fun q f hq hsh=>by
   subst hq;exact ⟨_,rfl,hsh.append h.full hx (Nat.le_refl _)⟩
  rw [zx] at i1;refine ⟨rfl,s1,{ inn:=i1,full:=?_,name:=h.name,nob:=h.nob,first:=h.first,seg:=h.seg,segs:=h.segs,size:=?_,recs:=?_,syn:=h.syn,snap:=h.snap },by rw [hf,z0j]⟩
  ·show g.q + _=_;rw [z1i,z1z,List.length_append,h.full,zx]
  ·show L.size + _=g.q + _;rw [h.size]
  ·show L.recs ++ [x]=g.closed ++ (g.rs ++ [x]);rw [h.recs,List.append_assoc]
 ·omega
theorem zd6 (nm:ByteArray) (c:Int):Qt 0 0 (AN nm 0) c ⟨newD c,fun _=>⟨[],0⟩⟩:=⟨⟨Nat.le_refl _,Nat.le_refl _,List.nodup_nil,List.nodup_nil⟩,fun t b hb=>absurd (show (none:Option Nat)=some b from hb) nofun,rfl⟩
theorem zd7 (c:Int):Wf ⟨newD c,fun _=>⟨[],0⟩⟩:=fun s hs=>by cases hs
theorem zan (c:Int):Fau (newD c):=⟨rfl,by show (-1:Int) < 0;decide⟩
def KP (h:Sh):Prop:=h.sn=none /\ h.closed=[] /\ h.m=1 /\ h.du=1 /\ h.rs.take 1=[[120]] /\ h.q <= 12
theorem zeq:Trims KP:=fun h j ⟨h1,h2,h3,h4,h5,h6⟩ hj _ hq=>⟨h1,h2,h3,h4,by show (h.rs.take j).take 1=_;rw [List.take_take,Nat.min_eq_left (by omega)];exact h5,by show (enc (h.rs.take j)).length <= 12;omega⟩
theorem kp_one {h:Sh} {j:Nat} (hp:KP h) (h1:h.du <= j) (h2:j <= h.rs.length) (h3:(enc (h.rs.take j)).length <= h.q):h.rs.take j=[[120]] /\ j=1:=by
 obtain ⟨-,-,-,h4,h5,h6⟩:=hp;have hj:j=1:=by
  rcases Nat.lt_or_ge 1 j with hl | hl
  ·
   have e:=z1f (l:=h.rs) (show 2 <= j from hl);cases hr:h.rs with
   | nil=>rw [hr] at h2;simp at h2;omega
   | cons a r =>
    cases r with
    | nil=>rw [hr] at h2;simp at h2;omega
    | cons b r =>
     have:(enc (h.rs.take 2)).length=8 + a.length + (8 + b.length):=by rw [hr];simp [enc,zx]
     have ha:a.length=1:=by rw [hr] at h5;simp at h5;rw [h5];rfl
     omega
  ·omega
 exact ⟨by rw [hj];exact h5,hj⟩
def KQ (h:Sh):Prop:=h.sn=some [115] /\ h.closed ++ h.rs=[[122]] /\ h.du=h.rs.length
theorem z91:Trims KQ:=fun h j ⟨h1,h2,h3⟩ hj hl _=>by
 have:h.rs.take j=h.rs:=List.take_of_length_le (by omega);exact ⟨h1,by show h.closed ++ h.rs.take j=_;rw [this];exact h2,by show h.du=(h.rs.take j).length;rw [this];exact h3⟩
end Go.Log
end
section
namespace Go.Proofs.YtpjomdmjohjheaaGreatDoor
open Go.RowKit Go.Lk Go.Vfs Go.Log
variable {W0 w w' w2:World} {l d:Nat} {L L':Lg} {X Y:Ds} {O O' S N:Nat -> Prop}
theorem zcn (hk:Keeps Nb W0 w) (hv:Vars W0) (h6:6 <= W0.heap.size) (hO:∀ k,O k -> k < w.heap.size) (c:Int) (hc:1 <= c /\ c <= 16777216) :
  Calls Tryz.prog 18 #[.int .i64 c] w fun e w'=>∃ d,e=.returned (.tuple #[.pointer (some ⟨d,0,none⟩),.int .i64 0]) /\ DO W0 w' d ⟨newD c,fun _=>⟨[],0⟩⟩ O /\ Keeps Nb w w':=by
 refine (new_at c w hc).mono ?_;rintro e w' ⟨d,rfl,hd,F,R,h1,h2,h3,h4⟩;have z:=hk.size;exact ⟨d,rfl,⟨⟨F,R,h2,fun k e=>⟨by have:=hO k e;have:=h1.size;omega,fun f=>by have:=hO k e;have:=h3 k f;omega,fun f=>by have:=hO k e;have:=h4 k f;omega⟩,fun k f=>by have:=h3 k f;omega⟩,hk.trans_nb h1,hv,h6⟩,h1⟩
theorem zeb (h:DO W0 w d X O) (v:Value) (zs:List Int) (hp:PicksV w v zs) (hl:X.D.lasting.length + X.D.steps.length <= 1000000) :
  Calls Tryz.prog 24 #[.pointer (some ⟨d,0,none⟩),v] w fun e w'=>∃ d' D' fc' φ l2 bs,e=.returned (.pointer (some ⟨d',0,none⟩)) /\ DO W0 w' d' ⟨D',fc'⟩ O /\ Keeps Nb w w' /\ CrashR zs X.D X.fc D' fc' φ l2 bs:=by
 obtain ⟨F,R,h1,h2,h3⟩:=h.ex;obtain ⟨a,c,rfl,p1,p2,p3,p4⟩:=hp;refine (zea d zs.length c a zs X.D F R X.fc w h1 p3 rfl p4 ⟨p1,p2⟩ hl).mono ?_;rintro e w' ⟨d',D',fc',F',R',φ,l2,bs,rfl,g1,g2,g3,g4,g5⟩;have z:=h.k.size;exact ⟨d',D',fc',φ,l2,bs,rfl,⟨⟨F',R',g1,fun k e=>⟨Nat.lt_of_lt_of_le (h2 k e).1 g4.size,fun f=>by have:=(h2 k e).1;have:=g2 k f;omega,fun f=>by have:=(h2 k e).1;have:=g3 k f;omega⟩,fun k f=>by have:=g2 k f;omega⟩,h.k.trans_nb g4,h.v,h.six⟩,g4,g5⟩
theorem zef (b:Bool) (w:World):Calls Tryz.prog 37 #[.bool b] w fun e w'=>e=.returned (.int .i64 (if b then 5 else 9)) /\ w=w':=by
 cases b
 ·go_enter Tryz.func37,Tryz.ntmps37;go_wp2;go_ret;exact ⟨rfl,rfl⟩
 ·go_enter Tryz.func37,Tryz.ntmps37;go_wp2;go_ret;exact ⟨rfl,rfl⟩
end Go.Proofs.YtpjomdmjohjheaaGreatDoor
end
section
namespace Go.Log
open Go.Vfs
open Go.Proofs.YtpjomdmjohjheaaGreatDoor (newD)
variable {nm:ByteArray} {X Y Z:Ds} {e:Int} {s t:ByteArray} {n k m q K:Nat} {x:List Nat} {g:Sh} {L L':Lg} {c:Int} {P:Sh -> Prop} {A:ByteArray -> Prop}
theorem sum_le {l:List (ByteArray × Nat)} {a b:ByteArray × Nat -> Nat} (h:∀ p ∈ l,a p <= b p):(l.map a).sum <= (l.map b).sum:=by
 induction l with
 | nil=>exact Nat.le_refl _
 | cons p l ih =>
  simp only [List.map_cons,List.sum_cons];have h1:=h p (by simp);have h2:=ih fun p hp=>h p (by simp [hp]);omega
theorem zdk {zs:List Int} {D':Dk} {fc':Nat -> Fl} {φ:Nat -> Option Nat} {l2:List (ByteArray × Nat)} {bs:List Bool} (h:Qt n q A c X) (hst:X.D.steps=[]) (hla:X.D.lasting=X.D.files) (hc:CrashR zs X.D X.fc D' fc' φ l2 bs) :
  Qt n q A c ⟨D',fc'⟩ /\ Fau D' /\ D'.fe=0 /\ pot ⟨D',fc'⟩ <= 2 * (n:Int):=by
 obtain ⟨p2,-,-,-,inj,all,eq,fcc⟩:=hc;rw [hst,show replay bs [] l2=l2 by cases bs <;> rfl] at eq fcc;rw [hla] at p2;have hf:D'.files=l2.map (mv φ):=by rw [eq];rfl
 have hln:D'.files.length=X.D.files.length:=by rw [hf,List.length_map,p2.length_eq]
 have hrf:∀ p ∈ l2,∃ z,φ p.2=some z:=fun p hp=>Option.ne_none_iff_exists'.1 (all p.2 (.inl ⟨p,p2.mem_iff.1 hp,rfl⟩));have hkey:(D'.files.map Prod.fst).Perm (X.D.files.map Prod.fst):=by
  rw [hf,List.map_map];exact p2.map Prod.fst
 refine ⟨⟨⟨by show D'.files.length <= n;rw [hln];exact h.bd.nf,?_,hkey.nodup_iff.2 h.bd.key,?_⟩,?_,?_⟩,?_,?_,?_⟩
 ·refine Nat.le_trans ?_ h.bd.nt;show tot D'.files fc' <= _;rw [hf,<- z9l p2 X.fc];unfold tot;rw [List.map_map];refine sum_le fun p hp=>?_;obtain ⟨z,h1,h2,h3⟩:=fcc p hp;show (fc' ((φ p.2).getD 0)).b.length <= _;rw [h3,List.length_take];omega
 ·show (D'.files.map Prod.snd).Nodup;have hb:=(p2.map Prod.snd).nodup_iff.2 h.bd.blk;rw [hf,List.map_map];unfold List.Nodup at hb ⊢;rw [List.pairwise_map] at hb ⊢;refine hb.imp_of_mem fun {a b} ha hb' hne e=>hne ?_;obtain ⟨z,hz⟩:=hrf a ha;obtain ⟨z',hz'⟩:=hrf b hb';have e:(φ a.2).getD 0=(φ b.2).getD 0:=e;rw [hz,hz'] at e;have e:z=z':=e;subst e;exact inj _ _ _ hz hz'
 ·intro t b hb;have h1:t ∈ D'.files.map Prod.fst:=List.mem_map.2 ⟨_,zq hb,rfl⟩;obtain ⟨b',hb'⟩:=z15 (hkey.mem_iff.1 h1);exact h.al t b' hb'
 ·rw [<- h.cap];show D'.cap=_;rw [eq];rfl
 ·exact ⟨by rw [eq];rfl,by rw [eq];show (-1:Int) < 0;decide⟩
 ·rw [eq];rfl
 ·unfold pot;show D'.changes + 2 * (D'.files.length:Int) <= _;rw [hln,show D'.changes=0 by rw [eq];rfl];have:=h.bd.nf;omega
structure KA (L:Lg) (X:Ds) (rs:List (List Nat)) (du z n q K:Nat):Prop where
 ex:∃ g,GS sa L X g n q K 9999 /\ (X.fc g.b).lasts=z /\ g.sn=none /\ g.cl=[] /\ g.m=1 /\ g.rs=rs /\ g.du=du
 fe:X.D.fe=0
 st:X.D.steps=[]
 la:X.D.lasting=X.D.files
 nms:∀ t b,X.dir t=some b -> t=manf sa \/ t=sgf sa 1
 seg:L.segment=1
 most:L.most=99
variable {rs:List (List Nat)} {du z:Nat} {L:Lg}
theorem z8q {g:Sh} (h:g.cl=[]):g.closed=[]:=by unfold Sh.closed;rw [h];rfl
theorem ka_new (hr:openR sa 99 ⟨newD 9999,fun _=>⟨[],0⟩⟩ e L Y):e=0 /\ KA L Y [] 0 0 2 24 1:=by
 obtain ⟨h1,h2,h3,h4,h5,g,h6,h7,h8⟩:=z90 z1w z1v (zd7 9999) (zan 9999) rfl (zd6 sa 9999) (by decide) (by decide) rfl hr;have e1:=h6.li.segs;have e2:=h6.li.size;have e3:=h6.li.recs;have e4:=h6.li.seg;rw [h2] at e1 e2 e3 e4;have c0:g.cl=[]:=by
  have:(1:Nat)=g.cl.length + 1:=e1;cases hc:g.cl with
  | nil=>rfl
  | cons a l=>rw [hc] at this;simp at this
 have e3:[]=g.closed ++ g.rs:=e3;rw [z8q c0] at e3;have r0:g.rs=[]:=e3.symm;have sh:=h6.li.shape;have d0:=sh.lastd;have l0:=sh.lastl.2;have q0:(0:Nat)=g.q:=e2;rw [r0] at d0;refine ⟨h1,⟨⟨g,h6,by omega,h7,c0,e4.symm,r0,Nat.le_zero.1 d0⟩,h3,h4,h5,fun t b hb=>?_,by rw [h2],by rw [h2];rfl⟩⟩;rcases (h8 t).2 ⟨b,hb⟩ with h | h | ⟨-,b',h⟩
 ·exact .inl h
 ·exact .inr h
 ·exact absurd (show (none:Option Nat)=some b' from h) nofun
theorem KA.lrecs (h:KA L X rs du z n q K):L.recs=rs:=by
 obtain ⟨g,h1,-,-,h4,-,h6,-⟩:=h.ex;rw [h1.li.recs,z8q h4,h6];rfl
theorem KA.lsize (h:KA L X rs du z n q K):L.size=(enc rs).length:=by
 obtain ⟨g,h1,-,-,h4,-,h6,-⟩:=h.ex;rw [h1.li.size,h1.li.full,h6]
theorem KA.lsegs (h:KA L X rs du z n q K):L.segments=1:=by
 obtain ⟨g,h1,-,-,h4,-,h6,-⟩:=h.ex;rw [h1.li.segs,h4];rfl
theorem zcw (h:KA L X rs du z n q K) (hx:Recs [x]) (h64:n < 64) (hc:((q + (8 + x.length):Nat):Int) <= 9999) (hK:K < mxn) (hsz:(enc rs).length + (8 + x.length) <= 99) (hr:appR L x X e L' Y) :
  e=0 /\ KA L' Y (rs ++ [x]) du z (n + 1) (q + (8 + x.length)) (K + 1):=by
 have hls:=h.lsize;obtain ⟨⟨g,h1,h2,h3,h4,h5,h6,h7⟩,fe,st,la,nms,seg,most⟩:=h;obtain ⟨hcalm,hcs⟩:=z4t z1w z1v h1 hx h64 hc hK hr;obtain ⟨e0,fe'⟩:=hcalm fe;subst e0;rcases hcs with ⟨-,-,-,-,g',hg',-⟩ | ⟨h0,-⟩
 ·obtain ⟨rfl,sm,hli,hlast⟩:=zce h1.li hx (by rw [hls,most];exact hsz) hr;exact ⟨rfl,⟨⟨_,⟨hli,hg'.fau,hg'.fe,hg'.qt⟩,by rw [<- h2];exact hlast,h3,h4,h5,by show g.rs ++ [x]=_;rw [h6],h7⟩,fe',by rw [sm.steps];exact st,by rw [sm.lasting,sm.files];exact la,fun t b hb=>nms t b (by rw [<- sm.dir];exact hb),seg,most⟩⟩
 ·exact absurd rfl h0
theorem ka_syn (h:KA L X rs du z n q K) (hr:synR L X e L' Y):e=0 /\ KA L' Y rs rs.length (enc rs).length n q K:=by
 obtain ⟨⟨g,h1,h2,h3,h4,h5,h6,h7⟩,fe,st,la,nms,seg,most⟩:=h;obtain ⟨hcalm,hcs⟩:=z4u z1w z1v h1 hr;obtain ⟨e0,fe'⟩:=hcalm fe;subst e0;have sm:Sm X Y:=by
  rcases hr with ⟨-,-,-,rfl⟩ | ⟨-,hr,-⟩
  ·exact Sm.refl _
  ·exact (z0e hr).1
 rcases hcs with ⟨-,rfl,hg⟩ | ⟨h0,-⟩
 ·have hl:=hg.li.shape.lastl;have hq:g.q=(enc g.rs).length:=h1.li.full;refine ⟨rfl,⟨⟨_,hg,?_,h3,h4,h5,h6,by show g.rs.length=_;rw [h6]⟩,fe',by rw [sm.steps];exact st,by rw [sm.lasting,sm.files];exact la,fun t b hb=>nms t b (by rw [<- sm.dir];exact hb),seg,most⟩⟩;have l1:(enc (g.rs.take g.rs.length)).length <= (Y.fc g.b).lasts:=hl.1;have l2:(Y.fc g.b).lasts <= g.q:=hl.2;rw [List.take_length] at l1;show (Y.fc g.b).lasts=_;rw [<- h6];omega
 ·exact absurd rfl h0
theorem zen {D':Dk} {fc':Nat -> Fl} {φ:Nat -> Option Nat} {l2:List (ByteArray × Nat)} {bs:List Bool} (h:KA L X [[120],[121]] 1 9 n q K) (hc:CrashR [3] X.D X.fc D' fc' φ l2 bs) :
  In sa ⟨D',fc'⟩ KP /\ Qt n q (AN sa K) 9999 ⟨D',fc'⟩ /\ Fau D' /\ D'.fe=0 /\ pot ⟨D',fc'⟩ <= 2 * (n:Int):=by
 obtain ⟨⟨g,h1,h2,h3,h4,h5,h6,h7⟩,fe,st,la,nms,seg,most⟩:=h;obtain ⟨v,hv⟩:=zep h1.li.inn st la h1.qt.bd.key nms h5 h6 (by rw [h1.li.full,h6];simp [enc,zx]) h2 hc;refine ⟨hv.mono fun f hf=>?_,zdk h1.qt st la hc⟩;subst hf;refine ⟨h3,by rw [z9v];exact z8q h4,h5,h7,by show g.rs.take 1=_;rw [h6];rfl,Nat.le_refl _⟩
theorem zgn (hi:In sa X KP) (hF:Fau X.D) (hfe:X.D.fe=0) (hq:Qt n q (AN sa K) 9999 X) (hr:openR sa 99 X e L Y) :
  e=0 /\ Y.D.fe=0 /\ L.recs=[[120]] /\ L.segment=1 /\ L.most=99 /\ ∃ g,GS sa L Y g n q K 9999:=by
 obtain ⟨hcalm,h,j,h1,h2,h3,h4,h5,h6,h7⟩:=z7c z1w z1v hi zeq hF (by rw [hfe];decide) hq hr;obtain ⟨e0,fe'⟩:=hcalm hfe;obtain ⟨g1,g2,g3⟩:=h7 e0;obtain ⟨k1,k2⟩:=kp_one h1 h3 h4 h6;refine ⟨e0,fe',?_,?_,g3,_,g1⟩
 ·have:L.recs=h.closed ++ h.rs.take j:=g1.li.recs;rw [this,h1.2.1,k1];rfl
 ·have:L.segment=h.m:=g1.li.seg;rw [this,h1.2.2.1]
theorem zgo (h:GS sa L X g n q K 9999) (hfe:X.D.fe=0) (hx:Recs [x]) (h64:n + 2 < 64) (hc:((q + (8 + x.length) + 24:Nat):Int) <= 9999) (hK:K + 2 <= mxn) (hK2:K + 1 < mxn) (hr:turnR L x X e L' Y) :
  e=0 /\ Y.D.fe=0 /\ L'.recs=[] /\ L'.size=0 /\ L'.segments=1 /\ ∃ g',GS sa L' Y g' (n + 3) (q + (8 + x.length) + 24) (K + 2) 9999 /\ g'.sn=some x:=by
 obtain ⟨hcalm,hcs⟩:=zaf z1w z1v h hx h64 hc hK hK2 hr;obtain ⟨e0,fe'⟩:=hcalm hfe;rcases hcs with ⟨-,s,n',bm,bs,b,rfl,-,hg⟩ | ⟨h0,-⟩
 ·exact ⟨e0,fe',rfl,rfl,rfl,_,hg,rfl⟩
 ·exact absurd e0 h0
theorem kb_app (h:GS sa L X g n q K 9999) (hfe:X.D.fe=0) (hx:Recs [x]) (h64:n < 64) (hc:((q + (8 + x.length):Nat):Int) <= 9999) (hK:K < mxn) (hr:appR L x X e L' Y) :
  e=0 /\ Y.D.fe=0 /\ L'.recs=L.recs ++ [x] /\ ∃ g',GS sa L' Y g' (n + 1) (q + (8 + x.length)) (K + 1) 9999 /\ g'.sn=g.sn:=by
 obtain ⟨hcalm,hcs⟩:=z4t z1w z1v h hx h64 hc hK hr;obtain ⟨e0,fe'⟩:=hcalm hfe;rcases hcs with ⟨-,-,h1,-,g',h2,h3,-⟩ | ⟨h0,-⟩
 ·exact ⟨e0,fe',h1,g',h2,h3⟩
 ·exact absurd e0 h0
theorem kb_syn (h:GS sa L X g n q K 9999) (hfe:X.D.fe=0) (hsn:g.sn=some [115]) (hrs:L.recs=[[122]]) (hr:synR L X e L' Y) :
  e=0 /\ In sa Y KQ /\ Fau Y.D /\ Y.D.fe=0 /\ Qt n q (AN sa K) 9999 Y:=by
 obtain ⟨hcalm,hcs⟩:=z4u z1w z1v h hr;obtain ⟨e0,fe'⟩:=hcalm hfe;rcases hcs with ⟨-,rfl,hg⟩ | ⟨h0,-⟩
 ·refine ⟨e0,hg.li.inn.mono fun f hf=>?_,hg.fau,fe',hg.qt⟩;subst hf;exact ⟨hsn,by have:=h.li.recs;rw [hrs] at this;exact this.symm,rfl⟩
 ·exact absurd e0 h0
theorem zgp (hi:In sa X KQ) (hF:Fau X.D) (hfe:X.D.fe=0) (hq:Qt n q (AN sa K) 9999 X) (hr:openR sa 99 X e L Y) :
  e=0 /\ L.recs=[[122]] /\ L.has=true /\ L.snap=[115]:=by
 obtain ⟨hcalm,h,j,h1,h2,h3,h4,h5,h6,h7⟩:=z7c z1w z1v hi z91 hF (by rw [hfe];decide) hq hr;obtain ⟨e0,fe'⟩:=hcalm hfe;obtain ⟨g1,g2,g3⟩:=h7 e0;obtain ⟨k1,k2,k3⟩:=z91 h j h1 h3 h4 h6;refine ⟨e0,?_,?_⟩
 ·have:L.recs=h.closed ++ h.rs.take j:=g1.li.recs;rw [this];exact k2
 ·
  rcases g1.li.snap with ⟨h8,-⟩ | ⟨x,h8,h9,h10⟩
  ·have h8:h.sn=none:=h8;rw [h1.1] at h8;cases h8
  ·have h8:h.sn=some x:=h8;rw [h1.1] at h8;cases h8;exact ⟨h9,h10⟩
end Go.Log
end
section
namespace Go.Lk
open Go.RowKit
variable {P:Program} {w:World} {t e:TypeId}
def IsMark (g:Nat) (cs:Array Value) (e:TypeId) (u:Value) (w:World) (v:Value) (w':World):Prop:=v=u /\ w'.heap[g]?=some (.cells cs e (cs.size,cs.size + 1)) /\ Keeps (·=g) w w'
theorem run_mark {g n c:Nat} {cs:Array Value} (ht:P.underlying t=some (.slice e)) (he:P.underlying e=some (.int .u8)) (hg:w.heap[g]?=some (.cells cs e (0,0))) :
  ∃ w',(convert t t (.slice (some ⟨g,0,none⟩) n c)).run P w=.ok (.slice (some ⟨g,0,none⟩) n c) w' /\ w'.heap[g]?=some (.cells cs e (cs.size,cs.size + 1)) /\ Keeps (·=g) w w':=by
 have hsh:w.shape? g=some (e,cs.size):=by unfold World.shape?;rw [hg]
 refine ⟨w.freeze ⟨g,cs.size,none⟩ 1,?_,?_,?_⟩
 ·simp [convert,run_underlying ht,run_underlying he,markStringish,hsh]
 ·have hl:=lt_of_block hg;unfold World.freeze;rw [if_neg (by decide)];simp [Array.getElem?_modify,hg]
 ·unfold World.freeze;rw [if_neg (by decide)];exact ⟨rfl,rfl,rfl,by simp,fun i hi hn=>by simp [Array.getElem?_modify,Ne.symm hn]⟩
theorem z34 {dst:Option Tmp} {x:Operand} {ty:TypeId} {pos:String} {aft:Array Edge} {gd:Option (Nat × Bool)} {a:Act} {g n c:Nat} {cs:Array Value} (ht:P.underlying t=some (.slice e)) (he:P.underlying e=some (.int .u8)) (hx:a.eval x=.slice (some ⟨g,0,none⟩) n c) (hg:w.heap[g]?=some (.cells cs e (0,0))) :
  ∃ v w',(execOp a.eval ⟨dst,.convert t t x,ty,pos,aft,gd⟩).run P w=.ok (.value v) w' /\ IsMark g cs e (.slice (some ⟨g,0,none⟩) n c) w v w':=by
 obtain ⟨w',h1,h2,h3⟩:=run_mark (n:=n) (c:=c) ht he hg;exact ⟨_,w',by unfold execOp;simp only [hx,Sem.run_bind,h1,Result.andThen_ok,Sem.run_pure],rfl,h2,h3⟩
end Go.Lk
end
section
namespace Go.Proofs.YtpjomdmjohjheaaGreatDoor
open Go.RowKit Go.Lk Go.Vfs Go.Log
variable {W0 w w' w2:World} {l d:Nat} {L L':Lg} {X Y:Ds} {O O' S N:Nat -> Prop}
theorem z1q {g n:Nat} {cs:Array Value} {l:List Nat} {u v:Value} (h:NewAt w w2 g (.cells cs 5)) (hm:IsMark g cs 5 u w2 v w') (hu:u=.slice (some ⟨g,0,none⟩) n n) (hcs:cs=(l.map fun x=>Value.int .u8 (x:Nat)).toArray) (hn:l.length=n) (hl:∀ z ∈ l,z < 256) (hx:n <= 1000) :
  v=.slice (some ⟨g,0,none⟩) n n /\ Bytes w' (·=g) v l /\ Keeps Nb w w' /\ w.heap.size <= g /\ g < w'.heap.size:=by
 obtain ⟨rfl,h1,h2⟩:=hm;subst hn;subst hu;subst hcs;refine ⟨rfl,⟨_,_,rfl,Nat.le_refl _,by unfold maxLen;omega,.inr ⟨g,0,rfl,fun i hi=>?_⟩,hl,fun b off e _=>by cases e;rfl⟩,h.k.own h.ge h2,h.ge,lt_of_block h1⟩;rw [Nat.zero_add,cell_of_block h1];simp [List.getElem?_eq_getElem hi,z18 hi]
theorem zd5 {g n:Nat} {l:List Int} (h:NewAt w w' g (.cells (l.map fun x=>Value.int .i64 x).toArray 3)) (hn:l.length=n) (hl:∀ z ∈ l,I64 z) (hm:n <= 1000):PicksV w' (.slice (some ⟨g,0,none⟩) n n) l:=by
 subst hn;refine ⟨_,_,rfl,Nat.le_refl _,by unfold maxLen;omega,.inr ⟨g,0,rfl,fun i hi=>?_⟩,hl⟩;rw [Nat.zero_add,cell_of_block h.blk];simp [List.getElem?_eq_getElem hi,z95 hi]
theorem ze6 {g x:Nat} (h:NewAt w w' g (.cells #[.int .u8 (x:Nat)] 5)) (hx:x < 256):Bytes w' (·=g) (.slice (some ⟨g,0,none⟩) 1 1) [x]:=by
 refine ⟨_,_,rfl,Nat.le_refl _,by unfold maxLen;omega,.inr ⟨g,0,rfl,fun i hi=>?_⟩,fun z hz=>by rw [List.mem_singleton.1 hz];exact hx,fun b off e _=>by cases e;rfl⟩;rw [Nat.zero_add,cell_of_block h.blk];have:i=0:=by have:i < 1:=hi;omega
 subst this;rfl
theorem zhj {g:Nat} {v:Value} {x:List Nat} {a:Option Addr} {n c:Nat} (h:NewAt w w' g (.cells #[v] 22)) (hv:v=.slice a n c) (hb:Bytes w (fun k=>k < w.heap.size) v x) :
  RowS w' (fun k=>k < w'.heap.size) (fun _=>False) 22 1 (.slice (some ⟨g,0,none⟩) 1 1) 1 [v] /\ BytesL w' (fun k=>k < w'.heap.size) [v] [x]:=by
 have z:=h.k.size;refine ⟨⟨rfl,fun u hu=>by rw [List.mem_singleton.1 hu,hv];rfl,some ⟨g,0,none⟩,1,rfl,Nat.le_refl _,by unfold maxLen;omega,zm h.blk,fun b off e _=>by cases e;exact ⟨.inl h.lt,⟨_,_,h.blk⟩⟩,.inl rfl⟩,?_⟩;exact .cons ((hb.keeps h.k (fun _ _ e=>e)).mono fun k e=>by omega) (.nil _ _)
theorem LS.lit {g:Nat} {v:Value} {x:List Nat} (h:LS W0 w l d L X fun _=>False) (hk:Keeps Nb w w') (h1:w.heap.size <= g) (h2:g < w'.heap.size) (hb:Bytes w' (·=g) v x) :
  LS W0 w' l d L X (·=g) /\ Bytes w' (Own W0 (·=g)) v x :=
 ⟨(h.add (N:=(·=g)) hk fun k e=>by omega).mono fun k e=>.inr e,hb.mono fun k e=>.inr e⟩
theorem z98 {l d g11 g12 x:Nat} {w11 w12 wx:World} (h:LS W0 w12 l d L X O) (hr:L.recs=[[x]]) (n12:NewAt w11 w12 g12 (.cells #[.slice (some ⟨g11,0,none⟩) 1 1] 22)) (n11:NewAt wx w11 g11 (.cells #[.int .u8 (x:Nat)] 5)) (hx:x < 256) :
  Calls Tryz.prog 34 #[.pointer (some ⟨l,0,none⟩),.slice (some ⟨g12,0,none⟩) 1 1,.int .i64 0] w12 fun e w'=>e=.returned (.bool true) /\ Keeps Nb w12 w':=by
 obtain ⟨h1,h2⟩:=zhj n12 rfl ((ze6 n11 hx).mono fun k e=>by have:=n11.lt;omega);have h3:=zgs (wa:=some ⟨g12,0,none⟩) (wc:=1) (vs:=[.slice (some ⟨g11,0,none⟩) 1 1]) h (by rw [hr];exact h1) (by rw [hr];exact h2);rw [hr] at h3;exact h3
theorem z1m (w:World) (hv:Vars w) (h6:6 <= w.heap.size):Calls Tryz.prog 10 #[] w fun e w'=>e=.returned (.bool true) /\ Keeps Nb w w':=by
 have HV:=qq hv;have H6:=qq h6;clear hv h6;go_enter Tryz.func10,Tryz.ntmps10;go_wp2_with fail;refine (zcn (W0:=w) (O:=fun _=>False) (Keeps.refl _ _) HV.out H6.out (fun _ e=>e.elim) 9999 (by omega)).mono ?_;rintro _ w1 ⟨d,rfl,hd,-⟩;have OP:=qq (z3x hd sa 99 z1w z1v (by omega) (by omega) (by show pot ⟨newD 9999,_⟩ + 12 <= _;unfold pot;simp [newD]));clear hd;go_wp2_with fail;refine OP.out.mono ?_;rintro _ w2 ⟨er,L,X,hr,hp,-,hc⟩;obtain ⟨rfl,ka⟩:=ka_new hr;obtain ⟨-,l,rfl,hls⟩:=hc.resolve_right fun h=>h.1 rfl;have P:Hid (pot X <= 12):=qq hp;have KA:=qq ka;have H:=qq hls;clear hr hp ka hls OP;go_wp2_with fail;refine (z07 0 w2).mono ?_;rintro _ _ ⟨rfl,rfl⟩;go_wp2_with fail;refine (z3d H.out).mono ?_;rintro _ _ ⟨rfl,rfl⟩;rw [KA.out.lrecs];go_wp2_with fail;refine (zd0 H.out).mono ?_;rintro _ _ ⟨rfl,rfl⟩;rw [KA.out.seg];go_wp2_with (first | go_skip | (with_reducible refine zo ?_) | (with_reducible refine zr (s:=22) ?_) | fail)
 refine za (zh rfl (zl el31 [.int .u8 120] rfl (by simp [List.range'_succ];first | done | rfl) (by simp [Value.cells]) (by simp)) ?_);rintro _ w3 ⟨g,rfl,n3⟩;simp only [Nat.reduceAdd,qn];go_wp2_with (first | go_skip | (with_reducible refine zo ?_) | (with_reducible refine zr (s:=22) ?_) | fail)
 refine za (zh rfl (z34 Tryz.underlying22 Tryz.underlying5 (by rfl) n3.blk) ?_);rintro _ w4 hm;obtain ⟨rfl,hby,k4,hg1,hg2⟩:=z1q (n:=1) (l:=[120]) n3 hm rfl (by simp [Value.cells]) rfl (by simp) (by omega);obtain ⟨hl4,hb4⟩:=LS.lit H.out k4 hg1 hg2 hby;have H4:=qq hl4;have B4:=qq hb4;clear n3 hm hby k4 hl4 hb4 H;simp only [Nat.reduceAdd,qn];have AP:=qq (z13 H4.out B4.out (by have:=P.out;omega) (by rw [KA.out.lsegs];omega) (by rw [KA.out.lrecs];simp) (by rw [KA.out.lsize];simp [enc]));clear H4 B4;go_wp2_with fail;refine AP.out.mono ?_;rintro _ w5 ⟨er,L5,X5,rfl,hl5,hr5,hp5,-⟩;obtain ⟨rfl,ka5⟩:=zcw KA.out (by simp [Recs,mxr]) (by omega) (by decide) (by decide) (by simp [enc]) hr5;have P5:Hid (pot X5 <= 18):=qq (by have:=P.out;omega);have KA5:=qq ka5;have H5:=qq (hl5.mono (O':=fun _=>False) (fun _ e=>e.elim));clear hl5 hr5 hp5 ka5 KA P AP;go_wp2_with fail;refine (z07 0 w5).mono ?_;rintro _ _ ⟨rfl,rfl⟩;have SY:=qq (z2z H5.out (by have:=P5.out;omega));clear H5;go_wp2_with fail;refine SY.out.mono ?_;rintro _ w6 ⟨er,L6,X6,rfl,hl6,hr6,hp6,-⟩;obtain ⟨rfl,ka6⟩:=ka_syn KA5.out hr6;have P6:Hid (pot X6 <= 19):=qq (by have:=P5.out;omega);have KA6:=qq ka6;have H:=qq hl6;clear hl6 hr6 hp6 ka6 KA5 P5 SY;go_wp2_with fail;refine (z07 0 w6).mono ?_;rintro _ _ ⟨rfl,rfl⟩;go_wp2_with (first | go_skip | (with_reducible refine zo ?_) | (with_reducible refine zr (s:=22) ?_) | fail)
 refine za (zh rfl (zl el31 [.int .u8 121] rfl (by simp [List.range'_succ];first | done | rfl) (by simp [Value.cells]) (by simp)) ?_);rintro _ w3 ⟨g,rfl,n3⟩;simp only [Nat.reduceAdd,qn];go_wp2_with (first | go_skip | (with_reducible refine zo ?_) | (with_reducible refine zr (s:=22) ?_) | fail)
 refine za (zh rfl (z34 Tryz.underlying22 Tryz.underlying5 (by rfl) n3.blk) ?_);rintro _ w4 hm;obtain ⟨rfl,hby,k4,hg1,hg2⟩:=z1q (n:=1) (l:=[121]) n3 hm rfl (by simp [Value.cells]) rfl (by simp) (by omega);obtain ⟨hl4,hb4⟩:=LS.lit H.out k4 hg1 hg2 hby;have H4:=qq hl4;have B4:=qq hb4;clear n3 hm hby k4 hl4 hb4 H;simp only [Nat.reduceAdd,qn];have AP:=qq (z13 H4.out B4.out (by have:=P6.out;omega) (by rw [KA6.out.lsegs];omega) (by rw [KA6.out.lrecs];simp) (by rw [KA6.out.lsize];simp [enc,zx]));clear H4 B4;go_wp2_with fail;refine AP.out.mono ?_;rintro _ w7 ⟨er,L7,X7,rfl,hl7,hr7,hp7,-⟩;obtain ⟨rfl,ka7⟩:=zcw KA6.out (by simp [Recs,mxr]) (by omega) (by decide) (by decide) (by simp [enc,zx]) hr7;have KA7:=qq ka7;have D7:=qq (LS.disk (hl7.mono (O':=fun _=>False) (fun _ e=>e.elim)));clear hl7 hr7 hp7 ka7 KA6 P6 AP;go_wp2_with fail;refine (z07 0 w7).mono ?_;rintro _ _ ⟨rfl,rfl⟩;go_wp2_with (first | go_skip | (with_reducible refine qv (by decide) ?_))
 refine za (zh rfl (zl el35 [.int .i64 3] rfl (by simp [List.range'_succ];first | done | rfl) (by simp [Value.cells]) (by simp)) ?_);rintro _ w8 ⟨g8,rfl,n8⟩;simp only [Nat.reduceAdd,qn];have CR:=qq (zeb (D7.out.nb n8.k) _ [3] (zd5 (n:=1) (l:=[3]) n8 rfl (by simp [I64]) (by omega)) (by rw [KA7.out.st,KA7.out.la];obtain ⟨g,hg,-⟩:=KA7.out.ex;have:=hg.qt.bd.nf;simp;omega));clear n8 D7;go_wp2_with fail;refine CR.out.mono ?_;rintro _ w9 ⟨c,D9,fc9,φ,l2,bs,rfl,hd9,-,hr9⟩;obtain ⟨i9,q9,f9,e9,p9⟩:=zen KA7.out hr9;have I9:=qq i9;have Q9:=qq q9;have F9:=qq f9;have E9:=qq e9;have OP:=qq (z3x hd9 sa 99 z1w z1v (by omega) (by omega) (by omega));have P9:Hid (pot ⟨D9,fc9⟩ <= 8):=qq (by omega);clear hd9 hr9 i9 q9 f9 e9 p9 KA7 CR;go_wp2_with fail;refine OP.out.mono ?_;rintro _ w10 ⟨er,L,X,hr,hp,-,hc⟩;obtain ⟨rfl,fe10,r10,s10,m10,g10,gs10⟩:=zgn I9.out F9.out E9.out Q9.out hr;obtain ⟨-,l,rfl,hls⟩:=hc.resolve_right fun h=>h.1 rfl;have P10:Hid (pot X <= 20):=qq (by have:=P9.out;omega);have FE:=qq fe10;have RS:=qq r10;have SG:=qq s10;have GS10:=qq gs10;have H:=qq hls;clear hr hp hls hc fe10 r10 s10 m10 gs10 OP I9 Q9 F9 E9 P9;go_wp2_with fail;refine (z07 0 w10).mono ?_;rintro _ _ ⟨rfl,rfl⟩;go_wp2_with (first | go_skip | (with_reducible refine zo ?_) | (with_reducible refine zr (s:=22) ?_) | fail)
 refine za (zh rfl (zl el31 [.int .u8 120] rfl (by simp [List.range'_succ];first | done | rfl) (by simp [Value.cells]) (by simp)) ?_);rintro _ w11 ⟨g11,rfl,n11⟩;simp only [Nat.reduceAdd,qn];go_wp2_with (first | go_skip | (with_reducible refine zo ?_) | (with_reducible refine zr (s:=22) ?_) | fail)
 refine za (zh rfl (zl el27 [.slice (some ⟨g11,0,none⟩) 1 1] rfl (by simp [List.range'_succ];first | done | rfl) (by simp [Value.cells]) (by simp)) ?_);rintro _ w12 ⟨g12,rfl,n12⟩;simp only [Nat.reduceAdd,qn];have HL:=qq (H.out.nb (n11.k.trans_nb n12.k));have ON:=qq (z98 HL.out RS.out n12 n11 (by omega));clear n11 n12 H;go_wp2_with fail;refine ON.out.mono ?_;rintro _ w13 ⟨rfl,k13⟩;have H:=qq (HL.out.nb k13);clear k13 ON HL;go_wp2_with fail;refine (zd0 H.out).mono ?_;rintro _ _ ⟨rfl,rfl⟩;rw [SG.out];go_wp2_with (first | go_skip | (with_reducible refine zo ?_) | (with_reducible refine zr (s:=22) ?_) | fail)
 refine za (zh rfl (zl el31 [.int .u8 115] rfl (by simp [List.range'_succ];first | done | rfl) (by simp [Value.cells]) (by simp)) ?_);rintro _ w3 ⟨g,rfl,n3⟩;simp only [Nat.reduceAdd,qn];go_wp2_with (first | go_skip | (with_reducible refine zo ?_) | (with_reducible refine zr (s:=22) ?_) | fail)
 refine za (zh rfl (z34 Tryz.underlying22 Tryz.underlying5 (by rfl) n3.blk) ?_);rintro _ w4 hm;obtain ⟨rfl,hby,k4,hg1,hg2⟩:=z1q (n:=1) (l:=[115]) n3 hm rfl (by simp [Value.cells]) rfl (by simp) (by omega);obtain ⟨hl4,hb4⟩:=LS.lit H.out k4 hg1 hg2 hby;have H4:=qq hl4;have B4:=qq hb4;clear n3 hm hby k4 hl4 hb4 H;simp only [Nat.reduceAdd,qn];have TN:=qq (z7e H4.out B4.out (by have:=P10.out;omega));clear H4 B4;go_wp2_with fail;refine TN.out.mono ?_;rintro _ w14 ⟨er,L14,X14,rfl,hl14,hr14,hp14,-⟩;obtain ⟨rfl,fe14,r14,z14,s14,g14,gs14,sn14⟩:=zgo GS10.out FE.out (by simp [Recs,mxr]) (by omega) (by decide) (by decide) (by decide) hr14;have P14:Hid (pot X14 <= 39):=qq (by have:=P10.out;omega);have H:=qq (hl14.mono (O':=fun _=>False) (fun _ e=>e.elim));have FE14:=qq fe14;have R14:=qq r14;have Z14:=qq z14;have S14:=qq s14;have GS14:=qq gs14;have SN14:=qq sn14;clear hl14 hr14 hp14 fe14 r14 z14 s14 gs14 sn14 TN GS10 FE RS SG P10;go_wp2_with fail;refine (z07 0 w14).mono ?_;rintro _ _ ⟨rfl,rfl⟩;go_wp2_with (first | go_skip | (with_reducible refine zo ?_) | (with_reducible refine zr (s:=22) ?_) | fail)
 refine za (zh rfl (zl el31 [.int .u8 122] rfl (by simp [List.range'_succ];first | done | rfl) (by simp [Value.cells]) (by simp)) ?_);rintro _ w3 ⟨g,rfl,n3⟩;simp only [Nat.reduceAdd,qn];go_wp2_with (first | go_skip | (with_reducible refine zo ?_) | (with_reducible refine zr (s:=22) ?_) | fail)
 refine za (zh rfl (z34 Tryz.underlying22 Tryz.underlying5 (by rfl) n3.blk) ?_);rintro _ w4 hm;obtain ⟨rfl,hby,k4,hg1,hg2⟩:=z1q (n:=1) (l:=[122]) n3 hm rfl (by simp [Value.cells]) rfl (by simp) (by omega);obtain ⟨hl4,hb4⟩:=LS.lit H.out k4 hg1 hg2 hby;have H4:=qq hl4;have B4:=qq hb4;clear n3 hm hby k4 hl4 hb4 H;simp only [Nat.reduceAdd,qn];have AP:=qq (z13 H4.out B4.out (by have:=P14.out;omega) (by rw [S14.out];omega) (by rw [R14.out];simp) (by rw [Z14.out];omega));clear H4 B4;go_wp2_with fail;refine AP.out.mono ?_;rintro _ w15 ⟨er,L15,X15,rfl,hl15,hr15,hp15,-⟩;obtain ⟨rfl,fe15,r15,g15,gs15,sn15⟩:=kb_app GS14.out FE14.out (by simp [Recs,mxr]) (by omega) (by decide) (by decide) hr15;have P15:Hid (pot X15 <= 45):=qq (by have:=P14.out;omega);have H:=qq (hl15.mono (O':=fun _=>False) (fun _ e=>e.elim));have FE15:=qq fe15;have GS15:=qq gs15;have SN15:=qq (sn15.trans SN14.out);have R15:=qq (r15.trans (by rw [R14.out];rfl:_=[[122]]));clear hl15 hr15 hp15 fe15 r15 gs15 sn15 AP GS14 FE14 R14 Z14 S14 SN14 P14;go_wp2_with fail;refine (z07 0 w15).mono ?_;rintro _ _ ⟨rfl,rfl⟩;have SY:=qq (z2z H.out (by have:=P15.out;omega));clear H;go_wp2_with fail;refine SY.out.mono ?_;rintro _ w16 ⟨er,L16,X16,rfl,hl16,hr16,hp16,-⟩;obtain ⟨rfl,i16,f16,e16,q16⟩:=kb_syn GS15.out FE15.out SN15.out R15.out hr16;have OP:=qq (z3x hl16.disk sa 99 z1w z1v (by omega) (by omega) (by have:=P15.out;omega));have I16:=qq i16;have F16:=qq f16;have E16:=qq e16;have Q16:=qq q16;clear hl16 hr16 hp16 i16 f16 e16 q16 SY GS15 FE15 SN15 R15 P15;go_wp2_with fail;refine (z07 0 w16).mono ?_;rintro _ _ ⟨rfl,rfl⟩;go_wp2_with fail;refine OP.out.mono ?_;rintro _ w17 ⟨er,L,X,hr,hp,-,hc⟩;obtain ⟨rfl,r17,h17,s17⟩:=zgp I16.out F16.out E16.out Q16.out hr;obtain ⟨-,l,rfl,hls⟩:=hc.resolve_right fun h=>h.1 rfl;have H:=qq hls;have RS:=qq r17;have SP:=qq (zak hls);rw [h17,s17] at SP;clear hr hp hls hc r17 h17 s17 OP I16 F16 E16 Q16;go_wp2_with fail;refine (z07 0 w17).mono ?_;rintro _ _ ⟨rfl,rfl⟩;go_wp2_with fail;refine SP.out.mono ?_;rintro _ w18 ⟨v,rfl,hb,k18⟩;obtain ⟨ad,c,rfl,-,-,hrd,-⟩:=id hb;have HH:=qq hrd.has;have H:=qq (H.out.nb k18);clear hb k18 hrd SP;go_wp2_with (first | go_skip | (with_reducible refine zo ?_) | (with_reducible refine zr (s:=22) ?_) | fail)
 refine za (zt (v:=.string (bstr [115])) rfl (z3g Tryz.underlying22 Tryz.underlying5 Tryz.underlying9 (by rfl) HH.out rfl) ?_);simp only [Nat.reduceAdd,qn];have q1:(bstr [115]).toList=([115]:List UInt8):=by first | rfl | decide | decide +kernel
 go_wp2_with (first | go_skip | (with_reducible refine zo ?_) | (with_reducible refine zr (s:=22) ?_) | fail)
 refine za (zh rfl (zl el31 [.int .u8 122] rfl (by simp [List.range'_succ];first | done | rfl) (by simp [Value.cells]) (by simp)) ?_);rintro _ w11 ⟨g11,rfl,n11⟩;simp only [Nat.reduceAdd,qn];go_wp2_with (first | go_skip | (with_reducible refine zo ?_) | (with_reducible refine zr (s:=22) ?_) | fail)
 refine za (zh rfl (zl el27 [.slice (some ⟨g11,0,none⟩) 1 1] rfl (by simp [List.range'_succ];first | done | rfl) (by simp [Value.cells]) (by simp)) ?_);rintro _ w12 ⟨g12,rfl,n12⟩;simp only [Nat.reduceAdd,qn];have HL:=qq (H.out.nb (n11.k.trans_nb n12.k));have ON:=qq (z98 HL.out RS.out n12 n11 (by omega));clear n11 n12 H;go_wp2_with fail;refine ON.out.mono ?_;rintro _ w19 ⟨rfl,k19⟩;have HK:=qq (HL.out.nb k19).k;clear k19 ON HL HH q1;go_wp2;go_ret;exact ⟨rfl,HK.out⟩
end Go.Proofs.YtpjomdmjohjheaaGreatDoor
end
section
namespace Go.Log
open Go.Lk Go.RowKit Go.Vfs
variable {W0 w w' w2:World} {l d:Nat} {L L':Lg} {X Y:Ds} {O O' B:Nat -> Prop}
def sw:ByteArray:=⟨#[119]⟩
theorem z2y:mnB sw=true:=by decide
theorem z2x:sw.size <= 16:=by decide
end Go.Log
namespace Go.Proofs.YtpjomdmjohjheaaGreatDoor
open Go.RowKit Go.Lk Go.Vfs Go.Log
variable {W0 w w' w2:World} {l d:Nat} {L L':Lg} {X Y:Ds} {O O':Nat -> Prop} {e:Int} {c:Int} {most:Nat}
theorem zbh (hc:24 <= c) (hr:openR sw most ⟨newD c,fun _=>⟨[],0⟩⟩ e L Y):e=0 /\ L={ lg0 sw most with first:=1,segment:=1,segments:=1 } /\ Y.D.fe=0 /\ ∃ g,GS sw L Y g 2 24 1 c /\ g.sn=none /\ (∀ t b,Y.dir t=some b -> t=manf sw \/ t=sgf sw 1):=by
 obtain ⟨h1,h2,h3,h4,h5,g,h6,h7,h8⟩:=z90 z2y z2x (zd7 c) (zan c) rfl (zd6 sw c) (by decide) (by omega) rfl hr;refine ⟨h1,h2,h3,g,h6,h7,fun t b hb=>?_⟩;rcases (h8 t).2 ⟨b,hb⟩ with h | h | ⟨-,b',h⟩
 ·exact .inl h
 ·exact .inr h
 ·exact absurd (show (none:Option Nat)=some b' from h) nofun
theorem zh5 {n:Nat} (hL:L={ lg0 sw most with first:=1,segment:=1,segments:=1 }) (hp:pot X <= 1000) (hn:n <= 1000):PlayOk L X n:=by
 subst hL;exact ⟨by omega,by show 1 + n <= _;omega,by show 0 + n <= _;omega,by show 0 + 8 * n + 20000 <= _;omega⟩
def ks0:Ks:=⟨ByteArray.empty,false,[],0⟩
theorem rb_nil (w:World) (R:Nat -> Prop):RB w R (.slice none 0 0) []:=⟨none,0,[],rfl,Nat.le_refl _,Nat.zero_le _,.inl rfl,(fun _ _ e=>by cases e),.nil _ _⟩
end Go.Proofs.YtpjomdmjohjheaaGreatDoor
end
section
namespace Go.Proofs.YtpjomdmjohjheaaGreatDoor
open Go.RowKit Go.Lk Go.Vfs Go.Log
variable {W0 w w':World} {l d:Nat} {L L':Lg} {X Y:Ds} {g h:Sh} {k a b:Ks} {n q K:Nat} {nm ot:ByteArray} {x:List Nat} {c e:Int} {O:Nat -> Prop}
theorem gs_sm {D':Dk} (h:GS nm L X g n q K c) (hs:Sm X ⟨D',X.fc⟩) (hF:Fau D') (h6:D'.fe ≠ 6):GS nm L ⟨D',X.fc⟩ g n q K c :=
 ⟨{ h.li with inn:=h.li.inn.same hs rfl },hF,h6,⟨h.qt.bd.sm hs rfl,Qt.sm h.qt.al hs,hs.cap.trans h.qt.cap⟩⟩
theorem qt_sm {A:ByteArray -> Prop} {D':Dk} (h:Qt n q A c X) (hs:Sm X ⟨D',X.fc⟩):Qt n q A c ⟨D',X.fc⟩:=⟨h.bd.sm hs rfl,Qt.sm h.al hs,hs.cap.trans h.cap⟩
theorem zdw (X:Ds) (m e:Int):Sm X ⟨layD X.D m e,X.fc⟩:=⟨rfl,rfl,rfl,rfl⟩
theorem ls_lay (h:LS W0 w l d L X O) (m e:Int) (hm:0 <= m /\ m <= 9223372036854775807) (he:e=5 \/ e=9) :
  Calls Tryz.prog 36 #[.pointer (some ⟨d,0,none⟩),.int .i64 m,.int .i64 e] w fun r w'=>r=.returned (.int .i64 0) /\ LS W0 w' l d L ⟨layD X.D m e,X.fc⟩ O /\ Keeps (Oth W0 O) w w':=by
 obtain ⟨Fd,Rd,FL,RL,h1,h2,h3,h4⟩:=h.ex;refine (lay_ok d m e X.D Fd Rd X.fc w h1.disk hm he).mono ?_;rintro r w' ⟨hv,g1,g2⟩;exact ⟨hv,h.now h2 h3 h4 (h1.disk_now (Y:=⟨layD X.D m e,X.fc⟩) ⟨Fd,Rd,g1,fun _ e=>.inl e,fun _ e=>.inl e,g2.mono fun k _ e=>e ▸ h1.disk.fd⟩ (Nat.le_trans h.six h.k.size))⟩
theorem zg6 (hb:L.bad=true) (hr:appR L [] X e L' Y):e=19 /\ L'=L /\ Y=X:=by
 have hm:mayE L ([]:List Nat).length=19:=by unfold mayE;rw [hb];rfl
 rcases hr with ⟨-,h1,h2,h3⟩ | ⟨h0,-⟩
 ·exact ⟨h1.trans hm,h2,h3⟩
 ·rw [hm] at h0;cases h0
theorem zhu (hb:L.bad=true) (hr:synR L X e L' Y):e=19 /\ L'=L /\ Y=X:=by
 have hm:mayE L 0=19:=by unfold mayE;rw [hb];rfl
 rcases hr with ⟨-,h1,h2,h3⟩ | ⟨h0,-⟩
 ·exact ⟨h1.trans hm,h2,h3⟩
 ·rw [hm] at h0;cases h0
theorem zfo (hb:L.bad=true) (hl:x.length <= mxr) (hr:turnR L x X e L' Y):e=19 /\ L'=L /\ Y=X:=by
 have hm:mayE L x.length=19:=by unfold mayE;rw [if_neg (by omega),hb];rfl
 rcases hr with ⟨-,h1,h2,h3⟩ | ⟨h0,-⟩
 ·exact ⟨h1.trans hm,h2,h3⟩
 ·rw [hm] at h0;cases h0
theorem zez {steps:List StepD}:∀ {L:Lg} {X:Ds} {k:Ks},playR steps L X k L' Y a b -> a.all.length <= k.all.length + steps.length /\ b.all.length <= k.all.length + steps.length:=by
 induction steps with
 | nil=>intro L X k h;obtain ⟨-,-,rfl,rfl⟩:=h;exact ⟨Nat.le_refl _,Nat.le_refl _⟩
 | cons s l ih =>
  intro L X k h;simp only [List.length_cons];rcases h with ⟨-,-,-,rfl,rfl⟩ | ⟨-,-,e,L1,Z,-,p⟩ | ⟨-,-,e,L1,Z,-,p⟩ | ⟨-,-,e,L1,Z,-,⟨-,-,-,rfl,rfl⟩ | ⟨-,p⟩⟩ | ⟨-,-,-,-,p⟩
  ·omega
  ·have:=ih p;simp only [List.length_append,List.length_cons,List.length_nil] at this;omega
  ·
   have:=ih p;split at this
   ·have h:a.all.length <= k.all.length + l.length /\ b.all.length <= k.all.length + l.length:=this;omega
   ·omega
  ·exact ⟨Nat.le_add_right _ _,Nat.zero_le _⟩
  ·have h:a.all.length <= 0 + l.length /\ b.all.length <= 0 + l.length:=ih p;omega
  ·have:=ih p;omega
theorem zfd (hs:Shape nm X.dir X.fc h) (hb:Bd n q X):h.cl.length + 1 <= n:=by
 refine Nat.le_trans ?_ hb.nf;have ht:h.tab.length=h.cl.length + 1:=by unfold Sh.tab;simp
 rw [<- ht];have hn:(h.tab.map fun p=>sgf nm p.1).Nodup:=by
  unfold List.Nodup;rw [List.pairwise_map];refine hs.asc.imp_of_mem fun {a b} ha hb' hlt e=>?_;have h1:=hs.rng a ha;have h2:=hs.rng b hb';have h3:=hs.f1;have:=z5p nm (by omega) h1.2 (by omega) h2.2 e;omega
 have:=z84 hn (m:=X.D.files.map Prod.fst) fun t ht=>by
  obtain ⟨p,hp,rfl⟩:=List.mem_map.1 ht;exact List.mem_map.2 ⟨_,zq (hs.blkOf (k:=p.1) (x:=p.2) hp),rfl⟩
 simpa using this
theorem zhv {l:List (ByteArray × Nat)} {fc:Nat -> Fl} {p:ByteArray × Nat} (hp:p ∈ l):(fc p.2).b.length <= tot l fc:=by
 induction l with
 | nil=>cases hp
 | cons a l ih =>
  rw [z0q];rcases List.mem_cons.1 hp with rfl | hp
  ·omega
  ·have:=ih hp;omega
theorem zfe (hl:LI nm L X h) (hb:Bd n q X):L.size <= q:=by
 have hs:=hl.shape;have h1:=zhv (fc:=X.fc) (zq hs.lastAt);have h2:(X.fc h.b).b.length=h.q:=by rw [hs.lastb,List.length_take];have:=hs.lastq;omega
 have:=hb.nt;rw [hl.size];have h1:(X.fc h.b).b.length <= tot X.D.files X.fc:=h1;omega
theorem z8s {most:Nat} (hr:openR sw most ⟨newD 200000,fun _=>⟨[],0⟩⟩ e L Y):e=0 /\ L={ lg0 sw most with first:=1,segment:=1,segments:=1 } /\ ∃ g,GS sw L Y g 2 24 1 200000 /\ Qt 2 24 (NM (manf sw) sw) 200000 Y /\ KW ks0 L g:=by
 obtain ⟨h1,h2,h3,g,h4,h5,h6⟩:=zbh (by omega) hr;refine ⟨h1,h2,g,h4,⟨h4.qt.bd,fun t b hb=>?_,h4.qt.cap⟩,⟨by rw [h5];rfl,by rw [h5];rfl,by rw [h2];rfl,by show (0:Int) <= _;omega⟩⟩;rcases h6 t b hb with rfl | rfl
 ·exact zd8
 ·exact z93 1 (by omega) (by decide)
theorem z9r {most n' q' K':Nat} (hg:GB sw X (fun h=>KF a h \/ KF b h) n' q' K' c) (hr:openR sw most X e L Y) :
  e=0 /\ Y.D.fe=0 /\ (a.Is L \/ b.Is L) /\ L.bad=false /\ L.segments <= n' /\ L.size <= q' /\ ∃ g,GS sw L Y g n' q' K' c:=by
 obtain ⟨hcalm,h,j,h1,h2,h3,h4,h5,h6,h7⟩:=z7c z2y z2x hg.inn zeo hg.fau (by rw [hg.fe];decide) hg.qt hr;obtain ⟨e0,fe'⟩:=hcalm hg.fe;obtain ⟨g1,g2,g3⟩:=h7 e0;refine ⟨e0,fe',h1.imp (fun hk=>zfx hk h3 h4 g1.li) (fun hk=>zfx hk h3 h4 g1.li),g1.li.nob,?_,zfe g1.li g1.qt.bd,_,g1⟩;rw [g1.li.segs];exact zfd g1.li.shape g1.qt.bd
end Go.Proofs.YtpjomdmjohjheaaGreatDoor
end
section
namespace Go.Proofs.YtpjomdmjohjheaaGreatDoor.logFaults
open Go.RowKit Go.Lk Go.Vfs Go.Log Go.Proofs.YtpjomdmjohjheaaGreatDoor
theorem oth2 {W0 w w':World} {O O':Nat -> Prop} {v:Value} {ls:List (List Nat)} (h:RB w (Own W0 O) v ls) (hz:W0.heap.size <= w.heap.size) (hk:Keeps (Oth W0 O') w w') (hO:∀ k,O k -> O' k):RB w' (Own W0 O) v ls :=
 h.keeps hk fun k e f=>e.elim (fun e=>by have:=f.1;omega) (fun e=>f.2 (hO k e))
theorem body (w:World) (hv:Vars w) (h6:6 <= w.heap.size) (a:Option Addr) (m c:Nat) (steps:List StepD) (hs:StepsAt w w a m c steps) (most lay:Int) (hly:I64 lay) (full:Bool):Calls Tryz.prog 7 #[.slice a m c,.int .i64 most,.int .i64 lay,.bool full] w fun e w'=>e=.returned (.bool true) /\ Keeps Nb w w':=by
 have HV:=qq hv;have H6:=qq h6;have HS:=qq hs;have HLY:=qq hly;obtain ⟨hl,hmc,hcm,-⟩:=hs;have hcm2:m <= c /\ c <= 9223372036854775807:=by unfold maxLen at hcm;exact ⟨hmc,hcm⟩
 have HL:=qq hl;clear hmc hcm hv h6 hl hly;go_enter Tryz.func7,Tryz.ntmps7;go_wp2_with fail;refine (zgx 40 a m c steps w w HS.out (by omega)).mono ?_;rintro _ w1 ⟨r,rfl,hf,k1⟩;have HF:=qq hf;have K1:=qq k1;clear hf k1;cases r with
 | true =>
  go_wp2_with fail;refine (z1m w1 (HV.out.nb K1.out) (Nat.le_trans H6.out K1.out.size)).mono ?_;rintro _ wk ⟨rfl,kk⟩;go_wp2;go_ret;exact ⟨rfl,K1.out.trans_nb kk⟩
 | false =>
  have HFEW:=qq (HF.out rfl);have hm:m <= 40:=by have:=HFEW.out.1;rw [HL.out] at this;omega
  clear HF;by_cases c1:most < 20
  ·go_wp2_with fail;refine (z1m w1 (HV.out.nb K1.out) (Nat.le_trans H6.out K1.out.size)).mono ?_;rintro _ wk ⟨rfl,kk⟩;go_wp2;go_ret;exact ⟨rfl,K1.out.trans_nb kk⟩
  by_cases c2:most > 1048576
  ·go_wp2_with fail;refine (z1m w1 (HV.out.nb K1.out) (Nat.le_trans H6.out K1.out.size)).mono ?_;rintro _ wk ⟨rfl,kk⟩;go_wp2;go_ret;exact ⟨rfl,K1.out.trans_nb kk⟩
  by_cases c3:lay < 0
  ·go_wp2_with fail;refine (z1m w1 (HV.out.nb K1.out) (Nat.le_trans H6.out K1.out.size)).mono ?_;rintro _ wk ⟨rfl,kk⟩;go_wp2;go_ret;exact ⟨rfl,K1.out.trans_nb kk⟩
  obtain ⟨mo,rfl⟩:=Int.eq_ofNat_of_zero_le (show 0 <= most by omega);go_wp2_with fail;refine (zcn (W0:=w) (O:=fun _=>False) K1.out HV.out H6.out (fun _ e=>e.elim) 200000 (by omega)).mono ?_;rintro _ w2 ⟨d,rfl,hd,-⟩;have OP:=qq (z3x hd sw mo z2y z2x (by omega) (by omega) (by show pot ⟨newD 200000,_⟩ + 12 <= _;unfold pot;simp [newD]));clear hd;go_wp2_with fail;refine OP.out.mono ?_;rintro _ w3 ⟨er,A,X,hr,hp,-,hc⟩;obtain ⟨rfl,hA,g,gs,qn,kw⟩:=z8s hr;obtain ⟨-,x,rfl,hls⟩:=hc.resolve_right fun h=>h.1 rfl;have PX:Hid (pot X <= 12):=qq hp;have HA:=qq hA;have GX:=qq gs;have QN:=qq qn;have KX:=qq kw;have H:=qq hls;clear hr hp hc hA gs qn kw hls OP;go_wp2_with fail;refine (z07 0 w3).mono ?_;rintro _ _ ⟨rfl,rfl⟩;go_wp2_with fail;refine (zef full w3).mono ?_;rintro _ _ ⟨rfl,rfl⟩;obtain ⟨E,hE⟩:∃ E:Int,(if full then (5:Int) else 9)=E:=⟨_,rfl⟩
  have HE:Hid (E=5 \/ E=9):=by refine qq ?_;rw [<- hE];split <;> omega
  rw [hE];have LY:=qq (ls_lay H.out lay E (by have:=HLY.out.2;omega) HE.out);clear hE H;go_wp2_with fail;refine LY.out.mono ?_;rintro _ w4 ⟨rfl,hls,-⟩;obtain ⟨X1,hX1⟩:∃ Z:Ds,(⟨layD X.D lay E,X.fc⟩:Ds)=Z:=⟨_,rfl⟩
  have G1:Hid (GS sw A X1 g 2 24 1 200000):=qq (by rw [<- hX1];exact gs_sm GX.out (zdw X lay E) ⟨GX.out.fau.dead,GX.out.fau.fuse⟩ (by show E ≠ 6;have:=HE.out;omega));have Q1:Hid (Qt 2 24 (NM (manf sw) sw) 200000 X1):=qq (by rw [<- hX1];exact qt_sm QN.out (zdw X lay E));have P1:Hid (pot X1 <= 12):=qq (by rw [<- hX1];exact PX.out);rw [hX1] at hls;have H:=qq hls;clear hX1 hls LY GX QN PX;go_wp2_with fail;refine (z07 0 w4).mono ?_;rintro _ _ ⟨rfl,rfl⟩;have PLX:=qq (zh4 H.out ks0 (.slice none 0 0) (rb_nil _ _) a c steps (by rw [HL.out];exact HS.out) HFEW.out.2 (zh5 HA.out (by have:=P1.out;omega) (by rw [HL.out];omega)) (by rw [HL.out];show 0 + m <= _;omega));rw [HL.out] at PLX;go_wp2_with fail;refine PLX.out.mono ?_;rintro _ w5 ⟨Ka,Kb,va,vb,L',Y,O',t,rfl,hls,hO,hva,hvb,hra,hpb,ht,hk5⟩;have H5:=qq hls;have VA:=qq hva;have VB:=qq hvb;have RA:=qq hra;have PB5:=qq hpb;have HT:=qq ht;clear hls hO hva hvb hra hpb ht hk5 PLX H;obtain ⟨aa,ac,avs,rfl,-⟩:=id VA.out;obtain ⟨ba,bc,bvs,rfl,-⟩:=id VB.out;go_wp2_with (first | go_skip | (with_reducible refine z0t (t:=53) ?_) | (with_reducible refine zf (t:=53) ?_))
  refine za (valloc (z:=.agg #[.string ByteArray.empty,.bool false,.slice none 0 0,.int .i64 0]) (by kernel_rfl) ?_);intro bA w6 n6;simp only [Nat.reduceAdd,qn];go_wp2_with (first | go_skip | (with_reducible refine z0t (t:=53) ?_) | (with_reducible refine zf (t:=53) ?_))
  refine za (valloc (z:=.agg #[.string ByteArray.empty,.bool false,.slice none 0 0,.int .i64 0]) (by kernel_rfl) ?_);intro bB w7 n7;simp only [Nat.reduceAdd,qn];go_wp2_with (first | go_skip | (with_reducible refine z0t (t:=53) ?_) | (with_reducible refine zf (t:=53) ?_))
  refine za (zd rfl (zc (v:=.agg (Ka.cs (.slice aa Ka.all.length ac))) (n:=4) (by kernel_rfl) (by rfl) (by rfl) (n7.k.nb n6.blk) (by rfl) (by simp [Value.cells]) (Ks.one _)) ?_);intro w8 s8;simp only [Nat.reduceAdd,qn];go_wp2_with (first | go_skip | (with_reducible refine z0t (t:=53) ?_) | (with_reducible refine zf (t:=53) ?_))
  have hab:bB ≠ bA:=fun e=>by have:=n6.lt;have:=n7.ge;omega
  refine za (zd rfl (zc (v:=.agg (Kb.cs (.slice ba Kb.all.length bc))) (n:=4) (by kernel_rfl) (by rfl) (by rfl) (s8.k.at n7.blk hab) (by rfl) (by simp [Value.cells]) (Ks.one _)) ?_);intro w9 s9;simp only [Nat.reduceAdd,qn];have BA:Hid (w9.heap[bA]?=some (.cells (Ka.cs (.slice aa Ka.all.length ac)) 53 (0,0))):=qq (s9.k.at (by have:=s8.blk;rw [show splice (Value.agg #[.string ByteArray.empty,.bool false,.slice none 0 0,.int .i64 0]).cells (Value.agg (Ka.cs (.slice aa Ka.all.length ac))).cells 0=Ka.cs (.slice aa Ka.all.length ac) from z06 rfl] at this;exact this) (Ne.symm hab));have BB:Hid (w9.heap[bB]?=some (.cells (Kb.cs (.slice ba Kb.all.length bc)) 53 (0,0))):=qq (by have:=s9.blk;rw [show splice (Value.agg #[.string ByteArray.empty,.bool false,.slice none 0 0,.int .i64 0]).cells (Value.agg (Kb.cs (.slice ba Kb.all.length bc))).cells 0=Kb.cs (.slice ba Kb.all.length bc) from z06 rfl] at this;exact this);have hg6:=n6.ge;have hg7:=n7.ge;have hz6:=n6.k.size;have hz5:w.heap.size <= w5.heap.size:=H5.out.k.size;have H9:Hid (LS w w9 x d L' Y fun k=>O' k \/ (k=bA \/ k=bB)):=qq (((H5.out.add (N:=fun k=>k=bA \/ k=bB) (n6.k.trans_nb n7.k) (fun k e=>by have:=n6.lt;have:=n7.lt;have:=n7.k.size;omega)).set s8.k (fun k e=>by have e:k=bA:=e;subst e;exact ⟨.inr (.inl rfl),by omega⟩)).set s9.k (fun k e=>by have e:k=bB:=e;subst e;exact ⟨.inr (.inr rfl),by omega⟩));have K59:Hid (Keeps (fun k=>w5.heap.size <= k) w5 w9):=qq ((((n6.k.trans_nb n7.k).of_nb).trans s8.k (fun j hj e=>by have e:j=bA:=e;subst e;exact hg6)).trans s9.k (fun j hj e=>by have e:j=bB:=e;subst e;show w5.heap.size <= _;omega));have VA9:Hid (RB w9 (Own w O') (.slice aa Ka.all.length ac) Ka.all):=qq (VA.out.keeps K59.out fun k e f=>by have f:w5.heap.size <= k:=f;exact e.elim (fun e=>by omega) (fun e=>by have:=H5.out.lt e;omega));have VB9:Hid (RB w9 (Own w O') (.slice ba Kb.all.length bc) Kb.all):=qq (VB.out.keeps K59.out fun k e f=>by have f:w5.heap.size <= k:=f;exact e.elim (fun e=>by omega) (fun e=>by have:=H5.out.lt e;omega));clear n6 n7 s8 s9 hab hg6 hg7 hz6 K59 VA VB H5;go_wp2_with fail;refine (zbk H9.out).mono ?_;rintro _ _ ⟨rfl,rfl⟩;cases hbd:L'.bad with
  | false =>
   go_wp2_with fail;refine (z1m w9 (HV.out.nb H9.out.k) (Nat.le_trans H6.out H9.out.k.size)).mono ?_;rintro _ wk ⟨rfl,kk⟩;go_wp2;go_ret;exact ⟨rfl,H9.out.k.trans_nb kk⟩
  | true =>
   have HB:=qq hbd;clear hbd;obtain ⟨n',q',K',gb,hn',hq',hK'⟩:=zdh z2y z2x G1.out Q1.out KX.out (zbw HS.out HFEW.out) (by rw [HL.out];omega) (by rw [HL.out];have:=HFEW.out.2;omega) (by rw [HL.out];unfold mxn;omega) RA.out HB.out;have GB':=qq gb;have HQ:Hid (q' <= 22000 /\ K' <= 100):=qq (by rw [HL.out] at hq' hK';have:=HFEW.out.2;omega);have HAL:=qq (zez RA.out);clear gb hq' hK' G1 Q1 KX RA;go_wp2_with fail;refine (z3d H9.out).mono ?_;rintro _ _ ⟨rfl,rfl⟩;have hpb:=PB5.out;have hP1:=P1.out;have hA:=HA.out;have hsegs:L'.segments <= 1000:=by have:=hpb.segs;rw [hA] at this;rw [HL.out] at this;have h1:L'.segments <= 1 + m + 1:=this;omega
   have hrecs:L'.recs.length <= 1000:=by have:=hpb.recs;rw [hA] at this;rw [HL.out] at this;have h1:L'.recs.length <= 0 + m:=this;omega
   have hsize:L'.size <= 100000:=by have:=hpb.size;rw [hA] at this;rw [HL.out] at this;have h1:L'.size <= 0 + 8 * m + t:=this;have:=HT.out;omega
   have hpot:pot Y <= 1000:=by have:=hpb.pot;rw [HL.out] at this;omega
   have PY:=qq hpot;have AP:=qq (z13 H9.out (v:=.slice none 0 0) (bs:=[]) (Bytes.nil _ _) (by omega) (by omega) (by omega) (by omega));clear hpb hP1 hA hsegs hrecs hsize hpot PB5 P1 HA HT;go_wp2_with fail;refine AP.out.mono ?_;rintro _ w10 ⟨er,L1,Y1,rfl,hls,hr,-,hk⟩;obtain ⟨rfl,rfl,rfl⟩:=zg6 HB.out hr;have H10:=qq hls;have BA10:=qq (Oth.at hk BA.out (.inr (.inl rfl)));have BB10:=qq (Oth.at hk BB.out (.inr (.inr rfl)));have VA10:=qq (oth2 VA9.out H9.out.k.size hk fun _ e=>.inl e);have VB10:=qq (oth2 VB9.out H9.out.k.size hk fun _ e=>.inl e);clear hls hr hk AP H9 BA BB VA9 VB9;go_wp2_with fail;refine (z07 19 w10).mono ?_;rintro _ _ ⟨rfl,rfl⟩;have SY:=qq (z2z H10.out (by have:=PY.out;omega));go_wp2_with fail;refine SY.out.mono ?_;rintro _ w11 ⟨er,L1,Y1,rfl,hls,hr,-,hk⟩;obtain ⟨rfl,rfl,rfl⟩:=zhu HB.out hr;have H11:=qq hls;have BA11:=qq (Oth.at hk BA10.out (.inr (.inl rfl)));have BB11:=qq (Oth.at hk BB10.out (.inr (.inr rfl)));have VA11:=qq (oth2 VA10.out H10.out.k.size hk fun _ e=>.inl e);have VB11:=qq (oth2 VB10.out H10.out.k.size hk fun _ e=>.inl e);clear hls hr hk SY H10 BA10 BB10 VA10 VB10;go_wp2_with fail;refine (z07 19 w11).mono ?_;rintro _ _ ⟨rfl,rfl⟩;have TN:=qq (z7e H11.out (v:=.slice none 0 0) (bs:=[]) (Bytes.nil _ _) (by have:=PY.out;omega));go_wp2_with fail;refine TN.out.mono ?_;rintro _ w12 ⟨er,L1,Y1,rfl,hls,hr,-,hk⟩;obtain ⟨rfl,rfl,rfl⟩:=zfo HB.out (Nat.zero_le _) hr;have H12:=qq hls;have BA12:=qq (Oth.at hk BA11.out (.inr (.inl rfl)));have BB12:=qq (Oth.at hk BB11.out (.inr (.inr rfl)));have VA12:=qq (oth2 VA11.out H11.out.k.size hk fun _ e=>.inl e);have VB12:=qq (oth2 VB11.out H11.out.k.size hk fun _ e=>.inl e);clear hls hr hk TN H11 BA11 BB11 VA11 VB11;go_wp2_with fail;refine (z07 19 w12).mono ?_;rintro _ _ ⟨rfl,rfl⟩;go_wp2_with fail;refine (z3d H12.out).mono ?_;rintro _ _ ⟨rfl,rfl⟩;have OP:=qq (z3x H12.out.disk sw mo z2y z2x (by omega) (by omega) (by have:=PY.out;omega));go_wp2_with fail;refine OP.out.mono ?_;rintro _ w13 ⟨er,N,Z,hr,hp,hk,hc⟩;obtain ⟨rfl,fe,his,hnb,hsg,hsz,g,gz⟩:=z9r GB'.out hr;obtain ⟨-,y,rfl,hls⟩:=hc.resolve_right fun h=>h.1 rfl;have H:=qq hls;have BA13:=qq (Oth.at hk BA12.out (.inr (.inl rfl)));have BB13:=qq (Oth.at hk BB12.out (.inr (.inr rfl)));have VA13:=qq (oth2 VA12.out H12.out.k.size hk fun _ e=>.inl e);have VB13:=qq (oth2 VB12.out H12.out.k.size hk fun _ e=>.inl e);have PZ:Hid (pot Z <= 1012):=qq (by have:=PY.out;omega);have FE:=qq fe;have IS:=qq his;have NB:=qq hnb;have GZ:=qq gz;have HSG:Hid (N.segments <= 64 /\ N.size <= 22000):=qq (by have:=HQ.out;omega)
   have HRC:Hid (N.recs.length <= 40):=qq (by
    have h2:=HAL.out;rw [HL.out] at h2;have h3:Ka.all.length <= 0 + m /\ Kb.all.length <= 0 + m:=h2;rcases his with h | h
    ·have:=h.pre.length_le;omega
    ·have:=h.pre.length_le;omega)
   clear hr hp hk hc fe his hnb hsg hsz gz hls OP H12 BA12 BB12 VA12 VB12 GB' HAL PY;go_wp2_with fail;refine (z07 0 w13).mono ?_;rintro _ _ ⟨rfl,rfl⟩;go_wp2_with fail;refine (zbk H.out).mono ?_;rintro _ _ ⟨rfl,rfl⟩;rw [NB.out];go_wp2_with (first | go_skip | (with_reducible refine z3q (t:=53) ?_))
   refine za (zt (v:=.agg (Ka.cs (.slice aa Ka.all.length ac))) rfl (z0c agg53 (by rfl) (zm BA13.out) rfl) ?_);simp only [Nat.reduceAdd,qn];have IA:=qq (zfw H.out Ka (.slice aa Ka.all.length ac) _ VA13.out);go_wp2_with fail;refine IA.out.mono ?_;rintro _ w14 ⟨r,rfl,hi,-,k14⟩;have H14:=qq (H.out.nb k14);have HI:=qq hi;cases r with
   | true =>
    clear hi k14 IA H HI;have HF:=qq (LS.mono H14.out (O':=fun _=>False) (fun _ e=>e.elim));go_wp2_with fail;refine (z3d HF.out).mono ?_;rintro _ _ ⟨rfl,rfl⟩;obtain ⟨rn,hrn⟩:∃ n,N.recs.length=n:=⟨_,rfl⟩
    have HRN:=qq hrn;rw [hrn];clear hrn;go_wp2_with (first | go_skip | (with_reducible refine zo ?_) | (with_reducible refine zr (s:=22) ?_) | fail)
    refine za (zh rfl (zl el31 [.int .u8 109,.int .u8 111,.int .u8 114,.int .u8 101] rfl (by simp [List.range'_succ];first | done | rfl | exact ⟨rfl,rfl,rfl,rfl⟩) (by simp [Value.cells]) (by simp)) ?_);rintro _ wx ⟨g1,rfl,n3⟩;simp only [Nat.reduceAdd,qn];go_wp2_with (first | go_skip | (with_reducible refine zo ?_) | (with_reducible refine zr (s:=22) ?_) | fail)
    refine za (zh rfl (z34 Tryz.underlying22 Tryz.underlying5 (by rfl) n3.blk) ?_);rintro _ wy hm;obtain ⟨rfl,hby,k4,hg1,hg2⟩:=z1q (n:=4) (l:=[109,111,114,101]) n3 hm rfl (by simp [Value.cells]) rfl (by simp) (by omega);obtain ⟨hl4,hb4⟩:=LS.lit HF.out k4 hg1 hg2 hby;have AP:=qq (z13 hl4 hb4 (by have:=PZ.out;omega) (by have:=HSG.out;omega) (by have:=HRC.out;omega) (by have:=HSG.out;omega));clear n3 hm hby k4 hl4 hb4 HF H14;simp only [Nat.reduceAdd,qn];go_wp2_with fail;refine AP.out.mono ?_;rintro _ wz ⟨er,N1,Z1,rfl,hls,hr,hp,-⟩;obtain ⟨hcalm,hcs⟩:=z4t z2y z2x GZ.out (by simp [Recs,mxr]) hn' (by have:=HQ.out;simp;omega) (by have:=HQ.out;unfold mxn;omega) hr;obtain ⟨rfl,fe1⟩:=hcalm FE.out;obtain ⟨-,-,hr1,-,g2,gs2,-⟩:=hcs.resolve_right fun h=>h.1 rfl;have H4:=qq hls;have FE1:=qq fe1;have GZ1:=qq gs2;have HR1:Hid (N1.recs.length=rn + 1):=qq (by rw [hr1,List.length_append,HRN.out];rfl);have SY:=qq (z2z hls (by have:=PZ.out;omega));clear hls hr hp hcalm hcs fe1 hr1 gs2 AP GZ FE;go_wp2_with fail;refine (z07 0 wz).mono ?_;rintro _ _ ⟨rfl,rfl⟩;go_wp2_with fail;refine SY.out.mono ?_;rintro _ wu ⟨er,N2,Z2,rfl,hls,hr,-,-⟩;obtain ⟨hcalm,hcs⟩:=z4u z2y z2x GZ1.out hr;obtain ⟨rfl,-⟩:=hcalm FE1.out;obtain ⟨-,rfl,-⟩:=hcs.resolve_right fun h=>h.1 rfl;have H5:=qq hls;have LN:=z3d hls;rw [show ({ N1 with synced:=N1.recs.length }:Lg).recs.length=rn + 1 from HR1.out] at LN;replace LN:=qq LN;have hrn0:rn <= 40:=by rw [<- HRN.out];exact HRC.out
    clear hls hr hcalm hcs SY H4 GZ1 FE1 HR1;go_wp2_with fail;refine (z07 0 wu).mono ?_;rintro _ _ ⟨rfl,rfl⟩;have iw:IntKind.i64.wrap ((rn:Int) + 1)=(rn:Int) + 1:=IntWalk.i64_in _ (by omega);have ie:(((rn + 1:Nat):Int) == (rn:Int) + 1)=true:=by simp
    go_wp2_with fail;refine LN.out.mono ?_;rintro _ _ ⟨rfl,rfl⟩;go_wp2_with fail;refine (z1m wu H5.out.vars (Nat.le_trans H6.out H5.out.k.size)).mono ?_;rintro _ wk ⟨rfl,kk⟩;go_wp2;go_ret;exact ⟨rfl,H5.out.k.trans_nb kk⟩
   | false =>
    have BB14:=qq (k14.nb BB13.out);have VB14:=qq (VB13.out.keeps k14 (fun _ _ e=>e));have hb:Kb.Is N:=IS.out.resolve_left fun h=>by have:=hi h;cases this
    have IB:=qq ((zfw H14.out Kb (.slice ba Kb.all.length bc) _ VB14.out));have HBI:=qq hb;clear hi k14 IA H HI hb;go_wp2_with (first | go_skip | (with_reducible refine z3q (t:=53) ?_))
    refine za (zt (v:=.agg (Kb.cs (.slice ba Kb.all.length bc))) rfl (z0c agg53 (by rfl) (zm BB14.out) rfl) ?_);simp only [Nat.reduceAdd,qn];go_wp2_with fail;refine IB.out.mono ?_;rintro _ w15 ⟨r,rfl,hi,-,k15⟩;obtain rfl:=hi HBI.out;have H15:=qq (H14.out.nb k15);clear hi k15 IB H14 HBI;have HF:=qq (LS.mono H15.out (O':=fun _=>False) (fun _ e=>e.elim));go_wp2_with fail;refine (z3d HF.out).mono ?_;rintro _ _ ⟨rfl,rfl⟩;obtain ⟨rn,hrn⟩:∃ n,N.recs.length=n:=⟨_,rfl⟩
    have HRN:=qq hrn;rw [hrn];clear hrn;go_wp2_with (first | go_skip | (with_reducible refine zo ?_) | (with_reducible refine zr (s:=22) ?_) | fail)
    refine za (zh rfl (zl el31 [.int .u8 109,.int .u8 111,.int .u8 114,.int .u8 101] rfl (by simp [List.range'_succ];first | done | rfl | exact ⟨rfl,rfl,rfl,rfl⟩) (by simp [Value.cells]) (by simp)) ?_);rintro _ wx ⟨g1,rfl,n3⟩;simp only [Nat.reduceAdd,qn];go_wp2_with (first | go_skip | (with_reducible refine zo ?_) | (with_reducible refine zr (s:=22) ?_) | fail)
    refine za (zh rfl (z34 Tryz.underlying22 Tryz.underlying5 (by rfl) n3.blk) ?_);rintro _ wy hm;obtain ⟨rfl,hby,k4,hg1,hg2⟩:=z1q (n:=4) (l:=[109,111,114,101]) n3 hm rfl (by simp [Value.cells]) rfl (by simp) (by omega);obtain ⟨hl4,hb4⟩:=LS.lit HF.out k4 hg1 hg2 hby;have AP:=qq (z13 hl4 hb4 (by have:=PZ.out;omega) (by have:=HSG.out;omega) (by have:=HRC.out;omega) (by have:=HSG.out;omega));clear n3 hm hby k4 hl4 hb4 HF H15;simp only [Nat.reduceAdd,qn];go_wp2_with fail;refine AP.out.mono ?_;rintro _ wz ⟨er,N1,Z1,rfl,hls,hr,hp,-⟩;obtain ⟨hcalm,hcs⟩:=z4t z2y z2x GZ.out (by simp [Recs,mxr]) hn' (by have:=HQ.out;simp;omega) (by have:=HQ.out;unfold mxn;omega) hr;obtain ⟨rfl,fe1⟩:=hcalm FE.out;obtain ⟨-,-,hr1,-,g2,gs2,-⟩:=hcs.resolve_right fun h=>h.1 rfl;have H4:=qq hls;have FE1:=qq fe1;have GZ1:=qq gs2;have HR1:Hid (N1.recs.length=rn + 1):=qq (by rw [hr1,List.length_append,HRN.out];rfl);have SY:=qq (z2z hls (by have:=PZ.out;omega));clear hls hr hp hcalm hcs fe1 hr1 gs2 AP GZ FE;go_wp2_with fail;refine (z07 0 wz).mono ?_;rintro _ _ ⟨rfl,rfl⟩;go_wp2_with fail;refine SY.out.mono ?_;rintro _ wu ⟨er,N2,Z2,rfl,hls,hr,-,-⟩;obtain ⟨hcalm,hcs⟩:=z4u z2y z2x GZ1.out hr;obtain ⟨rfl,-⟩:=hcalm FE1.out;obtain ⟨-,rfl,-⟩:=hcs.resolve_right fun h=>h.1 rfl;have H5:=qq hls;have LN:=z3d hls;rw [show ({ N1 with synced:=N1.recs.length }:Lg).recs.length=rn + 1 from HR1.out] at LN;replace LN:=qq LN;have hrn0:rn <= 40:=by rw [<- HRN.out];exact HRC.out
    clear hls hr hcalm hcs SY H4 GZ1 FE1 HR1;go_wp2_with fail;refine (z07 0 wu).mono ?_;rintro _ _ ⟨rfl,rfl⟩;have iw:IntKind.i64.wrap ((rn:Int) + 1)=(rn:Int) + 1:=IntWalk.i64_in _ (by omega);have ie:(((rn + 1:Nat):Int) == (rn:Int) + 1)=true:=by simp
    go_wp2_with fail;refine LN.out.mono ?_;rintro _ _ ⟨rfl,rfl⟩;go_wp2_with fail;refine (z1m wu H5.out.vars (Nat.le_trans H6.out H5.out.k.size)).mono ?_;rintro _ wk ⟨rfl,kk⟩;go_wp2;go_ret;exact ⟨rfl,H5.out.k.trans_nb kk⟩
theorem walk {H:Type} {enc:TypeId × Value -> H} {base:Nat} (w:World) (hv:Vars w) (h6:6 <= w.heap.size) {v0:Value} {d0:DataW H} {p0:List MemPlace} (kv0:Value.okWide Tryz.prog w .any base 34 v0) (k0:DataW.Trod enc Tryz.prog w 0 (fun _=>true) true 34 v0 d0 p0) {a1:Int} (w1:(Lit.int .i64 a1).wf=true) {a2:Int} (w2:(Lit.int .i64 a2).wf=true) {a3:Bool} :
  Calls Tryz.prog 7 #[v0,.int .i64 a1,.int .i64 a2,.bool a3] w fun e w'=>e=.returned (.bool true) /\ Below w.heap.size w w':=by
 obtain ⟨a,c,L,rfl,hs⟩:=zff kv0 k0;refine (body w hv h6 a L.length c L hs a1 a2 (z6i w2) a3).mono ?_;rintro e w' ⟨h1,h2⟩;exact ⟨h1,h2.below⟩
end Go.Proofs.YtpjomdmjohjheaaGreatDoor.logFaults
end
