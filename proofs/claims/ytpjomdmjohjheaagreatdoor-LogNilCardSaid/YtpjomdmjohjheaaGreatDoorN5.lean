import Derived.Test.YtpjomdmjohjheaaGreatDoorN4
set_option linter.unusedVariables false
set_option linter.unusedSimpArgs false
set_option maxRecDepth 100000
set_option maxHeartbeats 8000000
section
namespace Go.Log
open Go.Vfs
variable {nm:ByteArray} {X Y Z:Ds} {P P':Sh -> Prop} {e:Int} {s t:ByteArray} {h g:Sh} {f:Dir} {fc:Nat -> Fl} {L L':Lg} {x:List Nat}
def Left (g:Sh) (all:List (List Nat)) (h:Sh):Prop:=h.sn=g.sn /\ h.closed ++ h.rs <+: all /\ g.closed.length + g.du <= h.closed.length + h.du
theorem z7l (g:Sh) (all:List (List Nat)) (ha:g.closed ++ g.rs <+: all):Left g all g:=⟨rfl,ha,Nat.le_refl _⟩
theorem z5g {g:Sh} (hd:g.du <= g.rs.length) {all:List (List Nat)} (ha:g.closed ++ g.rs <+: all):Left g all { g with du:=g.rs.length }:=⟨rfl,ha,by show _ <= g.closed.length + g.rs.length;omega⟩
theorem zcj {g:Sh} (hd:g.du <= g.rs.length) {all:List (List Nat)} (ha:g.closed ++ g.rs <+: all) (n b:Nat):Left g all (Sh.grow { g with du:=g.rs.length } n b):=by
 refine ⟨rfl,?_,?_⟩
 ·show (Sh.grow _ _ _).closed ++ [] <+: all;rw [z0v,List.append_nil];exact ha
 ·show _ <= (Sh.grow _ _ _).closed.length + 0;rw [z0v,List.length_append];show _ <= g.closed.length + g.rs.length + 0;omega
theorem zc1 (h:LI nm L X g) (hx:Recs [x]) (hr:appR L x X e L' Y) :
  (L'.bad=false /\ e=0 /\ L.segment <= L'.segment /\ L'.recs=L.recs ++ [x] /\ ∃ g',LI nm L' Y g' /\ g'.sn=g.sn /\ g.closed.length + g.du <= g'.closed.length + g'.du) \/
  (L'.bad=true /\ e ≠ 0 /\ L'.segment=L.segment /\ L'.synced=L.synced /\ In nm Y (Left g (L.recs ++ [x]))):=by
 have hxl:x.length <= mxr:=(hx x (by simp)).1;have hgd:g.du <= g.rs.length:=h.shape.lastd;have hpre:g.closed ++ g.rs <+: L.recs ++ [x]:=by rw [h.recs];exact List.prefix_append _ _
 rcases hr with ⟨h0,-⟩ | ⟨-,e1,Z,h1,h2⟩
 ·exact absurd (h.may hxl) h0
 rw [h.atseg] at h1;obtain ⟨s1,h3⟩:=z0p h1;rcases h3 with ⟨h3,h4⟩ | ⟨b,k,hb,hk,hk0,hf⟩
 ·
  rcases h2 with ⟨-,rfl,rfl,rfl⟩ | ⟨h5,-⟩ | ⟨h5,-⟩
  ·exact .inr ⟨rfl,h3,rfl,rfl,(h.inn.same s1 h4).mono fun q e=>by rw [e];exact z7l g _ hpre⟩
  ·exact absurd h5 h3
  ·exact absurd h5 h3
 obtain rfl:b=g.b:=Option.some.inj (hb.symm.trans h.shape.lastAt);have i1:In nm Z (·={ g with rs:=g.rs ++ [x],q:=g.q + k }):=h.inn.write s1 hf fun q f hq hsh=>by
  subst hq;exact ⟨_,rfl,hsh.append h.full hx (by rw [zu] at hk ⊢;exact hk)⟩
 rcases h2 with ⟨h5,rfl,rfl,rfl⟩ | ⟨rfl,h5,rfl,rfl,rfl⟩ | ⟨rfl,h5,h6⟩
 ·refine .inr ⟨rfl,h5,rfl,rfl,i1.mono fun q e=>?_⟩;subst e;refine ⟨rfl,?_,Nat.le_refl _⟩;show g.closed ++ (g.rs ++ [x]) <+: _;rw [<- List.append_assoc,<- h.recs];exact List.prefix_rfl
 all_goals
  have hkl:=hk0 rfl
  subst hkl;have hfull:g.q + (recd x).length=(enc (g.rs ++ [x])).length:=by rw [z1g,z1r,List.length_append,h.full]
 ·
  refine .inl ⟨h.nob,rfl,Nat.le_refl _,rfl,_,{ inn:=i1,full:=hfull,name:=h.name,nob:=h.nob,first:=h.first,seg:=h.seg,segs:=h.segs,size:=?_,recs:=?_,syn:=h.syn,snap:=h.snap },rfl,Nat.le_refl _⟩
  ·show L.size + _=g.q + _;rw [h.size,zu]
  ·show L.recs ++ [x]=g.closed ++ (g.rs ++ [x]);rw [h.recs,List.append_assoc]
 ·
  have l1:LI nm { L with recs:=L.recs ++ [x],size:=L.size + (8 + x.length) } Z { g with rs:=g.rs ++ [x],q:=g.q + (recd x).length }:=by
   refine { inn:=i1,full:=hfull,name:=h.name,nob:=h.nob,first:=h.first,seg:=h.seg,segs:=h.segs,size:=?_,recs:=?_,syn:=h.syn,snap:=h.snap }
   ·show L.size + _=g.q + _;rw [h.size,zu]
   ·show L.recs ++ [x]=g.closed ++ (g.rs ++ [x]);rw [h.recs,List.append_assoc]
  have hpr:g.closed ++ (g.rs ++ [x]) <+: L.recs ++ [x]:=by rw [<- List.append_assoc,<- h.recs];exact List.prefix_rfl
  have hle:g.du <= (g.rs ++ [x]).length:=by rw [List.length_append];omega
  rcases zei l1 h6 with ⟨rfl,b,rfl,h7⟩ | ⟨h7,rfl,h8⟩
  ·
   refine .inl ⟨h.nob,rfl,?_,rfl,_,h7,rfl,?_⟩
   ·show L.segment <= nx nm Z + 1;have:=l1.shape.nx.1;have e:L.segment=g.m:=h.seg;have:g.m <= nx nm Z:=this;omega
   ·show _ <= (Sh.grow _ _ _).closed.length + 0;rw [z0v,List.length_append];show _ <= g.closed.length + (g.rs ++ [x]).length + 0;omega
  ·
   refine .inr ⟨rfl,h7,rfl,rfl,h8.mono fun q hq=>?_⟩;rcases hq with rfl | rfl | ⟨n,b,rfl⟩
   ·exact ⟨rfl,hpr,Nat.le_refl _⟩
   ·exact z5g (g:={ g with rs:=g.rs ++ [x],q:=g.q + (recd x).length }) hle hpr
   ·exact zcj (g:={ g with rs:=g.rs ++ [x],q:=g.q + (recd x).length }) hle hpr n b
theorem zf3 {l:List ByteArray} (hi:∀ t ∈ l,∀ f fc h,P h -> Shape nm f fc h -> h.names nm t -> f t=none):∀ {X},In nm X P -> askO (l.map rmO) X e Y -> In nm Y P:=by
 induction l with
 | nil=>intro X h ha;obtain ⟨-,rfl⟩:=ha;exact h
 | cons t l ih =>
  intro X h ha;have step:∀ {e Z},rmO t X e Z -> In nm Z P:=fun hr=>by
   obtain ⟨h1,⟨-,h2,-⟩ | ⟨-,b,-,h2⟩⟩:=z1k hr
   ·exact h.same h2 h1
   ·exact h.rm h2 h1 fun f q hq hsh hn=>hi t (by simp) f _ q hq hsh hn
  rcases zj (o:=rmO t) (l:=l.map rmO) ha with ⟨-,h1⟩ | ⟨Z,h1,h2⟩
  ·exact step h1
  ·exact ih (fun t ht=>hi t (by simp [ht])) (step h1) h2
theorem zbq (h:LI nm L X g) (hx:Recs [x]) (hr:turnR L x X e L' Y) :
  (e=0 /\ ∃ s n bm bs b,L'={ L with snap:=x,has:=true,recs:=[],synced:=0,first:=n,segment:=n,segments:=1,size:=0 } /\ LI nm L' Y (Sh.new s n x bm bs b) /\ L.segment <= n) \/
  (e ≠ 0 /\ L'={ L with bad:=true } /\ In nm Y fun q=>Left g L.recs q \/ q.sn=some x /\ q.closed=[] /\ q.rs=[]):=by
 have hxl:x.length <= mxr:=(hx x (by simp)).1;rcases hr with ⟨h0,-⟩ | ⟨-,h1,h2⟩
 ·exact absurd (h.may hxl) h0
 rw [h.atseg] at h1;obtain rfl:nm=L.name:=h.name.symm;have hgd:g.du <= g.rs.length:=h.shape.lastd;have hpre:g.closed ++ g.rs <+: L.recs:=by rw [h.recs];exact List.prefix_rfl
 have bad:∀ {P:Sh -> Prop},e ≠ 0 -> In L.name Y P -> (∀ h,P h -> Left g L.recs h \/ h.sn=some x /\ h.closed=[] /\ h.rs=[]) -> (e=0 /\ ∃ s n bm bs b,L'={ L with snap:=x,has:=true,recs:=[],synced:=0,first:=n,segment:=n,segments:=1,size:=0 } /\ LI L.name L' Y (Sh.new s n x bm bs b) /\ L.segment <= n) \/
   (e ≠ 0 /\ L'={ L with bad:=true } /\ In L.name Y fun q=>Left g L.recs q \/ q.sn=some x /\ q.closed=[] /\ q.rs=[]):=fun h0 hi hP=>by
  rcases h2 with ⟨-,h2⟩ | ⟨h2,-⟩
  ·exact .inr ⟨h0,h2,hi.mono hP⟩
  ·exact absurd h2 h0
 rcases zj h1 with ⟨h0,h1⟩ | ⟨Z1,h1,hk⟩
 ·
  obtain ⟨q1,⟨-,q2⟩ | ⟨q2,-⟩⟩:=z0c h1
  ·exact bad h0 (h.inn.same q1 q2) fun _ e=>.inl (e ▸ z7l g _ hpre)
  ·exact absurd q2 h0
 obtain ⟨i1,s1⟩:=h.inn.synced h.full h1;obtain ⟨g1,hg1⟩:∃ g1,g1=({ g with du:=g.rs.length }:Sh):=⟨_,rfl⟩
 have lg1:Left g L.recs g1:=hg1 ▸ z5g hgd hpre;have q1:g1.q=(enc g1.rs).length:=by rw [hg1];exact h.full
 have du1:g1.du=g1.rs.length:=by rw [hg1]
 have m1:g1.m=L.segment:=by rw [hg1];exact h.seg.symm
 rw [<- hg1] at i1;have sh1:Shape L.name Z1.dir Z1.fc g1:=by obtain ⟨q,rfl,hq⟩:=i1.live;exact hq
 have n1:nx L.name Z1=nx L.name X:=z58 s1;clear h1 hg1;rcases zj hk with ⟨h0,-,h1⟩ | ⟨Z2,⟨h1,e2⟩,hk2⟩
 ·subst h1;exact bad h0 i1 fun _ e=>.inl (e ▸ lg1)
 clear hk;subst e2;have hlt:nx L.name X + 1 < mxn:=by
  unfold turnE at h1;split at h1
  ·cases h1
  ·omega
 obtain ⟨k,hk⟩:∃ k,nx L.name X + 1=k:=⟨_,rfl⟩
 have hk':nx L.name X + 2=k + 1:=by omega
 rw [hk,hk'] at hk2;rw [hk'] at h2;have hmm:=sh1.nx;rw [n1] at hmm;have hno:∀ j,k <= j -> j <= mxn -> Z2.dir (sgf L.name j)=none:=fun j h3 h4=>(z3z (nm:=L.name) (by rw [n1];omega) h4).1;have kk:1 <= k /\ k + 1 <= mxn /\ g1.m < k /\ g1.s < k:=by omega
 clear n1 hmm h1 hlt hk hk';have irr:∀ f fc q,q=g1 -> Shape L.name f fc q -> ¬ q.names L.name (snf L.name k):=fun f fc q e hsh=>by
  subst e;exact zco kk.1 (by omega) (by omega) hsh.s1 hsh.f1
 rcases zj hk2 with ⟨h0,h3⟩ | ⟨Z3,h3,hk3⟩
 ·exact bad h0 (z6c i1 irr h3).1 fun _ e=>.inl (e ▸ lg1)
 obtain ⟨hn3,b1,hb1,i3,d3,f3,f3'⟩:=(z6c i1 irr h3).2 rfl;have i3':In L.name Z3 (·=g1):=i3.mono fun _ e=>e.1;clear h3 irr hk2;rcases zj hk3 with ⟨h0,h4⟩ | ⟨Z4,h4,hk4⟩
 ·
  rcases z0j h4 with ⟨-,q1,q2⟩ | ⟨q1,-⟩
  ·exact bad h0 (i3'.same q1 q2) fun _ e=>.inl (e ▸ lg1)
  ·exact absurd q1 h0
 rcases z0j h4 with ⟨q1,-⟩ | ⟨-,hn4,-,b2,hb2,hd4,hf4⟩
 ·exact absurd rfl q1
 have i4:=(i3'.grow q1 du1 (n:=k + 1) (by omega) kk.2.1 hb2 hn4 hd4 hf4).mono fun _ e=>e.1;have d4:Z4.dir=Dir.put Z3.dir (sgf L.name (k + 1)) b2:=by unfold Ds.dir;rw [hd4.files,z0e hn4]
 have hb21:b1 ≠ b2:=hb2 b1 (.inl ⟨_,zn (show flook Z3.D.files (snf L.name k)=some b1 by show Z3.dir _=_;rw [d3];exact if_pos rfl),rfl⟩);have f4:Z4.fc b2=⟨[],0⟩:=by rw [hf4];exact if_pos rfl
 have f4':Z4.fc b1=⟨recd x,(recd x).length⟩:=by rw [hf4];exact (if_neg hb21).trans f3
 have kn:∀ j,1 <= j -> j <= mxn -> sgf L.name j ≠ snf L.name k:=fun j h3 h4=>z2o L.name h3 h4;have d4s:Z4.dir (snf L.name k)=some b1:=by
  rw [d4];show (if snf L.name k=sgf L.name (k + 1) then _ else Z3.dir _)=_;rw [if_neg (fun e=>kn (k + 1) (by omega) kk.2.1 e.symm),d3];exact if_pos rfl
 have d4g:Z4.dir (sgf L.name (k + 1))=some b2:=by rw [d4];exact if_pos rfl
 have d4n:∀ j,k + 1 < j -> j <= mxn -> Z4.dir (sgf L.name j)=none:=fun j h5 h6=>by
  rw [d4];show (if sgf L.name j=sgf L.name (k + 1) then _ else Z3.dir _)=_;rw [if_neg (fun e=>by have:=z74 L.name (by omega) h6 (by omega) kk.2.1 e;omega),d3];show (if sgf L.name j=snf L.name k then _ else Z2.dir _)=_;rw [if_neg (kn j (by omega) h6)];exact hno j (by omega) h6
 clear hd4 hf4 h4 hn4 d4 i3 i3' d3 f3 f3' hn3 hb1 hb2 hno hk3;have nw:∀ b fc,(∀ t c,t ≠ newf L.name -> Z4.dir t=some c -> c ≠ b) -> fc b=⟨recd (mrec k (k + 1)),(recd (mrec k (k + 1))).length⟩ -> (∀ c,c ≠ b -> fc c=Z4.fc c) -> Shape L.name (manD L.name Z4.dir b) fc (Sh.new k (k + 1) x b b1 b2):=fun b fc h3 h5 h6=>by
  have at':∀ t,t ≠ manf L.name -> t ≠ newf L.name -> manD L.name Z4.dir b t=Z4.dir t:=fun t h7 h8=>by unfold manD;rw [if_neg h7,if_neg h8]
  have n1:=z6l L.name kk.1 (show k <= mxn by omega);have n2:=z6m L.name kk.1 (show k <= mxn by omega);have n3:∀ j,1 <= j -> j <= mxn -> sgf L.name j ≠ manf L.name:=fun j a c=>z2m L.name a c;have n4:∀ j,1 <= j -> j <= mxn -> sgf L.name j ≠ newf L.name:=fun j a c=>z2n L.name a c;have e1:b1 ≠ b:=h3 _ _ n2 d4s;have e2:b2 ≠ b:=h3 _ _ (n4 _ (by omega) kk.2.1) d4g
  exact Shape.new kk.1 (by omega) (by omega) kk.2.1 hx (if_pos rfl) h5 ((at' _ n1 n2).trans d4s) ((h6 b1 e1).trans f4') ((at' _ (n3 _ (by omega) kk.2.1) (n4 _ (by omega) kk.2.1)).trans d4g) ((h6 b2 e2).trans f4)
   (fun j a c=>(at' _ (n3 j (by omega) c) (n4 j (by omega) c)).trans (d4n j a c)) e2 (fun e=>hb21 e.symm)
 have mi:∀ {e Z},manO L.name k (k + 1) Z4 e Z -> _:=fun {e Z} hm=>man_in (P':=fun h=>(h=g1 \/ h=g1.grow (k + 1) b2) \/ ∃ b,h=Sh.new k (k + 1) x b b1 b2) i4 (fun _ e=>.inl e) hm fun b fc h3 h5 h6=>⟨_,.inr ⟨b,rfl⟩,nw b fc h3 h5 h6⟩
 have lgg:Left g L.recs (g1.grow (k + 1) b2):=by
  refine ⟨lg1.1,?_,?_⟩
  ·show (Sh.grow _ _ _).closed ++ [] <+: _;rw [z0v,List.append_nil];exact lg1.2.1
  ·show _ <= (Sh.grow _ _ _).closed.length + 0;rw [z0v,List.length_append];have:=lg1.2.2;rw [du1] at this;omega
 rcases zj hk4 with ⟨h0,h5⟩ | ⟨Z5,h5,hk5⟩
 ·
  refine bad h0 (mi h5).1 fun q hq=>?_;rcases hq with (rfl | rfl) | ⟨b,rfl⟩
  ·exact .inl lg1
  ·exact .inl lgg
  ·exact .inr ⟨rfl,rfl,rfl⟩
 obtain ⟨b3,hb3,d5,f5,f5',r5⟩:=(mi h5).2 rfl;have i5:In L.name Z5 (·=Sh.new k (k + 1) x b3 b1 b2):=⟨(mi h5).1.wf,fun f hf=>⟨_,rfl,by rw [r5 f hf,d5];exact nw b3 _ hb3 f5 f5'⟩⟩
 have i6:∀ {e Z},sweepO L.name k (k + 1) Z5 e Z -> In L.name Z (·=Sh.new k (k + 1) x b3 b1 b2):=fun {e Z} hw=>by
  obtain ⟨ns,-,hw⟩:=hw;refine zf3 (fun t ht f fc q hq hsh hn=>?_) i5 hw;subst hq;have hsw:=(List.mem_filter.1 ht).2;simp only [swept,Bool.and_eq_true,Bool.not_eq_true',Bool.or_eq_false_iff,decide_eq_false_iff_not] at hsw;obtain ⟨-,⟨h6,h7⟩,h8⟩:=hsw;rcases hn with e | ⟨-,e⟩ | ⟨j,j1,j2,e⟩
  ·exact absurd e h6
  ·exact absurd e h7
  ·subst e;have j1':k + 1 <= j:=j1;have:j ≠ k + 1:=fun e=>h8 (by rw [e]);rw [hsh.segs j j1 j2];exact z7i (l:=[(k + 1,b2)]) (fun p hp=>by rw [List.mem_singleton.1 hp];exact fun e=>this e.symm)
 clear mi nw hb3 d5 f5 f5' r5 h5 hk4;have h7:=i6 (z06 hk5);by_cases h0:e=0
 ·
  subst h0;rcases h2 with ⟨h2,-⟩ | ⟨-,h2⟩
  ·exact absurd rfl h2
  refine .inl ⟨rfl,k,k + 1,b3,b1,b2,h2,?_,by omega⟩;subst h2;exact { inn:=h7,full:=rfl,name:=rfl,nob:=h.nob,first:=rfl,seg:=rfl,segs:=rfl,size:=rfl,recs:=rfl,syn:=Nat.le_refl _,snap:=.inr ⟨x,rfl,rfl,rfl⟩ }
 ·exact bad h0 h7 fun q hq=>by subst hq;exact .inr ⟨rfl,rfl,rfl⟩
end Go.Log
end
section
namespace Go.Log
open Go.Vfs
open Go.Proofs.YtpjomdmjohjheaaGreatDoor (readOf)
variable {nm:ByteArray} {X Y Z:Ds} {P P':Sh -> Prop} {e:Int} {s t:ByteArray} {h g:Sh} {f:Dir} {fc:Nat -> Fl} {L L':Lg} {x:List Nat}
theorem flook_mem' {l:List (ByteArray × Nat)} {b:Nat} (hn:(l.map Prod.fst).Nodup) (h:(s,b) ∈ l):flook l s=some b:=by
 induction l with
 | nil=>cases h
 | cons p l ih =>
  rw [List.map_cons,List.nodup_cons] at hn;rw [z09];rcases List.mem_cons.1 h with h | h
  ·subst h;simp
  ·have hne:p.1 ≠ s:=fun e=>hn.1 (e ▸ List.mem_map.2 ⟨_,h,rfl⟩);rw [if_neg hne];exact ih hn.2 h
theorem z5x {l l':List (ByteArray × Nat)} (hn:(l.map Prod.fst).Nodup) (hp:l'.Perm l):flook l'=flook l:=by
 funext t;have hn':(l'.map Prod.fst).Nodup:=(hp.map Prod.fst).nodup_iff.2 hn;cases e:flook l' t with
 | some b=>exact (flook_mem' hn (hp.mem_iff.1 (zn e))).symm
 | none =>
  cases e2:flook l t with
  | none=>rfl
  | some b=>rw [flook_mem' hn' (hp.mem_iff.2 (zn e2))] at e;cases e
def Sh.move (h:Sh) (v:Nat -> Nat) (q:Nat):Sh:={ h with bm:=v h.bm,bs:=v h.bs,cl:=h.cl.map fun c=>(c.1,v c.2.1,c.2.2),b:=v h.b,q:=q }
theorem z9f (h:Sh) (v:Nat -> Nat) (q:Nat):(h.move v q).closed=h.closed:=by
 unfold Sh.move Sh.closed;simp only [List.flatMap_def,List.map_map];rfl
theorem z5k (h:Sh) (v:Nat -> Nat) (q:Nat):(h.move v q).tab=h.tab.map fun p=>(p.1,v p.2):=by
 unfold Sh.move Sh.tab;simp only [List.map_append,List.map_map];rfl
theorem Shape.move (hs:Shape nm f fc h) (v:Nat -> Nat) {f':Dir} {fc':Nat -> Fl} (hf:∀ t,f' t=(f t).map v) (hv:∀ t t' b b',f t=some b -> f t'=some b' -> v b=v b' -> b=b')
  (hc:∀ t b,f t=some b -> ∃ n,(fc b).lasts <= n /\ n <= (fc b).b.length /\ fc' (v b)=⟨(fc b).b.take n,n⟩):∃ q,Shape nm f' fc' (h.move v q):=by
 have full:∀ t b l,f t=some b -> fc b=⟨l,l.length⟩ -> fc' (v b)=⟨l,l.length⟩:=fun t b l hb hl=>by
  obtain ⟨n,h1,h2,h3⟩:=hc t b hb;rw [hl] at h1 h2 h3;simp only at h1 h2 h3;have:n=l.length:=by omega
  subst this;rw [List.take_length] at h3;exact h3
 obtain ⟨n,n1,n2,n3⟩:=hc _ _ hs.lastAt;have hl:(fc h.b).b.length=h.q:=by rw [hs.lastb,List.length_take];have:=hs.lastq;omega
 have hlast:=hs.lastAt;refine ⟨n,{ f1:=hs.f1,s1:=hs.s1,man:=?_,manc:=full _ _ _ hs.man hs.manc,snap:=?_,asc:=?_,rng:=?_,segs:=?_,clc:=?_,lastb:=?_,lastq:=?_,lastl:=?_,lastd:=hs.lastd,lastr:=hs.lastr,apart:=?_ }⟩
 ·rw [hf,hs.man];rfl
 ·exact hs.snap.imp id fun ⟨g1,y,g2,g3,g4,g5⟩=>⟨g1,y,g2,g3,by rw [hf];show (f (snf nm h.s)).map v=_;rw [g4];rfl,full _ _ _ g4 g5⟩
 ·rw [z5k,List.pairwise_map];exact hs.asc
 ·intro p hp;rw [z5k] at hp;obtain ⟨q,hq,rfl⟩:=List.mem_map.1 hp;exact hs.rng q hq
 ·intro k k1 k2;rw [hf,hs.segs k k1 k2];unfold Sh.blk;rw [z5k,List.find?_map,Option.map_map,Option.map_map];rfl
 ·intro c hc';obtain ⟨c0,h0,rfl⟩:=List.mem_map.1 (show c ∈ h.cl.map fun c=>(c.1,v c.2.1,c.2.2) from hc');exact ⟨full _ _ _ (hs.blkOf (mem_tab' h0)) (hs.clc c0 h0).1,(hs.clc c0 h0).2⟩
 ·show (fc' (v h.b)).b=(enc h.rs).take n;rw [n3,hs.lastb,List.take_take,Nat.min_eq_left (by omega)]
 ·show n <= (enc h.rs).length;have:=hs.lastq;omega
 ·show _ <= (fc' (v h.b)).lasts /\ (fc' (v h.b)).lasts <= n;rw [n3];have:=hs.lastl;exact ⟨by show (enc (h.rs.take h.du)).length <= n;omega,Nat.le_refl _⟩
 ·
  obtain ⟨a1,a2,a3⟩:=hs.apart;refine ⟨fun e=>a1 (hv _ _ _ _ hlast hs.man e),fun g1 e=>?_,fun c hc' e=>?_⟩
  ·
   rcases hs.snap with ⟨h0,-⟩ | ⟨-,y,-,-,g4,-⟩
   ·have:1 <= h.s:=g1;omega
   ·exact a2 g1 (hv _ _ _ _ hlast g4 e)
  ·obtain ⟨c0,h0,rfl⟩:=List.mem_map.1 (show c ∈ h.cl.map fun c=>(c.1,v c.2.1,c.2.2) from hc');exact a3 c0 h0 (hv _ _ _ _ (hs.blkOf (mem_tab' h0)) hlast e)
theorem z9a {zs:List Int} {D':Dk} {fc':Nat -> Fl} {φ:Nat -> Option Nat} {l2:List (ByteArray × Nat)} {bs:List Bool} (h:In nm X P) (hn:(X.D.lasting.map Prod.fst).Nodup) (hc:CrashR zs X.D X.fc D' fc' φ l2 bs) :
  ∃ f q v n,Rs X f /\ P q /\ Shape nm f X.fc q /\ In nm ⟨D',fc'⟩ (·=Sh.move q v n) /\ (∀ t,(⟨D',fc'⟩:Ds).dir t=(f t).map v):=by
 obtain ⟨p2,-,-,-,inj,all,eq,fcc⟩:=hc;have hf:flook (replay bs X.D.steps l2)=rep bs X.D.steps (flook X.D.lasting):=by rw [z4g,z5x hn p2]
 have hR:Rs X (flook (replay bs X.D.steps l2)):=⟨bs,hf⟩
 obtain ⟨q,h1,h2⟩:=h.all _ (.inr hR);have hd:∀ t,flook D'.files t=(flook (replay bs X.D.steps l2) t).map fun b=>(φ b).getD 0:=fun t=>by
  rw [eq];exact z4f _ _
 have hl:D'.lasting=D'.files:=by rw [eq];rfl
 have hs:D'.steps=[]:=by rw [eq];rfl
 have hrf:=(show Rch X _ from .inr hR).ref h.wf
 obtain ⟨n,h3⟩:=h2.move (fun b=>(φ b).getD 0) (f':=flook D'.files) (fc':=fc') hd (fun t t' b b' hb hb' e=>by
  obtain ⟨c,hc⟩:=Option.ne_none_iff_exists'.1 (all b (hrf t b hb));obtain ⟨c',hc'⟩:=Option.ne_none_iff_exists'.1 (all b' (hrf t' b' hb'));simp only [hc,hc',Option.getD_some] at e
  exact inj b b' c hc (e ▸ hc')) (fun t b hb=>fcc _ (zn hb))
 refine ⟨_,q,_,n,hR,h1,h2,⟨fun s hs'=>?_,fun f hf'=>⟨_,rfl,?_⟩⟩,hd⟩
 ·rw [hs] at hs';cases hs'
 ·
  have:f=flook D'.files:=by
   rcases hf' with hf' | ⟨bs',hf'⟩
   ·exact hf'
   ·
    have e:rep bs' D'.steps (flook D'.lasting)=flook D'.files:=by rw [hs,z82,hl]
    exact hf'.trans e
  rw [this];exact h3
def Sh.trim (h:Sh) (j:Nat):Sh:={ h with rs:=h.rs.take j,q:=(enc (h.rs.take j)).length }
def Trims (P:Sh -> Prop):Prop:=∀ h j,P h -> h.du <= j -> j <= h.rs.length -> (enc (h.rs.take j)).length <= h.q -> P (h.trim j)
theorem z7u (fc:Nat -> Fl) {b:Nat} {x:Fl} (h:fc b=x):setf fc b x=fc:=by
 funext c;by_cases e:c=b
 ·rw [e,z0f,h]
 ·rw [z0i _ _ e]
theorem zdk {x:List Nat} (hx:Recs [x]):whole (recd x)=([x],(recd x).length,true):=by
 have:=z4x hx;rw [z1r] at this;exact this
theorem zc6 {s n:Nat}:∀ x ∈ mrec s n,x < 256:=by
 intro x hx;unfold mrec at hx;rcases List.mem_append.1 hx with hx | hx
 ·exact z3s _ _ x hx
 ·exact z3s _ _ x hx
theorem z1s (s n:Nat):(mrec s n).length=16:=by unfold mrec;rw [List.length_append,zx,zx]
theorem z7n (s n:Nat):Recs [mrec s n]:=Recs.one (by rw [z1s];decide) zc6
theorem Shape.cutAny (hs:Shape nm f fc h) (b:Nat):∃ j,h.du <= j /\ j <= h.rs.length /\ (Shape nm f (setf fc b ⟨(fc b).b.take (whole (fc b).b).2.1,min (whole (fc b).b).2.1 (fc b).lasts⟩) h \/ (enc (h.rs.take j)).length <= h.q /\ Shape nm f (setf fc b ⟨(fc b).b.take (whole (fc b).b).2.1,min (whole (fc b).b).2.1 (fc b).lasts⟩) (h.trim j)):=by
 by_cases hb:h.blocks b
 ·
  have full:∀ l,fc b=⟨enc l,(enc l).length⟩ -> Recs l -> ∃ j,h.du <= j /\ j <= h.rs.length /\ (Shape nm f (setf fc b ⟨(fc b).b.take (whole (fc b).b).2.1,min (whole (fc b).b).2.1 (fc b).lasts⟩) h \/ (enc (h.rs.take j)).length <= h.q /\ Shape nm f (setf fc b ⟨(fc b).b.take (whole (fc b).b).2.1,min (whole (fc b).b).2.1 (fc b).lasts⟩) (h.trim j)):=fun l hl hr=>by
   refine ⟨h.rs.length,hs.lastd,Nat.le_refl _,.inl ?_⟩;have e:(⟨(fc b).b.take (whole (fc b).b).2.1,min (whole (fc b).b).2.1 (fc b).lasts⟩:Fl)=fc b:=by
    rw [hl];simp only [z4x hr,List.take_length,Nat.min_self]
   rw [e,z7u fc rfl];exact hs
  by_cases e:b=h.b
  ·subst e;obtain ⟨j,h1,h2,h3,h4,h5,-⟩:=hs.wholes;refine ⟨j,h1,h2,.inr ⟨by omega,?_⟩⟩;rw [h3];exact hs.cut h1 h2 h4
  ·
   rcases hb with rfl | ⟨g1,rfl⟩ | ⟨c,hc,rfl⟩ | rfl
   ·exact full [mrec h.s h.first] (by rw [z1r];exact hs.manc) (z7n _ _)
   ·
    rcases hs.snap with ⟨h0,-⟩ | ⟨-,y,-,g3,-,g5⟩
    ·omega
    ·exact full [y] (by rw [z1r];exact g5) g3
   ·exact full _ (hs.clc c hc).1 (hs.clc c hc).2
   ·exact absurd rfl e
 ·exact ⟨h.rs.length,hs.lastd,Nat.le_refl _,.inl (hs.setOther _ hb)⟩
theorem Shape.syncAny (hs:Shape nm f fc h) (b:Nat):Shape nm f (setf fc b ⟨(fc b).b,(fc b).b.length⟩) h:=by
 by_cases hb:h.blocks b
 ·
  have full:∀ l:List Nat,fc b=⟨l,l.length⟩ -> Shape nm f (setf fc b ⟨(fc b).b,(fc b).b.length⟩) h:=fun l hl=>by
   rw [z7u fc (by rw [hl])];exact hs
  by_cases e:b=h.b
  ·
   subst e;have hl:(fc h.b).b.length=h.q:=by rw [hs.lastb,List.length_take];have:=hs.lastq;omega
   have h1:=hs.setLast ⟨(fc h.b).b,(fc h.b).b.length⟩ h.rs h.q h.du hs.lastb hs.lastq ⟨by show _ <= (fc h.b).b.length;have:=hs.lastl;omega,by show (fc h.b).b.length <= _;omega⟩ hs.lastd hs.lastr;exact h1
  ·
   rcases hb with rfl | ⟨g1,rfl⟩ | ⟨c,hc,rfl⟩ | rfl
   ·exact full _ hs.manc
   ·
    rcases hs.snap with ⟨h0,-⟩ | ⟨-,y,-,g3,-,g5⟩
    ·omega
    ·exact full _ g5
   ·exact full _ (hs.clc c hc).1
   ·exact absurd rfl e
 ·exact hs.setOther _ hb
end Go.Log
end
section
namespace Go.Log
open Go.Vfs
open Go.Proofs.YtpjomdmjohjheaaGreatDoor (readOf)
variable {nm:ByteArray} {X Y Z:Ds} {P P':Sh -> Prop} {e:Int} {s t:ByteArray} {h g:Sh} {f:Dir} {fc:Nat -> Fl} {L L':Lg} {x:List Nat} {most:Nat}
theorem z3f {b:Nat} (hm:mnB s=true) (h:X.dir s=some b):readOf X.D X.fc s=((X.fc b).b,0):=by
 have e:found X.D s=(some b,0):=by
  unfold found;rw [if_pos hm,show flook X.D.files s=some b from h]
 unfold readOf;rw [e]
theorem z7o {b:Nat} (hm:mnB s=true) (h:X.dir s=some b) (hx:Recs [x]) (hc:(X.fc b).b=recd x):oneR X s=some x:=by
 unfold oneR;rw [z3f hm h,hc,zdk hx];simp
theorem zcl {s n:Nat} (hs:s <= mxn) (h1:1 <= n) (hn:n <= mxn):manN (mrec s n)=some (s,n):=by
 have e1:(mrec s n).take 8=be 8 s:=by unfold mrec;rw [List.take_left' (zx _ _)]
 have e2:(mrec s n).drop 8=be 8 n:=by unfold mrec;rw [List.drop_left' (zx _ _)]
 have m:∀ k,k <= mxn -> k % 256 ^ 8=k:=fun k hk=>Nat.mod_eq_of_lt (by unfold mxn at hk;omega);unfold manN;rw [e1,e2,z68,z68,m s hs,m n hn,z1s];rw [if_pos ⟨rfl,hs,h1,hn⟩]
theorem zgm {l:List Nat} {T:List Nat} (hT:T.Pairwise (· < ·)) (hl:l.Pairwise (· <= ·)) (hn:l.Nodup) (hm:∀ k,k ∈ l ↔ k ∈ T):l=T:=by
 have nT:T.Nodup:=hT.imp (fun h=>by omega);have hp:l.Perm T:=(List.perm_ext_iff_of_nodup hn nT).2 hm;exact hp.eq_of_pairwise (le:=(· <= ·)) (fun a b _ _ h1 h2=>by omega) hl (hT.imp (fun h=>by omega))
theorem zh4 (hs:Shape nm X.dir X.fc h) (hnd:(X.D.files.map Prod.fst).Nodup) {ns:List Nat} (hN:SegsOf nm h.first X ns):ns=h.tab.map Prod.fst:=by
 obtain ⟨h1,h2⟩:=hN;have f1:=hs.f1;have hF:((((X.D.files.map Prod.fst).map (sgn nm)).filter fun n=>decide (h.first <= n))).Nodup:=by
  rw [List.filter_map];refine List.pairwise_map.2 ?_;have hnf:((X.D.files.map Prod.fst).filter ((fun n=>decide (h.first <= n)) ∘ sgn nm)).Nodup:=hnd.sublist List.filter_sublist;refine List.Pairwise.imp_of_mem (fun {a b} ha hb hne e=>hne ?_) hnf;have ha':h.first <= sgn nm a:=by simpa using (List.mem_filter.1 ha).2
  have hb':h.first <= sgn nm b:=by simpa using (List.mem_filter.1 hb).2
  rw [(z30 (nm:=nm) (s:=a) (by omega)).1,(z30 (nm:=nm) (s:=b) (by omega)).1,e]
 refine zgm (List.pairwise_map.2 hs.asc) h1 (h2.nodup_iff.2 hF) (fun k=>?_);rw [h2.mem_iff,List.mem_filter];constructor
 ·
  rintro ⟨hk,hk2⟩;obtain ⟨s,hs1,rfl⟩:=List.mem_map.1 hk;have hk':h.first <= sgn nm s:=by simpa using hk2
  obtain ⟨e1,e2,e3⟩:=z30 (nm:=nm) (s:=s) (by omega);obtain ⟨b,hb⟩:=z1d hs1;have hb':X.dir (sgf nm (sgn nm s))=some b:=by rw [<- e1];exact hb
  rw [hs.segs _ hk' e3] at hb';exact List.mem_map.2 ⟨_,zdx hb',rfl⟩
 ·intro hk;obtain ⟨p,hp,rfl⟩:=List.mem_map.1 hk;have hr:=hs.rng p hp;have hb:=hs.blkOf (k:=p.1) (x:=p.2) hp;refine ⟨List.mem_map.2 ⟨_,z6s hb,z1n nm (by omega) hr.2⟩,by simpa using hr.1⟩
theorem z6f {ms:List Nat} (hne:ms ≠ []) (hm:∀ k,k <= mxn -> mnB (sgf nm k)=true):∀ (cl:List (Nat × Nat × List (List Nat))) (L:Lg) (e:Nat),L.name=nm -> (∀ c ∈ cl,c.1 <= mxn /\ X.dir (sgf nm c.1)=some c.2.1 /\ (X.fc c.2.1).b=enc c.2.2 /\ Recs c.2.2) ->
  ∃ L' e',rdl X (cl.map (fun c=>c.1) ++ ms) L e=rdl X ms L' e' /\ ∃ k q,L'={ L with recs:=L.recs ++ cl.flatMap (fun c=>c.2.2),segment:=k,size:=q }
 | [],L,e,_,_=>⟨L,e,rfl,L.segment,L.size,by simp⟩
 | c :: cl,L,e,hL,hc=>by
  obtain ⟨h1,h2,h3,h4⟩:=hc c (by simp);obtain ⟨L',e',h5,k,q,h6⟩:=z6f hne hm cl { L with recs:=L.recs ++ c.2.2,segment:=c.1,size:=(enc c.2.2).length } (enc c.2.2).length hL (fun c' hc'=>hc c' (by simp [hc']));refine ⟨L',e',?_,k,q,?_⟩
  ·obtain rfl:=hL;rw [List.map_cons,List.cons_append];show (if _ then _ else _)=_;rw [z3f (hm _ h1) h2,h3,z4x h4,if_pos ⟨rfl,.inl (Nat.le_refl _)⟩];exact h5
  ·rw [h6];simp
theorem zgu (hs:Shape nm X.dir X.fc h) (hn:mnB nm=true) (h16:nm.size <= 16) (hnd:(X.D.files.map Prod.fst).Nodup) {r:Option (Lg × Nat)} (hr:readR X { lg0 nm most with first:=h.first } h.s r) :
  ∃ j,h.du <= j /\ j <= h.rs.length /\ (h.q=(enc h.rs).length -> j=h.rs.length) /\ (X.fc h.b).b.length=h.q /\ (whole (X.fc h.b).b).2.1=(enc (h.rs.take j)).length /\ (enc (h.rs.take j)).length <= h.q /\
   r=some ({ lg0 nm most with first:=h.first,segment:=h.m,segments:=h.cl.length + 1,size:=h.q,snap:=h.sn.getD [],has:=h.sn.isSome,recs:=h.closed ++ h.rs.take j },(enc (h.rs.take j)).length):=by
 obtain ⟨j,h1,h2,h3,h4,h5,h6⟩:=hs.wholes;refine ⟨j,h1,h2,h6,h5,by rw [h3],by omega,?_⟩;have hmn:∀ k,k <= mxn -> mnB (sgf nm k)=true:=fun k hk=>z0o hn h16 hk
 have key:∀ L1:Lg,L1.name=nm -> L1.first=h.first -> L1.recs=[] -> (∃ ns,SegsOf L1.name L1.first X ns /\ r=if ns=[] then none else (rdl X ns L1 0).map fun p=>({ p.1 with segments:=ns.length },p.2)) ->
   r=some ({ L1 with segment:=h.m,segments:=h.cl.length + 1,size:=h.q,recs:=h.closed ++ h.rs.take j },(enc (h.rs.take j)).length):=by
  rintro L1 e1 e2 e3 ⟨ns,hN,hr⟩;rw [e1,e2] at hN;have hns:=zh4 hs hnd hN;have hns':ns=h.cl.map (fun c=>c.1) ++ [h.m]:=by rw [hns];unfold Sh.tab;rw [List.map_append,List.map_map];rfl
  have hlen:ns.length=h.cl.length + 1:=by rw [hns'];simp
  have hmm:=hs.m1;rw [hr,if_neg (by intro e;rw [e] at hlen;simp at hlen),hns']
  obtain ⟨L',e',h7,k,q,h8⟩:=z6f (X:=X) (ms:=[h.m]) (by simp) hmn h.cl L1 0 e1 (fun c hc=>by
   have hp:=mem_tab' hc;have:=hs.rng _ hp
   exact ⟨this.2,hs.blkOf hp,by rw [(hs.clc c hc).1],(hs.clc c hc).2⟩)
  have hL':L'.name=nm:=by rw [h8];exact e1
  have e9:rdl X [h.m] L' e'=some ({ L' with recs:=L'.recs ++ h.rs.take j,segment:=h.m,size:=h.q },(enc (h.rs.take j)).length):=by
   show (if _ then _ else _)=_;rw [hL',z3f (hmn _ hmm.2) hs.lastAt,h3,if_pos ⟨rfl,.inr rfl⟩,<- h5];rfl
  rw [h7,e9,<- hns',hlen,h8,e3];simp [Sh.closed]
 unfold readR snapR at hr;rcases hs.snap with ⟨h0,h0'⟩ | ⟨h0,y,h7,h8,h9,h10⟩
 ·rw [if_pos h0] at hr;have:=key _ rfl rfl rfl hr;rw [this,h0'];rfl
 ·rw [if_neg (by omega),show ({ lg0 nm most with first:=h.first }:Lg).name=nm from rfl,z7o (z55 hn h16 hs.s1) h9 h8 (by rw [h10])] at hr;have:=key _ rfl rfl rfl hr;rw [this,h7];rfl
theorem zbc (hn:mnB nm=true) (h16:nm.size <= 16) (hnd:(X.D.files.map Prod.fst).Nodup) (hi:In nm X P) (hP:Trims P) (hr:openR nm most X e L Y) :
  ∃ h j,P h /\ Shape nm X.dir X.fc h /\ h.du <= j /\ j <= h.rs.length /\ (h.q=(enc h.rs).length -> j=h.rs.length) /\ In nm Y P /\
   (∃ en,(X.fc h.b).b.length=h.q /\ en=(enc (h.rs.take j)).length /\ en <= h.q /\ X.dir (sgf nm h.m)=some h.b /\ askO [if h.q=en then nop else cuO (sgf nm h.m) en,syO (sgf nm h.m),sdO] X e Y) /\
   (e=0 -> LI nm L Y { h.trim j with du:=j } /\ L.synced=L.recs.length /\ L.most=most):=by
 obtain ⟨h,hPh,hs⟩:=hi.live;have hman:oneR X (manf nm)=some (mrec h.s h.first):=z7o (z2r hn h16) hs.man (z7n _ _) (by rw [hs.manc]);have hfn:h.first <= mxn:=by have:=hs.m1;omega
 have hbind:(oneR X (manf nm)).bind manN=some (h.s,h.first):=by rw [hman];exact zcl hs.s1 hs.f1 hfn
 rcases hr with ⟨h0,-⟩ | ⟨b,-,h0,-⟩ | ⟨b,s,n,r,-,h0,hr,hq⟩
 ·rw [show flook X.D.files (manf nm)=some h.bm from hs.man] at h0;cases h0
 ·rw [hbind] at h0;cases h0
 rw [hbind] at h0;cases h0;obtain ⟨j,h1,h2,h3,h4,h5,h6,h7⟩:=zgu hs hn h16 hnd hr;rcases hq with ⟨h8,-⟩ | ⟨L1,en,h8,h9,h10⟩
 ·rw [h7] at h8;cases h8
 rw [h7] at h8;cases h8;have hmm:=hs.m1;obtain ⟨en,hen⟩:∃ en,(enc (h.rs.take j)).length=en:=⟨_,rfl⟩
 rw [hen] at h5 h6 h9 h10;have h9':askO [if h.q=en then nop else cuO (sgf nm h.m) en,syO (sgf nm h.m),sdO] X e Y:=h9;have hla:=hs.lastAt;have cutI:∀ {e Z},(if h.q=en then nop else cuO (sgf nm h.m) en) X e Z -> In nm Z P /\ Sm X Z /\ (e=0 -> Shape nm Z.dir Z.fc (h.trim j)):=fun {e Z} hc=>by
  by_cases he:h.q=en
  ·rw [if_pos he] at hc;obtain ⟨rfl,rfl⟩:=hc;exact ⟨hi,Sm.refl _,fun _=>hs.uncut h1 h2 (by rw [hen,h4,he])⟩
  ·
   rw [if_neg he] at hc;obtain ⟨s1,⟨e0,hf⟩ | ⟨rfl,b,hb,-,hf⟩⟩:=z2v hc
   ·exact ⟨hi.same s1 hf,s1,fun e1=>absurd e1 e0⟩
   ·
    obtain rfl:b=h.b:=Option.some.inj (hb.symm.trans hla);refine ⟨hi.write s1 hf fun q f hq hsh=>?_,s1,fun _=>?_⟩
    ·
     obtain ⟨i,i1,i2,i3⟩:=hsh.cutAny h.b;rw [h5] at i3;rcases i3 with i3 | ⟨i4,i3⟩
     ·exact ⟨q,hq,i3⟩
     ·exact ⟨_,hP q i hq i1 i2 i4,i3⟩
    ·rw [s1.dir,hf,<- hen];exact hs.cut h1 h2 (by rw [h4,hen];exact h6)
 have fin:∀ (hI:In nm Y P) (hL:e=0 -> LI nm L Y { h.trim j with du:=j } /\ L.synced=L.recs.length /\ L.most=most),_:=fun hI hL=>(⟨h,j,hPh,hs,h1,h2,h3,hI,⟨en,h4,hen.symm,h6,hla,h9'⟩,hL⟩:∃ h j,P h /\ Shape nm X.dir X.fc h /\ h.du <= j /\ j <= h.rs.length /\ (h.q=(enc h.rs).length -> j=h.rs.length) /\ In nm Y P /\
   (∃ en,(X.fc h.b).b.length=h.q /\ en=(enc (h.rs.take j)).length /\ en <= h.q /\ X.dir (sgf nm h.m)=some h.b /\ askO [if h.q=en then nop else cuO (sgf nm h.m) en,syO (sgf nm h.m),sdO] X e Y) /\
   (e=0 -> LI nm L Y { h.trim j with du:=j } /\ L.synced=L.recs.length /\ L.most=most))
 rcases zj h9' with ⟨e0,g1⟩ | ⟨Z1,g1,k1⟩
 ·exact fin (cutI g1).1 (fun e1=>absurd e1 e0)
 obtain ⟨i1,s1,sh1⟩:=cutI g1;have sh1:=sh1 rfl;have d1:Z1.dir (sgf nm h.m)=some h.b:=by rw [s1.dir];exact hla
 have syI:∀ {e Z},syO (sgf nm h.m) Z1 e Z -> In nm Z P /\ Sm Z1 Z /\ (e=0 -> Shape nm Z.dir Z.fc { h.trim j with du:=j }):=fun {e Z} hc=>by
  obtain ⟨s2,⟨e0,hf⟩ | ⟨rfl,b,hb,hf⟩⟩:=z0c hc
  ·exact ⟨i1.same s2 hf,s2,fun e1=>absurd e1 e0⟩
  ·
   obtain rfl:b=h.b:=Option.some.inj (hb.symm.trans d1);refine ⟨i1.write s2 hf fun q f hq hsh=>⟨q,hq,hsh.syncAny _⟩,s2,fun _=>?_⟩;rw [s2.dir,hf];have:=sh1.synced rfl;have e3:(h.trim j).rs.length=j:=by show (h.rs.take j).length=j;rw [List.length_take];omega
   rw [e3] at this;exact this
 rcases zj k1 with ⟨e0,g2⟩ | ⟨Z2,g2,k2⟩
 ·exact fin (syI g2).1 (fun e1=>absurd e1 e0)
 obtain ⟨i2,s2,sh2⟩:=syI g2;have sh2:=sh2 rfl;have g3:=z06 k2;obtain ⟨f3,⟨e0,s3⟩ | ⟨e0,a1,a2,a3,a4⟩⟩:=z0k g3
 ·exact fin (i2.same s3 f3) (fun e1=>absurd e1 e0)
 subst e0;have d3:Y.dir=Z2.dir:=by unfold Ds.dir;rw [a1]
 have w3:Wf Y:=by unfold Wf;rw [a3];intro s hs;cases hs
 refine fin ⟨w3,fun f hf=>?_⟩ fun _=>⟨?_,?_,?_⟩
 ·rw [z3p g3 hf,f3];exact i2.live
 ·
  have e3:(h.rs.take j).length=j:=by rw [List.length_take];omega
  subst h10;refine { inn:=⟨w3,fun f hf=>⟨_,rfl,by rw [z3p g3 hf,f3];exact sh2⟩⟩,full:=rfl,name:=rfl,nob:=rfl,first:=rfl,seg:=rfl,segs:=rfl,size:=hen.symm,recs:=rfl,syn:=?_,snap:=?_ }
  ·show (h.closed ++ h.rs.take j).length <= h.closed.length + j;rw [List.length_append,e3];exact Nat.le_refl _
  ·
   show (h.sn=none /\ h.sn.isSome=false /\ h.sn.getD []=[]) \/ ∃ x,h.sn=some x /\ h.sn.isSome=true /\ h.sn.getD []=x;cases h.sn with
   | none=>exact .inl ⟨rfl,rfl,rfl⟩
   | some x=>exact .inr ⟨x,rfl,rfl,rfl⟩
 ·subst h10;rfl
 ·subst h10;rfl
end Go.Log
end
section
namespace Go.Log
open Go.Lk Go.RowKit Go.Vfs
variable {W0 w w' w2:World} {l d:Nat} {L L':Lg} {X Y:Ds} {O O' S N:Nat -> Prop}
structure DO (W0 w:World) (d:Nat) (X:Ds) (O:Nat -> Prop):Prop where
 ex:∃ F R,DiskAt w d F R X.D X.fc /\ (∀ k,O k -> k < w.heap.size /\ ¬ F k /\ ¬ R k) /\ ∀ k,F k -> W0.heap.size <= k
 k:Keeps Nb W0 w
 v:Vars W0
 six:6 <= W0.heap.size
structure LS (W0 w:World) (l d:Nat) (L:Lg) (X:Ds) (O:Nat -> Prop):Prop where
 ex:∃ Fd Rd FL RL,LgAt w l d Fd Rd FL RL L X /\ (∀ k,O k -> k < w.heap.size /\ ¬ Fd k /\ ¬ Rd k /\ ¬ FL k /\ ¬ RL k) /\ (∀ k,Fd k -> W0.heap.size <= k) /\ ∀ k,FL k -> W0.heap.size <= k
 k:Keeps Nb W0 w
 v:Vars W0
 six:6 <= W0.heap.size
def Oth (W0:World) (O:Nat -> Prop):Nat -> Prop:=fun k=>W0.heap.size <= k /\ ¬ O k
theorem DO.vars (h:DO W0 w d X O):Vars w:=h.v.nb h.k
theorem LS.vars (h:LS W0 w l d L X O):Vars w:=h.v.nb h.k
theorem DO.nb (h:DO W0 w d X O) (hk:Keeps Nb w w'):DO W0 w' d X O:=by
 obtain ⟨⟨F,R,h1,h2,h3⟩,h4,h5,h6⟩:=h;exact ⟨⟨F,R,h1.nb hk,fun k e=>⟨Nat.lt_of_lt_of_le (h2 k e).1 hk.size,(h2 k e).2⟩,h3⟩,h4.trans_nb hk,h5,h6⟩
theorem LS.nb (h:LS W0 w l d L X O) (hk:Keeps Nb w w'):LS W0 w' l d L X O:=by
 obtain ⟨⟨Fd,Rd,FL,RL,h1,h2,h3,h3'⟩,h4,h5,h6⟩:=h;exact ⟨⟨Fd,Rd,FL,RL,h1.nb hk,fun k e=>⟨Nat.lt_of_lt_of_le (h2 k e).1 hk.size,(h2 k e).2⟩,h3,h3'⟩,h4.trans_nb hk,h5,h6⟩
theorem LS.mono (h:LS W0 w l d L X O) (hO:∀ k,O' k -> O k):LS W0 w l d L X O':=by
 obtain ⟨⟨Fd,Rd,FL,RL,h1,h2,h3,h3'⟩,h4,h5,h6⟩:=h;exact ⟨⟨Fd,Rd,FL,RL,h1,fun k e=>h2 k (hO k e),h3,h3'⟩,h4,h5,h6⟩
theorem DO.add (h:DO W0 w d X O) (hk:Keeps Nb w w') (hN:∀ k,N k -> w.heap.size <= k /\ k < w'.heap.size):DO W0 w' d X fun k=>O k \/ N k:=by
 obtain ⟨⟨F,R,h1,h2,h3⟩,h4,h5,h6⟩:=h;refine ⟨⟨F,R,h1.nb hk,fun k e=>?_,h3⟩,h4.trans_nb hk,h5,h6⟩;rcases e with e | e
 ·exact ⟨Nat.lt_of_lt_of_le (h2 k e).1 hk.size,(h2 k e).2⟩
 ·have:=hN k e;exact ⟨this.2,fun f=>by have:=h1.ltF k f;omega,fun f=>by have:=h1.ltR k f;omega⟩
theorem LS.add (h:LS W0 w l d L X O) (hk:Keeps Nb w w') (hN:∀ k,N k -> w.heap.size <= k /\ k < w'.heap.size):LS W0 w' l d L X fun k=>O k \/ N k:=by
 obtain ⟨⟨Fd,Rd,FL,RL,h1,h2,h3,h3'⟩,h4,h5,h6⟩:=h;refine ⟨⟨Fd,Rd,FL,RL,h1.nb hk,fun k e=>?_,h3,h3'⟩,h4.trans_nb hk,h5,h6⟩;rcases e with e | e
 ·exact ⟨Nat.lt_of_lt_of_le (h2 k e).1 hk.size,(h2 k e).2⟩
 ·have:=hN k e;exact ⟨this.2,fun f=>by have:=h1.disk.ltF k f;omega,fun f=>by have:=h1.disk.ltR k f;omega,fun f=>by have:=h1.ltF k f;omega,fun f=>by have:=h1.ltR k f;omega⟩
theorem LS.disk (h:LS W0 w l d L X O):DO W0 w d X O:=by
 obtain ⟨⟨Fd,Rd,FL,RL,h1,h2,h3,h3'⟩,h4,h5,h6⟩:=h;exact ⟨⟨Fd,Rd,h1.disk,fun k e=>⟨(h2 k e).1,(h2 k e).2.1,(h2 k e).2.2.1⟩,h3⟩,h4,h5,h6⟩
theorem DO.now (h:DO W0 w d X O) {F R:Nat -> Prop} (h1:∀ k,O k -> k < w.heap.size /\ ¬ F k /\ ¬ R k) (h2:∀ k,F k -> W0.heap.size <= k) (hn:Now w w' d F R Y.D Y.fc):DO W0 w' d Y O /\ Keeps (Oth W0 O) w w':=by
 obtain ⟨F',R',n1,n2,n3,n4⟩:=hn;have z0:=h.k.size;have z:=n4.size;refine ⟨⟨⟨F',R',n1,fun k e=>?_,fun k f=>(n2 k f).elim (h2 k) (fun _=>by omega)⟩,h.k.trans n4 (fun j hj e=>by have:=h2 j e;omega),h.v,h.six⟩,n4.mono fun k _ f=>⟨h2 k f,fun e=>(h1 k e).2.1 f⟩⟩;have:=h1 k e;exact ⟨by omega,fun f=>(n2 k f).elim this.2.1 (fun _=>by omega),fun f=>(n3 k f).elim this.2.2 (fun _=>by omega)⟩
theorem LS.now (h:LS W0 w l d L X O) {Fd Rd FL RL:Nat -> Prop} (h1:∀ k,O k -> k < w.heap.size /\ ¬ Fd k /\ ¬ Rd k /\ ¬ FL k /\ ¬ RL k) (h2:∀ k,Fd k -> W0.heap.size <= k) (h3:∀ k,FL k -> W0.heap.size <= k) (hn:LNow w w' l d Fd Rd FL RL L' Y):LS W0 w' l d L' Y O /\ Keeps (Oth W0 O) w w':=by
 obtain ⟨Fd',Rd',FL',RL',n1,n2,n3,n4,n5,n6⟩:=hn;have z0:=h.k.size;have z:=n6.size;refine ⟨⟨⟨Fd',Rd',FL',RL',n1,fun k e=>?_,fun k f=>(n2 k f).elim (h2 k) (fun _=>by omega),fun k f=>(n4 k f).elim (h3 k) (fun _=>by omega)⟩,h.k.trans n6 (fun j hj e=>e.elim (fun e=>by have:=h2 j e;omega) (fun e=>by have:=h3 j e;omega)),h.v,h.six⟩,n6.mono fun k _ f=>⟨f.elim (h2 k) (h3 k),fun e=>f.elim (h1 k e).2.1 (h1 k e).2.2.2.1⟩⟩;have:=h1 k e;exact ⟨by omega,fun f=>(n2 k f).elim this.2.1 (fun _=>by omega),fun f=>(n3 k f).elim this.2.2.1 (fun _=>by omega),fun f=>(n4 k f).elim this.2.2.2.1 (fun _=>by omega),fun f=>(n5 k f).elim this.2.2.2.2 (fun _=>by omega)⟩
end Go.Log
namespace Go.Proofs.YtpjomdmjohjheaaGreatDoor
open Go.RowKit Go.Lk Go.Vfs Go.Log
variable {W0 w w' w2:World} {l d:Nat} {L L':Lg} {X Y:Ds} {O O' S N:Nat -> Prop}
def LsD (W0:World) (l d:Nat) (O:Nat -> Prop) (L:Lg) (X:Ds) (k:Int) (r:Lg -> Ds -> Int -> Lg -> Ds -> Prop) (w:World) (e:Ending) (w':World):Prop :=
 ∃ er L' Y,e=.returned (.int .i64 er) /\ LS W0 w' l d L' Y O /\ r L X er L' Y /\ pot Y <= pot X + k /\ Keeps (Oth W0 O) w w'
theorem z4y (h:LS W0 w l d L X O) (hp:pot X + 1 <= 999999):Calls Tryz.prog 22 #[.pointer (some ⟨l,0,none⟩)] w (LsD W0 l d O L X 1 synR w):=by
 obtain ⟨Fd,Rd,FL,RL,h1,h2,h3,h4⟩:=h.ex;refine (zeb l d Fd Rd FL RL L X w h1 h.vars hp).mono ?_;rintro e w' ⟨er,L',Y,rfl,hn,hr,hp'⟩;obtain ⟨a,b⟩:=h.now h2 h3 h4 hn;exact ⟨er,L',Y,rfl,a,hr,hp',b⟩
def Own (W0:World) (O:Nat -> Prop):Nat -> Prop:=fun k=>k < W0.heap.size \/ O k
theorem z7f (h:LS W0 w l d L X O) {Fd Rd FL RL:Nat -> Prop} (h1:∀ k,O k -> k < w.heap.size /\ ¬ Fd k /\ ¬ Rd k /\ ¬ FL k /\ ¬ RL k) (h2:∀ k,Fd k -> W0.heap.size <= k) (h3:∀ k,FL k -> W0.heap.size <= k) {v:Value} {bs:List Nat} (hb:Bytes w (Own W0 O) v bs):BytesO v bs w Fd FL:=by
 refine Bytes.mono hb fun k e=>?_;have z:=h.k.size;rcases e with e | e
 ·exact ⟨by omega,fun f=>by have:=h2 k f;omega,fun f=>by have:=h3 k f;omega⟩
 ·exact ⟨(h1 k e).1,(h1 k e).2.1,(h1 k e).2.2.2.1⟩
theorem z1e (h:LS W0 w l d L X O) {v:Value} {bs:List Nat} (hb:Bytes w (Own W0 O) v bs) (hp:pot X + 6 <= 999999) (hsg:L.segments < 1000000) (hrc:L.recs.length < 4000000000000) (hsz:L.size <= 16777216) :
  Calls Tryz.prog 21 #[.pointer (some ⟨l,0,none⟩),v] w (LsD W0 l d O L X 6 (fun L X e L' Y=>appR L bs X e L' Y) w):=by
 obtain ⟨Fd,Rd,FL,RL,h1,h2,h3,h4⟩:=h.ex;refine (zc3 l d Fd Rd FL RL L X v bs w h1 h.vars (z7f h h2 h3 h4 hb) hp hsg hrc hsz).mono ?_;rintro e w' ⟨er,L',Y,rfl,hn,hr,hp'⟩;obtain ⟨a,b⟩:=h.now h2 h3 h4 hn;exact ⟨er,L',Y,rfl,a,hr,hp',b⟩
theorem z4z (h:LS W0 w l d L X O) {v:Value} {bs:List Nat} (hb:Bytes w (Own W0 O) v bs) (hp:pot X + 19 <= 999999) :
  Calls Tryz.prog 23 #[.pointer (some ⟨l,0,none⟩),v] w (LsD W0 l d O L X 19 (fun L X e L' Y=>turnR L bs X e L' Y) w):=by
 obtain ⟨Fd,Rd,FL,RL,h1,h2,h3,h4⟩:=h.ex;refine (zhe l d Fd Rd FL RL L X v bs w h1 h.vars (z7f h h2 h3 h4 hb) hp).mono ?_;rintro e w' ⟨er,L',Y,rfl,hn,hr,hp'⟩;obtain ⟨a,b⟩:=h.now h2 h3 h4 hn;exact ⟨er,L',Y,rfl,a,hr,hp',b⟩
theorem z3m (h:DO W0 w d X O) (nm:ByteArray) (m:Nat) (hm1:mnB nm=true) (h16:nm.size <= 16) (hs1:1 <= m) (hs2:m <= 1048576) (hp:pot X + 12 <= 999999) :
  Calls Tryz.prog 19 #[.pointer (some ⟨d,0,none⟩),.string nm,.int .i64 m] w fun e w'=>∃ er L Y,openR nm m X er L Y /\ pot Y <= pot X + 12 /\ Keeps (Oth W0 O) w w' /\
   ((er=0 /\ ∃ l,e=.returned (.tuple #[.pointer (some ⟨l,0,none⟩),.int .i64 0]) /\ LS W0 w' l d L Y O) \/ (er ≠ 0 /\ e=.returned (.tuple #[.pointer none,.int .i64 er]) /\ DO W0 w' d Y O)):=by
 obtain ⟨F,R,h1,h2,h3⟩:=h.ex;have h6:=h.six;refine (zgj d F R X nm m w h1 h.vars (fun k f=>by have:=h3 k f;omega) hm1 h16 hs1 hs2 hp).mono ?_;rintro e w' ⟨er,L,Y,hr,hp',⟨h0,l,Fd',Rd',FL,RL,rfl,g1,g2,g3,g4,g5,g6⟩ | ⟨h0,rfl,hn⟩⟩
 ·have z0:=h.k.size;have z:=g6.size;refine ⟨er,L,Y,hr,hp',g6.mono fun k _ f=>⟨h3 k f,fun e=>(h2 k e).2.1 f⟩,.inl ⟨h0,l,rfl,⟨⟨Fd',Rd',FL,RL,g1,fun k e=>?_,fun k f=>(g2 k f).elim (h3 k) (fun _=>by omega),fun k f=>by have:=g4 k f;omega⟩,h.k.trans g6 (fun j hj e=>by have:=h3 j e;omega),h.v,h.six⟩⟩⟩;have:=h2 k e;exact ⟨by omega,fun f=>(g2 k f).elim this.2.1 (fun _=>by omega),fun f=>(g3 k f).elim this.2.2 (fun _=>by omega),fun f=>by have:=g4 k f;omega,fun f=>by have:=g5 k f;omega⟩
 ·obtain ⟨a,b⟩:=h.now h2 h3 hn;exact ⟨er,L,Y,hr,hp',b,.inr ⟨h0,rfl,a⟩⟩
theorem zfg (h:LS W0 w l d L X O):Calls Tryz.prog 25 #[.pointer (some ⟨l,0,none⟩)] w fun e w'=>e=.returned (.bool L.bad) /\ w=w':=by
 obtain ⟨Fd,Rd,FL,RL,h1,-⟩:=h.ex;obtain ⟨sv,lv,hc⟩:=h1.cells;exact ro_at (hc w (Keeps.refl _ _))
theorem ls_len (h:LS W0 w l d L X O):Calls Tryz.prog 30 #[.pointer (some ⟨l,0,none⟩)] w fun e w'=>e=.returned (.int .i64 (L.recs.length:Nat)) /\ w=w':=by
 obtain ⟨Fd,Rd,FL,RL,h1,-⟩:=h.ex;obtain ⟨sv,lv,vs,q1,-,q3,-⟩:=h1.ex;obtain ⟨-,-,la,lc,rfl,-⟩:=id q3;exact len_at q1
theorem zck (h:LS W0 w l d L X O):Calls Tryz.prog 20 #[.pointer (some ⟨l,0,none⟩)] w fun e w'=>e=.returned (.int .i64 (L.segment:Nat)) /\ w=w':=by
 obtain ⟨Fd,Rd,FL,RL,h1,-⟩:=h.ex;obtain ⟨sv,lv,hc⟩:=h1.cells;exact zbi (hc w (Keeps.refl _ _))
theorem za8 (h:LS W0 w l d L X O):Calls Tryz.prog 31 #[.pointer (some ⟨l,0,none⟩)] w fun e w'=>e=.returned (.int .i64 (L.segments:Nat)) /\ w=w':=by
 obtain ⟨Fd,Rd,FL,RL,h1,-⟩:=h.ex;obtain ⟨sv,lv,hc⟩:=h1.cells;exact z9p (hc w (Keeps.refl _ _))
theorem zgd (h:LS W0 w l d L X O):Calls Tryz.prog 29 #[.pointer (some ⟨l,0,none⟩)] w fun e w'=>∃ v,e=.returned (.tuple #[v,.bool L.has]) /\ Bytes w' (SinceB w w') v (if L.has=true then L.snap else []) /\ Keeps Nb w w':=by
 obtain ⟨Fd,Rd,FL,RL,h1,-⟩:=h.ex;exact z9r h1
theorem zgc (h:LS W0 w l d L X O) {wa:Option Addr} {wc:Nat} {vs:List Value} (hw:RowS w (fun k=>k < w.heap.size) (fun _=>False) 22 1 (.slice wa L.recs.length wc) L.recs.length vs) (hb:BytesL w (fun k=>k < w.heap.size) vs L.recs) :
  Calls Tryz.prog 34 #[.pointer (some ⟨l,0,none⟩),.slice wa L.recs.length wc,.int .i64 0] w fun e w'=>e=.returned (.bool true) /\ Keeps Nb w w':=by
 obtain ⟨Fd,Rd,FL,RL,h1,-⟩:=h.ex;refine zaf _ _ wa wc vs w hw hb h1.nums.recs h1.nums.nrec fun w1 k1=>?_;refine (zbg l d Fd Rd FL RL L X w1 (h1.nb k1)).mono ?_;rintro e w' ⟨g,rfl,g1,g2,g3,g4⟩;exact ⟨g,_,rfl,g1,g2,fun k e=>e.elim (fun e=>.inl (h1.ltF k e)) fun e=>e.elim (fun e=>.inl (h1.ltR k e)) .inr,g3,g4⟩
end Go.Proofs.YtpjomdmjohjheaaGreatDoor
end
section
namespace Go.Log
open Go.Lk Go.RowKit Go.Vfs
end Go.Log
namespace Go.Proofs.YtpjomdmjohjheaaGreatDoor
open Go.RowKit Go.Lk Go.Vfs Go.Log
structure Ks where
 s:ByteArray
 has:Bool
 all:List (List Nat)
 sure:Int
end Go.Proofs.YtpjomdmjohjheaaGreatDoor
end
section
namespace Go.Proofs.YtpjomdmjohjheaaGreatDoor
open Go.RowKit Go.Lk Go.Vfs Go.Log
variable {L0 L L':Lg} {X0 X Y:Ds} {k t:Nat} {e:Int} {b:List Nat}
end Go.Proofs.YtpjomdmjohjheaaGreatDoor
end
section
namespace Go.Proofs.YtpjomdmjohjheaaGreatDoor
open Go.Vfs Go.Log
variable {A B A' B' L L':Lg} {X Y X' Y':Ds} {e:Int} {x:List Nat} {n:Nat}
theorem may0 (hl:n <= mxr) (hb:L.bad=false):mayE L n=0:=by unfold mayE;rw [if_neg (by omega),hb];rfl
theorem zdm (hl:x.length <= mxr) (hb:L.bad=false) (hr:appR L x X e L' Y):L'.bad=true \/ (e=0 /\ L'.bad=false /\ L'.recs=L.recs ++ [x] /\ L'.snap=L.snap /\ L'.has=L.has /\ L'.most=L.most /\ L'.synced <= L'.recs.length + L.synced /\
  ((L.size + (8 + x.length) <= L.most /\ L'.size=L.size + (8 + x.length) /\ L'.segments=L.segments) \/ (L.most < L.size + (8 + x.length) /\ L'.size=0 /\ L'.segments=L.segments + 1))):=by
 rcases hr with ⟨h0,-⟩ | ⟨-,e1,Z,-,⟨-,-,rfl,-⟩ | ⟨-,h1,h2,rfl,-⟩ | ⟨-,h1,-,⟨-,rfl⟩ | ⟨h2,rfl⟩⟩⟩
 ·exact absurd (may0 hl hb) h0
 ·exact .inl rfl
 ·exact .inr ⟨h2,hb,rfl,rfl,rfl,rfl,Nat.le_add_left _ _,.inl ⟨h1,rfl,rfl⟩⟩
 ·exact .inl rfl
 ·exact .inr ⟨h2,hb,rfl,rfl,rfl,rfl,Nat.le_add_right _ _,.inr ⟨h1,rfl,rfl⟩⟩
end Go.Proofs.YtpjomdmjohjheaaGreatDoor
end
section
namespace Go.Log
open Go.Vfs
variable {nm:ByteArray} {X Y Z:Ds} {e:Int} {s t:ByteArray} {n k m:Nat} {bs:List Nat}
structure Fau (D:Dk):Prop where
 dead:D.dead=false
 fuse:D.fuse < 0
theorem zc7 (D:Dk):(chg D).1.fe=D.fe \/ (chg D).1.fe=0:=by
 unfold chg;simp only;split
 ·exact .inr rfl
 ·
  split
  ·left;simp only;split <;> rfl
  ·left;simp only;split <;> rfl
theorem z9w {D:Dk} (h:Fau D):Fau (chg D).1 /\ ((chg D).2.2 ≠ 0 -> (chg D).1.fe=0) /\ (D.fe=0 -> (chg D).2.2=0 /\ (chg D).1.fe=0):=by
 obtain ⟨h1,h2⟩:=h;have f1:¬ 0 < D.fuse:=by omega
 have f0:¬ D.fuse=0:=by omega
 unfold chg;simp only [if_neg f1];split
 ·rename_i hf;exact ⟨⟨h1,h2⟩,fun _=>rfl,fun h0=>absurd h0 hf.1⟩
 ·
  by_cases h0:D.fe=0
  ·
   try rw [if_neg f0]
   exact ⟨by simp only;split <;> exact ⟨h1,h2⟩,fun h=>absurd rfl h,fun _=>⟨rfl,by simp only;split <;> exact h0⟩⟩
  ·
   try rw [if_neg f0]
   exact ⟨by simp only;split <;> exact ⟨h1,h2⟩,fun h=>absurd rfl h,fun h=>absurd h h0⟩
structure FR (X:Ds) (e:Int) (Y:Ds):Prop where
 fau:Fau Y.D
 met:e ≠ 0 -> Y.D.fe=0
 calm:X.D.fe=0 -> e=0 /\ Y.D.fe=0
 fe:Y.D.fe=X.D.fe \/ Y.D.fe=0
theorem FR.trans (h1:FR X 0 Z) (h2:FR Z e Y):FR X e Y:=⟨h2.fau,h2.met,fun h=>h2.calm (h1.calm h).2,h2.fe.elim (fun e=>e ▸ h1.fe) .inr⟩
theorem FR.refl (h:Fau X.D):FR X 0 X:=⟨h,fun h=>absurd rfl h,fun h=>⟨rfl,h⟩,.inl rfl⟩
theorem FR.chg (h:Fau X.D) (hd:Y.D=(chg X.D).1) (he:e=(chg X.D).2.2):FR X e Y:=by
 obtain ⟨a,b,c⟩:=z9w h;subst he;exact ⟨hd ▸ a,fun h=>hd ▸ b h,fun h=>⟨(c h).1,hd ▸ (c h).2⟩,hd ▸ zc7 X.D⟩
theorem FR.chg' (h:Fau X.D) {D':Dk} (hY:Y.D.dead=D'.dead /\ Y.D.fuse=D'.fuse /\ Y.D.fe=D'.fe) (hd:D'=(Go.Vfs.chg X.D).1) (he:e=(Go.Vfs.chg X.D).2.2):FR X e Y:=by
 obtain ⟨a,b,c⟩:=z9w h;obtain ⟨y1,y2,y3⟩:=hY;subst he hd;exact ⟨⟨by rw [y1];exact a.dead,by rw [y2];exact a.fuse⟩,fun h=>by rw [y3];exact b h,fun h=>⟨(c h).1,by rw [y3];exact (c h).2⟩,by rw [y3];exact zc7 X.D⟩
theorem z3v (h:Fau X.D) (h1:mnB s=true) (h2:X.dir s=none) (h3:X.D.files.length < 64) (hr:mkO s X e Y):FR X e Y:=by
 obtain ⟨n,-,hr⟩:=hr;rcases hr with ⟨g,-⟩ | ⟨-,⟨b,g⟩,-⟩ | ⟨-,-,g,-⟩ | ⟨-,-,-,g,-⟩ | ⟨-,-,-,-,h0,⟨-,b,-,hd,-⟩ | ⟨-,hd,-⟩⟩
 ·rw [h1] at g;cases g
 ·rw [show flook X.D.files s=none from h2] at g;cases g
 ·omega
 ·rw [h.dead] at g;cases g
 ·exact FR.chg' h (by rw [hd];exact ⟨rfl,rfl,rfl⟩) rfl h0
 ·exact FR.chg h hd h0
theorem zb4 {b:Nat} (h:Fau X.D) (h1:mnB s=true) (h2:X.dir s=some b) (h3:(bs.length:Int) <= X.D.cap - (tot X.D.files X.fc:Nat)) (hr:apO s bs X e Y):FR X e Y:=by
 have h2:flook X.D.files s=some b:=h2;rcases hr with ⟨g,-⟩ | ⟨-,g,-⟩ | ⟨b',-,hl,⟨g,-⟩ | ⟨-,g,-⟩ | ⟨-,-,h0,hd,-⟩⟩
 ·rw [h1] at g;cases g
 ·rw [h2] at g;cases g
 ·omega
 ·rw [h.dead] at g;cases g
 ·exact FR.chg h hd h0
theorem z38 {b:Nat} (h:Fau X.D) (h1:mnB s=true) (h2:X.dir s=some b) (hr:syO s X e Y):FR X e Y:=by
 have h2:flook X.D.files s=some b:=h2;rcases hr with ⟨g,-⟩ | ⟨-,g,-⟩ | ⟨b',-,hl,⟨g,-⟩ | ⟨-,h0,hd,-⟩⟩
 ·rw [h1] at g;cases g
 ·rw [h2] at g;cases g
 ·rw [h.dead] at g;cases g
 ·exact FR.chg h hd h0
theorem fr_cu {b:Nat} (h:Fau X.D) (h1:mnB s=true) (h2:X.dir s=some b) (h3:k <= (X.fc b).b.length) (hr:cuO s k X e Y):FR X e Y:=by
 have h2:flook X.D.files s=some b:=h2;rcases hr with ⟨g,-⟩ | ⟨-,g,-⟩ | ⟨-,-,g,-⟩ | ⟨b',-,-,hl,⟨g,-⟩ | ⟨-,g,-⟩ | ⟨-,-,h0,hd,-⟩⟩
 ·omega
 ·rw [h1] at g;cases g
 ·rw [h2] at g;cases g
 ·rw [h2] at hl;cases hl;omega
 ·rw [h.dead] at g;cases g
 ·exact FR.chg h hd h0
theorem zff {b:Nat} (h:Fau X.D) (h1:mnB s=true) (h1':mnB t=true) (h2:X.dir s=some b) (hr:rnO s t X e Y):FR X e Y:=by
 have h2:flook X.D.files s=some b:=h2;obtain ⟨hr,-⟩:=hr;rcases hr with ⟨g,-⟩ | ⟨-,g,-⟩ | ⟨-,-,g,-⟩ | ⟨b',-,-,hl,⟨g,-⟩ | ⟨-,h0,hd⟩⟩
 ·rw [h1'] at g;cases g
 ·rw [h1] at g;cases g
 ·rw [h2] at g;cases g
 ·rw [h.dead] at g;cases g
 ·refine FR.chg' h (D':=(chg X.D).1) ?_ rfl h0;rw [hd];split <;> exact ⟨rfl,rfl,rfl⟩
theorem zb5 {b:Nat} (h:Fau X.D) (h1:mnB s=true) (h2:X.dir s=some b) (hr:rmO s X e Y):FR X e Y:=by
 have h2:flook X.D.files s=some b:=h2;obtain ⟨hr,-⟩:=hr;rcases hr with ⟨g,-⟩ | ⟨-,g,-⟩ | ⟨b',-,hl,⟨g,-⟩ | ⟨-,h0,hd⟩⟩
 ·rw [h1] at g;cases g
 ·rw [h2] at g;cases g
 ·rw [h.dead] at g;cases g
 ·refine FR.chg' h (D':=(chg X.D).1) ?_ rfl h0;rw [hd];split <;> exact ⟨rfl,rfl,rfl⟩
theorem zgy (h1:mnB s=true) (h2:X.dir s=none) (hr:rmO s X e Y):e=6 /\ Y=X:=by
 have h2:flook X.D.files s=none:=h2;obtain ⟨hr,hf⟩:=hr;rcases hr with ⟨g,-⟩ | ⟨-,-,h0,hd⟩ | ⟨b',-,g,-⟩
 ·rw [h1] at g;cases g
 ·exact ⟨h0,by cases X;cases Y;simp_all⟩
 ·rw [h2] at g;cases g
theorem zcg (h:Fau X.D) (h6:X.D.fe ≠ 6) (h1:mnB s=true) (hr:rmnO s X e Y):FR X e Y /\ (e=0 -> Y.dir s=none):=by
 obtain ⟨e1,hr,he⟩:=hr;cases hd:X.dir s with
 | none =>
  obtain ⟨rfl,rfl⟩:=zgy h1 hd hr;subst he;exact ⟨FR.refl h,fun _=>hd⟩
 | some b =>
  have hf:=zb5 h h1 hd hr;have ne6:e1 ≠ 6:=by
   intro e6;subst e6;obtain ⟨hr,-⟩:=hr;rcases hr with ⟨-,g,-⟩ | ⟨-,g,-⟩ | ⟨b',-,hl,⟨g,-⟩ | ⟨-,h0,-⟩⟩
   ·omega
   ·rw [show flook X.D.files s=some b from hd] at g;cases g
   ·rw [h.dead] at g;cases g
   ·
    unfold chg at h0;simp only at h0;split at h0
    ·exact h6 h0.symm
    ·rw [if_neg (by have:=h.fuse;omega)] at h0;cases h0
  rw [if_neg ne6] at he;subst he;refine ⟨hf,fun e0=>?_⟩;obtain ⟨-,⟨g,-⟩ | ⟨-,b',-,hd'⟩⟩:=z1k hr
  ·exact absurd e0 g
  ·unfold Ds.dir;rw [hd'.files,z0l];exact if_pos rfl
theorem z5z (h:Fau X.D) (hr:sdO X e Y):FR X e Y:=by
 obtain ⟨hr,-⟩:=hr;rcases hr with ⟨g,-⟩ | ⟨-,h0,hd⟩
 ·rw [h.dead] at g;cases g
 ·refine FR.chg' h (D':=(chg X.D).1) ?_ rfl h0;rw [hd];split <;> exact ⟨rfl,rfl,rfl⟩
structure Bd (n t:Nat) (X:Ds):Prop where
 nf:X.D.files.length <= n
 nt:tot X.D.files X.fc <= t
 key:(X.D.files.map Prod.fst).Nodup
 blk:(X.D.files.map Prod.snd).Nodup
theorem Bd.mono {n t n' t':Nat} (h:Bd n t X) (h1:n <= n') (h2:t <= t'):Bd n' t' X:=⟨Nat.le_trans h.nf h1,Nat.le_trans h.nt h2,h.key,h.blk⟩
theorem z0w (p:ByteArray × Nat) (l:List (ByteArray × Nat)) (fc:Nat -> Fl):tot (p :: l) fc=(fc p.2).b.length + tot l fc:=by simp [tot]
theorem zdi {l:List (ByteArray × Nat)} {fc fc':Nat -> Fl} (h:∀ p ∈ l,(fc' p.2).b.length=(fc p.2).b.length):tot l fc'=tot l fc:=by
 unfold tot;rw [List.map_congr_left h]
theorem zhd {l:List (ByteArray × Nat)} {fc:Nat -> Fl} {b:Nat} {x:Fl} (hn:(l.map Prod.snd).Nodup) {j:Nat} (hx:x.b.length <= (fc b).b.length + j):tot l (setf fc b x) <= tot l fc + j:=by
 induction l with
 | nil=>simp [tot]
 | cons p l ih =>
  rw [List.map_cons,List.nodup_cons] at hn;rw [z0w,z0w];by_cases e:p.2=b
  ·
   have:tot l (setf fc b x)=tot l fc:=zdi fun q hq=>by
    rw [z0i];exact fun e2=>hn.1 (by rw [e,<- e2];exact List.mem_map.2 ⟨q,hq,rfl⟩)
   rw [this,e,z0f];omega
  ·rw [z0i _ _ e];have:=ih hn.2;omega
theorem z6p (a b:List (ByteArray × Nat)) (fc:Nat -> Fl):tot (a ++ b) fc=tot a fc + tot b fc:=by simp [tot]
theorem zax {l:List (ByteArray × Nat)} (fc:Nat -> Fl) (s:ByteArray):tot (fdel l s) fc <= tot l fc:=by
 unfold fdel
 induction l with
 | nil=>simp
 | cons p l ih =>
  rw [List.filter_cons];split
  ·rw [z0w,z0w];omega
  ·rw [z0w];omega
theorem z95 {l:List (ByteArray × Nat)} {b:Nat} (fc:Nat -> Fl) (s:ByteArray) (h:flook l s=some b):tot (fdel l s) fc + (fc b).b.length <= tot l fc:=by
 induction l with
 | nil=>cases h
 | cons p l ih =>
  rw [z09] at h;by_cases e:p.1=s
  ·
   rw [if_pos e] at h;cases h;have h1:fdel (p :: l) s=fdel l s:=by unfold fdel;rw [List.filter_cons,if_neg (by simpa using e)]
   have:=zax (l:=l) fc s;rw [h1,z0w];omega
  ·
   rw [if_neg e] at h;have h1:fdel (p :: l) s=p :: fdel l s:=by unfold fdel;rw [List.filter_cons,if_pos (by simpa using e)]
   rw [h1,z0w,z0w];have:=ih h;omega
theorem zhc {l:List (ByteArray × Nat)} (fc:Nat -> Fl) (s:ByteArray) (b:Nat) (hk:(l.map Prod.fst).Nodup):tot (l.map fun p=>if p.1=s then (s,b) else p) fc <= tot l fc + (fc b).b.length:=by
 induction l with
 | nil=>simp [tot]
 | cons p l ih =>
  rw [List.map_cons,List.nodup_cons] at hk;rw [List.map_cons,z0w,z0w];by_cases e:p.1=s
  ·
   have:(l.map fun p=>if p.1=s then (s,b) else p)=l:=by
    conv=>rhs;rw [<- List.map_id l]
    exact List.map_congr_left fun q hq=>if_neg fun e2=>hk.1 (by rw [e,<- e2];exact List.mem_map.2 ⟨q,hq,rfl⟩)
   rw [if_pos e,this];simp only;omega
  ·rw [if_neg e];have:=ih hk.2;omega
theorem zer (l:List (ByteArray × Nat)) (s:ByteArray) (b:Nat):(l.map fun p=>if p.1=s then (s,b) else p).map Prod.fst=l.map Prod.fst:=by
 rw [List.map_map];refine List.map_congr_left fun p hp=>?_;simp only [Function.comp];split
 ·rename_i e;exact e.symm
 ·rfl
theorem zbh {l:List (ByteArray × Nat)} {s:ByteArray} {b:Nat} (hk:(l.map Prod.fst).Nodup) (hb:(l.map Prod.snd).Nodup) (hn:b ∉ l.map Prod.snd):((l.map fun p=>if p.1=s then (s,b) else p).map Prod.snd).Nodup:=by
 induction l with
 | nil=>simp
 | cons p l ih =>
  rw [List.map_cons,List.nodup_cons] at hk hb;rw [List.map_cons,List.mem_cons,not_or] at hn;rw [List.map_cons,List.map_cons,List.nodup_cons];by_cases e:p.1=s
  ·
   have:(l.map fun p=>if p.1=s then (s,b) else p)=l:=by
    conv=>rhs;rw [<- List.map_id l]
    exact List.map_congr_left fun q hq=>if_neg fun e2=>hk.1 (by rw [e,<- e2];exact List.mem_map.2 ⟨q,hq,rfl⟩)
   rw [this,if_pos e];exact ⟨hn.2,hb.2⟩
  ·
   rw [if_neg e];refine ⟨fun h=>?_,ih hk.2 hb.2 hn.2⟩;rw [List.map_map] at h;obtain ⟨q,hq,e2⟩:=List.mem_map.1 h;simp only [Function.comp] at e2;split at e2
   ·exact hn.1 e2
   ·exact hb.1 (e2 ▸ List.mem_map.2 ⟨q,hq,rfl⟩)
theorem zfn {l:List (ByteArray × Nat)} {t:ByteArray} (h:¬ (l.any fun p=>decide (p.1=t))=true):t ∉ l.map Prod.fst:=by
 intro hm;obtain ⟨p,hp,e⟩:=List.mem_map.1 hm;exact h (List.any_eq_true.2 ⟨p,hp,by simpa using e⟩)
theorem bd_put {l:List (ByteArray × Nat)} {t:ByteArray} {b:Nat} (hk:(l.map Prod.fst).Nodup) (hb:(l.map Prod.snd).Nodup) (hn:b ∉ l.map Prod.snd) (fc:Nat -> Fl) :
  ((fput l t b).map Prod.fst).Nodup /\ ((fput l t b).map Prod.snd).Nodup /\ tot (fput l t b) fc <= tot l fc + (fc b).b.length:=by
 unfold fput;split
 ·exact ⟨by rw [zer];exact hk,zbh hk hb hn,zhc fc t b hk⟩
 ·
  rename_i h;refine ⟨?_,?_,?_⟩
  ·rw [List.map_append,List.nodup_append];exact ⟨hk,by simp,fun a ha c hc e=>zfn h (by simp at hc;rw [<- hc,<- e];exact ha)⟩
  ·rw [List.map_append,List.nodup_append];exact ⟨hb,by simp,fun a ha c hc e=>hn (by simp at hc;rw [<- hc,<- e];exact ha)⟩
  ·rw [z6p];simp [tot]
theorem Bd.sm {n t:Nat} (h:Bd n t X) (hs:Sm X Y) (hf:Y.fc=X.fc):Bd n t Y:=by
 obtain ⟨h1,h2,h3,h4⟩:=h;exact ⟨by rw [hs.files];exact h1,by rw [hs.files,hf];exact h2,by rw [hs.files];exact h3,by rw [hs.files];exact h4⟩
theorem Bd.set {n t j b:Nat} {x:Fl} (h:Bd n t X) (hs:Sm X Y) (hf:Y.fc=setf X.fc b x) (hx:x.b.length <= (X.fc b).b.length + j):Bd n (t + j) Y:=by
 obtain ⟨h1,h2,h3,h4⟩:=h;exact ⟨by rw [hs.files];exact h1,by rw [hs.files,hf];have:=zhd h4 hx (fc:=X.fc);omega,by rw [hs.files];exact h3,by rw [hs.files];exact h4⟩
theorem bd_mk {n t:Nat} (h:Bd n t X) (hr:mkO s X e Y):Bd (n + 1) t Y:=by
 rcases z0j hr with ⟨-,h1,h2⟩ | ⟨-,hn,-,b,hb,hd,hf⟩
 ·exact (h.sm h1 h2).mono (by omega) (Nat.le_refl _)
 ·
  have hbn:b ∉ X.D.files.map Prod.snd:=fun hm=>by
   obtain ⟨p,hp,e⟩:=List.mem_map.1 hm;exact hb b (.inl ⟨p,hp,e⟩) rfl
  have hkn:s ∉ X.D.files.map Prod.fst:=fun hm=>by
   obtain ⟨c,hc⟩:=z1d hm;rw [show flook X.D.files s=none from hn] at hc;cases hc
  obtain ⟨h1,h2,h3,h4⟩:=h;have ht:tot X.D.files Y.fc=tot X.D.files X.fc:=zdi fun p hp=>by
   rw [hf];simp only;rw [if_neg fun e:p.2=b=>hbn (e ▸ List.mem_map.2 ⟨p,hp,rfl⟩)]
  refine ⟨by rw [hd.files,List.length_append];simpa using h1,?_,?_,?_⟩
  ·
   rw [hd.files,z6p,ht];have:(Y.fc b).b.length=0:=by rw [hf];simp
   simp only [tot,List.map_cons,List.map_nil,List.sum_cons,List.sum_nil] at h2 ⊢;omega
  ·rw [hd.files,List.map_append,List.nodup_append];exact ⟨h3,by simp,fun a ha c hc e=>hkn (by simp at hc;rw [<- hc,<- e];exact ha)⟩
  ·rw [hd.files,List.map_append,List.nodup_append];exact ⟨h4,by simp,fun a ha c hc e=>hbn (by simp at hc;rw [<- hc,<- e];exact ha)⟩
theorem bd_ap {n t:Nat} (h:Bd n t X) (hr:apO s bs X e Y):Bd n (t + bs.length) Y:=by
 obtain ⟨h1,⟨-,h2⟩ | ⟨b,k,-,hk,-,hf⟩⟩:=z0p hr
 ·exact (h.sm h1 h2).mono (Nat.le_refl _) (by omega)
 ·exact h.set h1 hf (by simp only [List.length_append,List.length_take];omega)
theorem bd_sy {n t:Nat} (h:Bd n t X) (hr:syO s X e Y):Bd n t Y:=by
 obtain ⟨h1,⟨-,h2⟩ | ⟨-,b,-,hf⟩⟩:=z0c hr
 ·exact h.sm h1 h2
 ·exact h.set h1 hf (j:=0) (by simp)
theorem bd_cu {n t:Nat} (h:Bd n t X) (hr:cuO s k X e Y):Bd n t Y:=by
 obtain ⟨h1,⟨-,h2⟩ | ⟨-,b,-,-,hf⟩⟩:=z2v hr
 ·exact h.sm h1 h2
 ·exact h.set h1 hf (j:=0) (by simp only [List.length_take];omega)
theorem bd_rm {n t:Nat} (h:Bd n t X) (hr:rmO s X e Y):Bd n t Y:=by
 obtain ⟨hf,⟨-,h1,-⟩ | ⟨-,b,-,hd⟩⟩:=z1k hr
 ·exact h.sm h1 hf
 ·obtain ⟨h1,h2,h3,h4⟩:=h;have hsub:(fdel X.D.files s).Sublist X.D.files:=List.filter_sublist;exact ⟨by rw [hd.files];exact Nat.le_trans hsub.length_le h1,by rw [hd.files,hf];exact Nat.le_trans (zax _ _) h2,by rw [hd.files];exact h3.sublist (hsub.map _),by rw [hd.files];exact h4.sublist (hsub.map _)⟩
theorem bd_rn {n k:Nat} (h:Bd n k X) (hr:rnO s t X e Y):Bd n k Y:=by
 obtain ⟨hf,⟨-,h1⟩ | ⟨-,b,hb,hd⟩⟩:=z1x hr
 ·exact h.sm h1 hf
 ·
  obtain ⟨h1,h2,h3,h4⟩:=h;have hb:flook X.D.files s=some b:=hb;have hsub:(fdel X.D.files s).Sublist X.D.files:=List.filter_sublist;have hk:=h3.sublist (hsub.map Prod.fst);have hbk:=h4.sublist (hsub.map Prod.snd);have hn:b ∉ (fdel X.D.files s).map Prod.snd:=fun hm=>by
   obtain ⟨p,hp,e⟩:=List.mem_map.1 hm;obtain ⟨hp1,hp2⟩:=List.mem_filter.1 hp;have hps:p.1 ≠ s:=by simpa using hp2
   have h5:=zn hb;have:p=(s,b):=by
    have h6:=h4;rw [List.Nodup,List.pairwise_map] at h6;obtain ⟨i,hi,hpi⟩:=List.getElem_of_mem hp1;obtain ⟨j,hj,hpj⟩:=List.getElem_of_mem h5;rcases Nat.lt_trichotomy i j with hij | hij | hij
    ·exact absurd (by rw [hpi,hpj];exact e) (List.pairwise_iff_getElem.1 h6 i j hi hj hij)
    ·subst hij;rw [<- hpi,hpj]
    ·exact absurd (by rw [hpi,hpj];exact e.symm) (List.pairwise_iff_getElem.1 h6 j i hj hi hij)
   exact hps (by rw [this])
  obtain ⟨g1,g2,g3⟩:=bd_put (t:=t) hk hbk hn Y.fc;have g4:=z95 X.fc s hb;refine ⟨?_,?_,by rw [hd.files];exact g1,by rw [hd.files];exact g2⟩
  ·rw [hd.files];exact Nat.le_trans (z73 hb t) h1
  ·rw [hd.files];rw [hf] at g3 ⊢;omega
theorem bd_sd {n t:Nat} (h:Bd n t X) (hr:sdO X e Y):Bd n t Y:=by
 obtain ⟨hf,⟨-,h1⟩ | ⟨-,h1,-⟩⟩:=z0k hr
 ·exact h.sm h1 hf
 ·obtain ⟨g1,g2,g3,g4⟩:=h;exact ⟨by rw [h1];exact g1,by rw [h1,hf];exact g2,by rw [h1];exact g3,by rw [h1];exact g4⟩
theorem cap_mk (hr:mkO s X e Y):Y.D.cap=X.D.cap:=by
 rcases z0j hr with ⟨-,h1,-⟩ | ⟨-,-,-,b,-,hd,-⟩
 ·exact h1.cap
 ·exact hd.cap
end Go.Log
end
section
namespace Go.Log
open Go.Vfs
variable {nm:ByteArray} {X Y Z:Ds} {e:Int} {s t:ByteArray} {n k m q:Nat} {x:List Nat} {A:ByteArray -> Prop} {g:Sh} {L L':Lg}
def AllN (A:ByteArray -> Prop) (X:Ds):Prop:=∀ t b,X.dir t=some b -> A t
structure Qt (n q:Nat) (A:ByteArray -> Prop) (c:Int) (X:Ds):Prop where
 bd:Bd n q X
 al:AllN A X
 cap:X.D.cap=c
variable {c:Int}
theorem Qt.mono {n' q':Nat} {A':ByteArray -> Prop} (h:Qt n q A c X) (h1:n <= n') (h2:q <= q') (h3:∀ t,A t -> A' t):Qt n' q' A' c X:=⟨h.bd.mono h1 h2,fun t b hb=>h3 t (h.al t b hb),h.cap⟩
theorem Qt.sm (h:AllN A X) (hs:Sm X Y):AllN A Y:=fun t b hb=>h t b (by rw [<- hs.dir];exact hb)
theorem z2h (h:Qt n q A c X) (hA:A s) (hr:mkO s X e Y):Qt (n + 1) q A c Y:=by
 refine ⟨bd_mk h.bd hr,?_,(cap_mk hr).trans h.cap⟩;rcases z0j hr with ⟨-,h1,-⟩ | ⟨-,hn,-,b,-,hd,-⟩
 ·exact Qt.sm h.al h1
 ·
  intro t b' hb;have hb:(Dir.put X.dir s b) t=some b':=by rw [show Y.dir=Dir.put X.dir s b by unfold Ds.dir;rw [hd.files,z0e hn]] at hb;exact hb
  unfold Dir.put at hb;split at hb
  ·rename_i e1;rw [e1];exact hA
  ·exact h.al t b' hb
theorem zbe (h:Qt n q A c X) (hr:apO s x X e Y):Qt n (q + x.length) A c Y:=⟨bd_ap h.bd hr,Qt.sm h.al (z0p hr).1,(z0p hr).1.cap.trans h.cap⟩
theorem z2i (h:Qt n q A c X) (hr:syO s X e Y):Qt n q A c Y:=⟨bd_sy h.bd hr,Qt.sm h.al (z0c hr).1,(z0c hr).1.cap.trans h.cap⟩
theorem qt_cu (h:Qt n q A c X) (hr:cuO s k X e Y):Qt n q A c Y:=⟨bd_cu h.bd hr,Qt.sm h.al (z2v hr).1,(z2v hr).1.cap.trans h.cap⟩
theorem al_del (h:AllN A X) (hd:Y.dir=Dir.del X.dir s):AllN A Y:=fun t b hb=>by
 rw [hd] at hb;unfold Dir.del at hb;split at hb
 ·cases hb
 ·exact h t b hb
theorem zbf (h:Qt n q A c X) (hr:rmO s X e Y):Qt n q A c Y:=by
 refine ⟨bd_rm h.bd hr,?_,?_⟩
 ·
  obtain ⟨-,⟨-,h1,-⟩ | ⟨-,b,-,hd⟩⟩:=z1k hr
  ·exact Qt.sm h.al h1
  ·exact al_del h.al (by unfold Ds.dir;rw [hd.files,z0l])
 ·
  obtain ⟨-,⟨-,h1,-⟩ | ⟨-,b,-,hd⟩⟩:=z1k hr
  ·exact h1.cap.trans h.cap
  ·exact hd.cap.trans h.cap
theorem z8w (h:Qt n q A c X) (hr:rmnO s X e Y):Qt n q A c Y:=by
 obtain ⟨e1,hr,-⟩:=hr;exact zbf h hr
theorem zfj (h:Qt n q A c X) (hA:A t) (hr:rnO s t X e Y):Qt n q A c Y:=by
 refine ⟨bd_rn h.bd hr,?_,?_⟩
 ·
  obtain ⟨-,⟨-,h1⟩ | ⟨-,b,-,hd⟩⟩:=z1x hr
  ·exact Qt.sm h.al h1
  ·
   intro u b' hb;have hb:(Dir.put (Dir.del X.dir s) t b) u=some b':=by rw [show Y.dir=Dir.put (Dir.del X.dir s) t b by unfold Ds.dir;rw [hd.files,z2d,z0l]] at hb;exact hb
   unfold Dir.put Dir.del at hb;split at hb
   ·rename_i e1;rw [e1];exact hA
   ·
    split at hb
    ·cases hb
    ·exact h.al u b' hb
 ·
  obtain ⟨-,⟨-,h1⟩ | ⟨-,b,-,hd⟩⟩:=z1x hr
  ·exact h1.cap.trans h.cap
  ·exact hd.cap.trans h.cap
theorem z6e (h:Qt n q A c X) (hr:sdO X e Y):Qt n q A c Y:=by
 refine ⟨bd_sd h.bd hr,?_,?_⟩
 ·
  obtain ⟨-,⟨-,h1⟩ | ⟨-,h1,-⟩⟩:=z0k hr
  ·exact Qt.sm h.al h1
  ·exact fun t b hb=>h.al t b (by unfold Ds.dir at hb ⊢;rw [<- h1];exact hb)
 ·
  obtain ⟨-,⟨-,h1⟩ | ⟨-,-,-,-,h1⟩⟩:=z0k hr
  ·exact h1.cap.trans h.cap
  ·exact h1.trans h.cap
theorem z4p (h:Qt n q A c X) (hA:A s) (hr:putO s x X e Y):Qt (n + 1) (q + (8 + x.length)) A c Y:=by
 rcases zj hr with ⟨-,h1⟩ | ⟨Z1,h1,hr⟩
 ·exact (z2h h hA h1).mono (Nat.le_refl _) (by omega) (fun _ e=>e)
 have q1:=z2h h hA h1;rcases zj hr with ⟨-,h1⟩ | ⟨Z2,h1,hr⟩
 ·have:=zbe q1 h1;rw [zu] at this;exact this
 have q2:=zbe q1 h1;rw [zu] at q2;exact z2i q2 (z06 hr)
theorem z5y (hF:Fau X.D) (h:Qt n q A c X) (hA:A s) (hm:mnB s=true) (h0:X.dir s=none) (hn:n < 64) (hq:((q + (8 + x.length):Nat):Int) <= c) (hr:putO s x X e Y):FR X e Y:=by
 have hl:X.D.files.length < 64:=by have:=h.bd.nf;omega
 rcases zj hr with ⟨-,h1⟩ | ⟨Z1,h1,hr⟩
 ·exact z3v hF hm h0 hl h1
 have f1:=z3v hF hm h0 hl h1;have q1:=z2h h hA h1;rcases z0j h1 with ⟨h2,-⟩ | ⟨-,-,-,b,-,hd,-⟩
 ·exact absurd rfl h2
 have d1:Z1.dir s=some b:=by
  have:Z1.dir=Dir.put X.dir s b:=by unfold Ds.dir;rw [hd.files,z0e h0]
  rw [this];exact if_pos rfl
 have hroom:((recd x).length:Int) <= Z1.D.cap - (tot Z1.D.files Z1.fc:Nat):=by
  rw [zu,q1.cap];have:=q1.bd.nt;omega
 clear h1 hd;rcases zj hr with ⟨-,h1⟩ | ⟨Z2,h1,hr⟩
 ·exact f1.trans (zb4 f1.fau hm d1 hroom h1)
 have f2:=f1.trans (zb4 f1.fau hm d1 hroom h1);have d2:Z2.dir s=some b:=by rw [(z0p h1).1.dir];exact d1
 exact f2.trans (z38 f2.fau hm d2 (z06 hr))
theorem z6d (h:Qt n q A c X) (hA1:A (newf nm)) (hA2:A (manf nm)) (hr:manO nm m k X e Y):Qt (n + 1) (q + 24) A c Y:=by
 rcases zj hr with ⟨-,h1⟩ | ⟨Z1,h1,hr⟩
 ·exact (z8w h h1).mono (by omega) (by omega) (fun _ e=>e)
 have q1:=z8w h h1;rcases zj hr with ⟨-,h1⟩ | ⟨Z2,h1,hr⟩
 ·have:=z4p q1 hA1 h1;rw [z1s] at this;exact this
 have q2:=z4p q1 hA1 h1;rw [z1s] at q2;rcases zj hr with ⟨-,h1⟩ | ⟨Z3,h1,hr⟩
 ·exact z6e q2 h1
 have q3:=z6e q2 h1;rcases zj hr with ⟨-,h1⟩ | ⟨Z4,h1,hr⟩
 ·exact zfj q3 hA2 h1
 exact z6e (zfj q3 hA2 h1) (z06 hr)
theorem z6z (hr:putO s x X 0 Y):X.dir s=none /\ ∃ b,Y.dir=Dir.put X.dir s b /\ (∀ t c,X.dir t=some c -> c ≠ b) /\ Y.fc b=⟨recd x,(recd x).length⟩ /\ (∀ c,c ≠ b -> Y.fc c=X.fc c):=by
 rcases zj hr with ⟨h0,-⟩ | ⟨Z1,h1,hr⟩
 ·exact absurd rfl h0
 rcases z0j h1 with ⟨h2,-⟩ | ⟨-,hn,-,b,hb,hd,hf⟩
 ·exact absurd rfl h2
 have d1:Z1.dir=Dir.put X.dir s b:=by unfold Ds.dir;rw [hd.files,z0e hn]
 have d1s:Z1.dir s=some b:=by rw [d1];exact if_pos rfl
 rcases zj hr with ⟨h0,-⟩ | ⟨Z2,h2,hr⟩
 ·exact absurd rfl h0
 obtain ⟨s2,⟨h3,-⟩ | ⟨b',k,h3,-,hk,h4⟩⟩:=z0p h2
 ·exact absurd rfl h3
 obtain rfl:b'=b:=Option.some.inj (h3.symm.trans d1s);have d2s:Z2.dir s=some b':=by rw [s2.dir];exact d1s
 obtain ⟨s3,⟨h5,-⟩ | ⟨-,b,h5,h6⟩⟩:=z0c (z06 hr)
 ·exact absurd rfl h5
 obtain rfl:b=b':=Option.some.inj (h5.symm.trans d2s);refine ⟨hn,b,s3.dir.trans (s2.dir.trans d1),fun t c ht=>hb c (.inl ⟨_,zn ht,rfl⟩),?_,fun c hc=>?_⟩
 ·rw [h6,z0f,h4,z0f,hf,hk rfl,List.take_length];simp
 ·rw [h6,z0i _ _ hc,h4,z0i _ _ hc,hf];exact if_neg hc
theorem z8g (hF:Fau X.D) (h6:X.D.fe ≠ 6) (h:Qt n q A c X) (hA1:A (newf nm)) (hm1:mnB (newf nm)=true) (hm2:mnB (manf nm)=true) (hn:n < 64) (hq:((q + 24:Nat):Int) <= c) (hr:manO nm m k X e Y):FR X e Y:=by
 rcases zj hr with ⟨-,h1⟩ | ⟨Z1,h1,hr⟩
 ·exact (zcg hF h6 hm1 h1).1
 obtain ⟨f1,d1⟩:=zcg hF h6 hm1 h1;have q1:=z8w h h1;rcases zj hr with ⟨-,h1⟩ | ⟨Z2,h1,hr⟩
 ·exact f1.trans (z5y f1.fau q1 hA1 hm1 (d1 rfl) hn (by rw [z1s];exact hq) h1)
 have f2:=f1.trans (z5y f1.fau q1 hA1 hm1 (d1 rfl) hn (by rw [z1s];exact hq) h1);obtain ⟨-,b,d2,-⟩:=z6z h1;rcases zj hr with ⟨-,h1⟩ | ⟨Z3,h1,hr⟩
 ·exact f2.trans (z5z f2.fau h1)
 have f3:=f2.trans (z5z f2.fau h1);have d3:Z3.dir (newf nm)=some b:=by
  obtain ⟨-,⟨g,-⟩ | ⟨-,g,-⟩⟩:=z0k h1
  ·exact absurd rfl g
  ·
   have:Z3.dir=Z2.dir:=by unfold Ds.dir;rw [g]
   rw [this,d2];exact if_pos rfl
 rcases zj hr with ⟨-,h1⟩ | ⟨Z4,h1,hr⟩
 ·exact f3.trans (zff f3.fau hm1 hm2 d3 h1)
 have f4:=f3.trans (zff f3.fau hm1 hm2 d3 h1);exact f4.trans (z5z f4.fau (z06 hr))
theorem man_ok (hw:Wf X) (hr:manO nm m k X 0 Y):Wf Y /\ ∃ b,(∀ t c,t ≠ newf nm -> X.dir t=some c -> c ≠ b) /\ Y.dir=manD nm X.dir b /\ Y.fc b=⟨recd (mrec m k),(recd (mrec m k)).length⟩ /\ (∀ c,c ≠ b -> Y.fc c=X.fc c) /\ (∀ f,Rch Y f -> f=Y.dir) /\ Y.D.steps=[] /\ Y.D.lasting=Y.D.files:=by
 rcases zj hr with ⟨h0,-⟩ | ⟨Z1,h1,hr⟩
 ·exact absurd rfl h0
 obtain ⟨f1,d1⟩:=z4r h1;have d1:=zak d1;rcases zj hr with ⟨h0,-⟩ | ⟨Z2,h2,hr⟩
 ·exact absurd rfl h0
 obtain ⟨hn,b,d2,hb,f2,f2'⟩:=z6z h2;rcases zj hr with ⟨h0,-⟩ | ⟨Z3,h3,hr⟩
 ·exact absurd rfl h0
 obtain ⟨f3,⟨h0,-⟩ | ⟨-,g1,g2,g3,-⟩⟩:=z0k h3
 ·exact absurd rfl h0
 rcases zj hr with ⟨h0,-⟩ | ⟨Z4,h4,hr⟩
 ·exact absurd rfl h0
 obtain ⟨f4,⟨h0,-⟩ | ⟨-,b',hb4,hd⟩⟩:=z1x h4
 ·exact absurd rfl h0
 have h5:=z06 hr;obtain ⟨f5,⟨h0,-⟩ | ⟨-,k1,k2,k3,-⟩⟩:=z0k h5
 ·exact absurd rfl h0
 have d1':∀ t,t ≠ newf nm -> Z1.dir t=X.dir t:=fun t ht=>by
  rcases d1 with d1 | d1
  ·rw [d1]
  ·rw [d1];exact if_neg ht
 have d3:Z3.dir=Dir.put Z1.dir (newf nm) b:=by rw [<- d2];unfold Ds.dir;rw [g1]
 have eb:b'=b:=Option.some.inj (hb4.symm.trans (by rw [d3];exact if_pos rfl));subst eb;have d5:Y.dir=manD nm X.dir b':=by
  have h6:Y.dir=Dir.put (Dir.del Z3.dir (newf nm)) (manf nm) b':=by unfold Ds.dir;rw [k1,hd.files,z2d,z0l]
  rw [h6,d3];funext t;show (if t=manf nm then some b' else if t=newf nm then none else if t=newf nm then some b' else Z1.dir t)=if t=manf nm then some b' else if t=newf nm then none else X.dir t
  by_cases e1:t=manf nm
  ·rw [if_pos e1,if_pos e1]
  ·
   rw [if_neg e1,if_neg e1];by_cases e2:t=newf nm
   ·rw [if_pos e2,if_pos e2]
   ·rw [if_neg e2,if_neg e2,if_neg e2,d1' t e2]
 refine ⟨(by unfold Wf;rw [k3];intro s hs;cases hs),b',fun t c ht hc=>hb t c (by rw [d1' t ht];exact hc),d5,by rw [f5,f4,f3];exact f2,fun c hc=>by rw [f5,f4,f3,f2' c hc,f1],fun f hf=>?_,k3,by rw [k2,k1]⟩;rw [z3p h5 hf];unfold Ds.dir;rw [k1]
end Go.Log
end
section
namespace Go.Log
open Go.Vfs
variable {nm:ByteArray} {X Y Z:Ds} {e:Int} {s t:ByteArray} {n k m q:Nat} {x:List Nat} {A:ByteArray -> Prop} {g:Sh} {L L':Lg} {c:Int} {P:Sh -> Prop}
theorem qt_app (h:Qt n q A c X) (hA:nx L.name X < mxn -> A (sgf L.name (nx L.name X + 1))) (hr:appR L x X e L' Y):Qt (n + 1) (q + (8 + x.length)) A c Y:=by
 rcases hr with ⟨-,-,-,rfl⟩ | ⟨-,e1,Z,h1,h2⟩
 ·exact h.mono (by omega) (by omega) (fun _ e=>e)
 have q1:=zbe h h1;rw [zu] at q1;rcases h2 with ⟨-,-,-,rfl⟩ | ⟨-,-,-,-,rfl⟩ | ⟨-,-,h2,-⟩
 ·exact q1.mono (by omega) (Nat.le_refl _) (fun _ e=>e)
 ·exact q1.mono (by omega) (Nat.le_refl _) (fun _ e=>e)
 rcases zj h2 with ⟨-,h3⟩ | ⟨Z1,h3,h2⟩
 ·exact (z2i q1 h3).mono (by omega) (Nat.le_refl _) (fun _ e=>e)
 have q2:=z2i q1 h3;rcases zj h2 with ⟨-,-,h4⟩ | ⟨Z2,⟨h4,h4'⟩,h2'⟩
 ·subst h4;exact q2.mono (by omega) (Nat.le_refl _) (fun _ e=>e)
 clear h2;subst h4';have nz:nx L.name Z=nx L.name X:=z58 (z0p h1).1;have hlt:nx L.name X < mxn:=by
  rw [<- nz];have h4:(0:Int)=nxE L.name Z:=h4;unfold nxE at h4;split at h4
  ·cases h4
  ·omega
 have ha:=hA hlt;rw [<- nz] at ha;rcases zj h2' with ⟨-,h5⟩ | ⟨Z3,h5,h2⟩
 ·exact z2h q2 ha h5
 ·exact z6e (z2h q2 ha h5) (z06 h2)
theorem qt_syn (h:Qt n q A c X) (hr:synR L X e L' Y):Qt n q A c Y:=by
 rcases hr with ⟨-,-,-,rfl⟩ | ⟨-,h1,-⟩
 ·exact h
 ·exact z2i h h1
theorem zel (h:Qt n q A c X) {l:List ByteArray} (hr:askO (l.map rmO) X e Y):Qt n q A c Y:=by
 induction l generalizing X with
 | nil=>obtain ⟨-,rfl⟩:=hr;exact h
 | cons t l ih =>
  rcases zj (o:=rmO t) (l:=l.map rmO) hr with ⟨-,h1⟩ | ⟨Z,h1,h2⟩
  ·exact zbf h h1
  ·exact ih (zbf h h1) h2
structure TN (nm:ByteArray) (A:ByteArray -> Prop) (k:Nat):Prop where
 new:A (newf nm)
 man:A (manf nm)
 snap:A (snf nm (k + 1))
 seg:A (sgf nm (k + 2))
theorem zgr (h:Qt n q A c X) (hA:nx L.name X + 1 < mxn -> TN L.name A (nx L.name X)) (hr:turnR L x X e L' Y):Qt (n + 3) (q + (8 + x.length) + 24) A c Y:=by
 rcases hr with ⟨-,-,-,rfl⟩ | ⟨-,h1,-⟩
 ·exact h.mono (by omega) (by omega) (fun _ e=>e)
 rcases zj h1 with ⟨-,h2⟩ | ⟨Z1,h2,h1⟩
 ·exact (z2i h h2).mono (by omega) (by omega) (fun _ e=>e)
 have q1:=z2i h h2;rcases zj h1 with ⟨-,-,h3⟩ | ⟨Z2,⟨h3,h3'⟩,h1'⟩
 ·subst h3;exact q1.mono (by omega) (by omega) (fun _ e=>e)
 clear h1;subst h3'
 have ha:=hA (by
  have h3:(0:Int)=turnE L.name X:=h3;unfold turnE at h3;split at h3
  ·cases h3
  ·omega)
 rcases zj h1' with ⟨-,h4⟩ | ⟨Z3,h4,h1⟩
 ·exact (z4p q1 ha.snap h4).mono (by omega) (by omega) (fun _ e=>e)
 have q3:=z4p q1 ha.snap h4;rcases zj h1 with ⟨-,h5⟩ | ⟨Z4,h5,h1⟩
 ·exact (z2h q3 ha.seg h5).mono (by omega) (by omega) (fun _ e=>e)
 have q4:=z2h q3 ha.seg h5;rcases zj h1 with ⟨-,h6⟩ | ⟨Z5,h6,h1⟩
 ·exact z6d q4 ha.new ha.man h6
 have q5:=z6d q4 ha.new ha.man h6;obtain ⟨ns,-,hw⟩:=z06 h1;exact zel q5 hw
theorem zfe {f:Int} (hF:Fau X.D) (hf:f=0) (hr:erO f X e Y):FR X e Y:=by
 obtain ⟨rfl,rfl⟩:=hr;subst hf;exact FR.refl hF
theorem fr_app (hn:mnB nm=true) (h16:nm.size <= 16) (h:LI nm L X g) (hx:Recs [x]) (hF:Fau X.D) (hq:Qt n q A c X) (hn64:n < 64) (hc:((q + (8 + x.length):Nat):Int) <= c) (hnx:nx nm X < mxn) (hr:appR L x X e L' Y):FR X e Y:=by
 have hxl:x.length <= mxr:=(hx x (by simp)).1;rcases hr with ⟨h0,-⟩ | ⟨-,e1,Z,h1,h2⟩
 ·exact absurd (h.may hxl) h0
 have hmm:=h.shape.m1;have hmg:mnB (sgf nm g.m)=true:=z0o hn h16 hmm.2;rw [h.atseg] at h1;have f1:=zb4 hF hmg h.shape.lastAt (by rw [zu,hq.cap];have:=hq.bd.nt;omega) h1;rcases h2 with ⟨h0,rfl,-,rfl⟩ | ⟨rfl,-,rfl,-,rfl⟩ | ⟨rfl,-,h2,-⟩
 ·exact f1
 ·exact f1
 have s1:=(z0p h1).1;have d1:Z.dir (sgf nm g.m)=some g.b:=by rw [s1.dir];exact h.shape.lastAt
 have e1:Lg.seg { L with recs:=L.recs ++ [x],size:=L.size + (8 + x.length) }=sgf nm g.m:=h.atseg;have e2:({ L with recs:=L.recs ++ [x],size:=L.size + (8 + x.length) }:Lg).name=nm:=h.name;rw [e1,e2] at h2;rcases zj h2 with ⟨-,h3⟩ | ⟨Z1,h3,h2⟩
 ·exact f1.trans (z38 f1.fau hmg d1 h3)
 have f2:=f1.trans (z38 f1.fau hmg d1 h3);have s2:=(z0c h3).1;have n1:nx nm Z=nx nm X:=z58 s1;have n2:nx nm Z1=nx nm X:=(z58 s2).trans n1;have hE:nxE nm Z=0:=by unfold nxE;rw [if_neg (by omega)]
 rcases zj h2 with ⟨-,h4⟩ | ⟨Z2,h4,h2'⟩
 ·exact f2.trans (zfe f2.fau hE h4)
 clear h2;obtain ⟨-,rfl⟩:=h4;have hno:=z3z (nm:=nm) (X:=Z2) (k:=nx nm Z + 1) (by omega) (by omega);have hlen:Z2.D.files.length < 64:=by rw [s2.files,s1.files];have:=hq.bd.nf;omega
 have hmk:mnB (sgf nm (nx nm Z + 1))=true:=z0o hn h16 (by omega);rcases zj h2' with ⟨-,h5⟩ | ⟨Z3,h5,h2⟩
 ·exact f2.trans (z3v f2.fau hmk hno.1 hlen h5)
 have f3:=f2.trans (z3v f2.fau hmk hno.1 hlen h5);exact f3.trans (z5z f3.fau (z06 h2))
theorem fr_syn (hn:mnB nm=true) (h16:nm.size <= 16) (h:LI nm L X g) (hF:Fau X.D) (hr:synR L X e L' Y):FR X e Y:=by
 rcases hr with ⟨h0,-⟩ | ⟨-,h1,-⟩
 ·exact absurd (h.may (Nat.zero_le _)) h0
 ·rw [h.atseg] at h1;exact z38 hF (z0o hn h16 h.shape.m1.2) h.shape.lastAt h1
theorem ze2 (hm:∀ t b,X.dir t=some b -> mnB t=true) (hF:Fau X.D) {l:List ByteArray} (hl:∀ t ∈ l,∃ b,X.dir t=some b) (hnd:l.Nodup) (hr:askO (l.map rmO) X e Y):FR X e Y:=by
 induction l generalizing X with
 | nil=>obtain ⟨rfl,rfl⟩:=hr;exact FR.refl hF
 | cons t l ih =>
  obtain ⟨b,hb⟩:=hl t (by simp);rw [List.nodup_cons] at hnd;rcases zj (o:=rmO t) (l:=l.map rmO) hr with ⟨-,h1⟩ | ⟨Z,h1,h2⟩
  ·exact zb5 hF (hm t b hb) hb h1
  ·
   have f1:=zb5 hF (hm t b hb) hb h1;obtain ⟨-,⟨g,-⟩ | ⟨-,b',-,hd⟩⟩:=z1k h1
   ·exact absurd rfl g
   have dz:Z.dir=Dir.del X.dir t:=by unfold Ds.dir;rw [hd.files,z0l]
   refine f1.trans (ih (fun u c hc=>?_) f1.fau (fun u hu=>?_) hnd.2 h2)
   ·
    rw [dz] at hc;unfold Dir.del at hc;split at hc
    ·cases hc
    ·exact hm u c hc
   ·obtain ⟨c,hc⟩:=hl u (by simp [hu]);exact ⟨c,by rw [dz];exact (if_neg fun e:u=t=>hnd.1 (e ▸ hu)).trans hc⟩
theorem zg5 (hn:mnB nm=true) (h16:nm.size <= 16) (h:LI nm L X g) (hx:Recs [x]) (hF:Fau X.D) (h6:X.D.fe ≠ 6) (hmn:∀ t,A t -> mnB t=true) (hA:TN nm A (nx nm X)) (hq:Qt n q A c X) (hn64:n + 2 < 64) (hc:((q + (8 + x.length) + 24:Nat):Int) <= c) (hnx:nx nm X + 1 < mxn) (hr:turnR L x X e L' Y):FR X e Y:=by
 have hxl:x.length <= mxr:=(hx x (by simp)).1;rcases hr with ⟨h0,-⟩ | ⟨-,h1,-⟩
 ·exact absurd (h.may hxl) h0
 rw [h.atseg] at h1;obtain rfl:nm=L.name:=h.name.symm;have f6:∀ {Z},FR X 0 Z -> Z.D.fe ≠ 6:=fun h=>h.fe.elim (fun e=>e ▸ h6) (fun e=>by rw [e];decide);rcases zj h1 with ⟨-,h2⟩ | ⟨Z1,h2,h1⟩
 ·exact z38 hF (z0o hn h16 h.shape.m1.2) h.shape.lastAt h2
 have f1:=z38 hF (z0o hn h16 h.shape.m1.2) h.shape.lastAt h2;have q1:=z2i hq h2;have n1:nx L.name Z1=nx L.name X:=z58 (z0c h2).1;have hE:turnE L.name X=0:=by unfold turnE;rw [if_neg (by omega)]
 rcases zj h1 with ⟨-,h3⟩ | ⟨Z2,h3,h1'⟩
 ·exact f1.trans (zfe f1.fau hE h3)
 clear h1;obtain ⟨-,rfl⟩:=h3;have hms:mnB (snf L.name (nx L.name X + 1))=true:=z55 hn h16 (by omega);have hno:=z3z (nm:=L.name) (X:=Z2) (k:=nx L.name X + 1) (by omega) (by omega);rcases zj h1' with ⟨-,h4⟩ | ⟨Z3,h4,h1⟩
 ·exact f1.trans (z5y f1.fau q1 hA.snap hms hno.2 (by omega) (by omega) h4)
 have f3:=f1.trans (z5y f1.fau q1 hA.snap hms hno.2 (by omega) (by omega) h4);have q3:=z4p q1 hA.snap h4;obtain ⟨-,b1,d3,-⟩:=z6z h4;have hno3:Z3.dir (sgf L.name (nx L.name X + 2))=none:=by
  rw [d3];show (if _=_ then _ else Z2.dir _)=_;rw [if_neg (z2o L.name (by omega) (by omega))];exact (z3z (nm:=L.name) (by omega) (by omega)).1
 have hmg:mnB (sgf L.name (nx L.name X + 2))=true:=z0o hn h16 (by omega);have hl3:Z3.D.files.length < 64:=by have:=q3.bd.nf;omega
 rcases zj h1 with ⟨-,h5⟩ | ⟨Z4,h5,h1⟩
 ·exact f3.trans (z3v f3.fau hmg hno3 hl3 h5)
 have f4:=f3.trans (z3v f3.fau hmg hno3 hl3 h5);have q4:=z2h q3 hA.seg h5;rcases zj h1 with ⟨-,h6'⟩ | ⟨Z5,h6',h1⟩
 ·exact f4.trans (z8g f4.fau (f6 f4) q4 hA.new (z54 hn h16) (z2r hn h16) (by omega) (by omega) h6')
 have f5:=f4.trans (z8g f4.fau (f6 f4) q4 hA.new (z54 hn h16) (z2r hn h16) (by omega) (by omega) h6');have q5:=z6d q4 hA.new hA.man h6';obtain ⟨ns,hp,hw⟩:=z06 h1;refine f5.trans (ze2 (fun t b hb=>hmn t (q5.al t b hb)) f5.fau (fun t ht=>?_) ?_ hw)
 ·have h7:=hp.mem_iff.1 (List.mem_filter.1 ht).1;exact z1d h7
 ·exact (hp.nodup_iff.2 q5.bd.key).sublist List.filter_sublist
theorem zg4 (hn:mnB nm=true) (h16:nm.size <= 16) (hF:Fau X.D) {b en m k:Nat} (hmm:m <= mxn) (hd:X.dir (sgf nm m)=some b) (hl:(X.fc b).b.length=k) (hen:en <= k) (hr:askO [if k=en then nop else cuO (sgf nm m) en,syO (sgf nm m),sdO] X e Y):FR X e Y:=by
 have hmg:mnB (sgf nm m)=true:=z0o hn h16 hmm;have cutF:∀ {e Z},(if k=en then nop else cuO (sgf nm m) en) X e Z -> FR X e Z /\ Sm X Z:=fun {e Z} hc=>by
  by_cases he:k=en
  ·rw [if_pos he] at hc;obtain ⟨rfl,rfl⟩:=hc;exact ⟨FR.refl hF,Sm.refl _⟩
  ·rw [if_neg he] at hc;exact ⟨fr_cu hF hmg hd (by omega) hc,(z2v hc).1⟩
 rcases zj hr with ⟨-,h1⟩ | ⟨Z1,h1,hr⟩
 ·exact (cutF h1).1
 obtain ⟨f1,s1⟩:=cutF h1;have d1:Z1.dir (sgf nm m)=some b:=by rw [s1.dir];exact hd
 rcases zj hr with ⟨-,h2⟩ | ⟨Z2,h2,hr⟩
 ·exact f1.trans (z38 f1.fau hmg d1 h2)
 have f2:=f1.trans (z38 f1.fau hmg d1 h2);exact f2.trans (z5z f2.fau (z06 hr))
theorem zgq {en m k:Nat} (h:Qt n q A c X) (hr:askO [if k=en then nop else cuO (sgf nm m) en,syO (sgf nm m),sdO] X e Y):Qt n q A c Y:=by
 have cutF:∀ {e Z},(if k=en then nop else cuO (sgf nm m) en) X e Z -> Qt n q A c Z:=fun {e Z} hc=>by
  by_cases he:k=en
  ·rw [if_pos he] at hc;obtain ⟨rfl,rfl⟩:=hc;exact h
  ·rw [if_neg he] at hc;exact qt_cu h hc
 rcases zj hr with ⟨-,h1⟩ | ⟨Z1,h1,hr⟩
 ·exact cutF h1
 have q1:=cutF h1;rcases zj hr with ⟨-,h2⟩ | ⟨Z2,h2,hr⟩
 ·exact z2i q1 h2
 exact z6e (z2i q1 h2) (z06 hr)
theorem zbb {most:Nat} (hn:mnB nm=true) (h16:nm.size <= 16) (hw:Wf X) (hF:Fau X.D) (hfe:X.D.fe=0) (hq:Qt n q A c X) (hn64:n + 1 < 64) (hc:((q + 24:Nat):Int) <= c) (h0:X.dir (manf nm)=none) (hnx:nx nm X=0) (hA1:A (sgf nm 1)) (hA2:A (newf nm)) (hA3:A (manf nm)) (hr:openR nm most X e L Y) :
  e=0 /\ Fau Y.D /\ Y.D.fe=0 /\ Qt (n + 2) (q + 24) A c Y /\ Y.D.steps=[] /\ Y.D.lasting=Y.D.files /\ L={ lg0 nm most with first:=1,segment:=1,segments:=1 } /\ ∃ g,LI nm L Y g /\ g.sn=none /\ (∀ t,t=manf nm \/ t=sgf nm 1 \/ (t ≠ newf nm /\ ∃ b,X.dir t=some b) ↔ ∃ b,Y.dir t=some b):=by
 rcases hr with ⟨-,hr,hL⟩ | ⟨b,h1,-⟩ | ⟨b,_,_,_,h1,-⟩
 ·
  rw [hnx] at hr hL;have hE:nxE nm X=0:=by unfold nxE;rw [hnx];rfl
  have hmg:mnB (sgf nm 1)=true:=z0o hn h16 (by decide);have hno:=z3z (nm:=nm) (X:=X) (k:=1) (by omega) (by decide);have hl:X.D.files.length < 64:=by have:=hq.bd.nf;omega
  rcases zj hr with ⟨g,h1⟩ | ⟨Z1,h1,hr'⟩
  ·obtain ⟨g1,-⟩:=h1;exact absurd (g1.trans hE) g
  clear hr;obtain ⟨-,rfl⟩:=h1;have mkF:∀ {e Z},mkO (sgf nm 1) Z1 e Z -> FR Z1 e Z:=fun h=>z3v hF hmg hno.1 hl h;rcases zj hr' with ⟨g,h2⟩ | ⟨Z2,h2,hr⟩
  ·exact absurd ((mkF h2).calm hfe).1 g
  have f2:=mkF h2;have q2:=z2h hq hA1 h2;rcases z0j h2 with ⟨h3,-⟩ | ⟨-,-,-,b,hb,hd,hf⟩
  ·exact absurd rfl h3
  have h3:=z06 hr;have f3:=f2.trans (z8g f2.fau (by rw [(f2.calm hfe).2];decide) q2 hA2 (z54 hn h16) (z2r hn h16) (by omega) (by omega) h3);have q3:=z6d q2 hA2 hA3 h3;obtain ⟨rfl,hfe3⟩:=f3.calm hfe;have w2:Wf Z2:=hd.wf hw fun _=>⟨b,rfl⟩
  obtain ⟨w3,b3,hb3,d3,c3,c3',r3,s3,l3⟩:=man_ok w2 h3;have d2:Z2.dir=Dir.put Z1.dir (sgf nm 1) b:=by unfold Ds.dir;rw [hd.files,z0e hno.1]
  have hsm:=z2m nm (n:=1) (by omega) (by decide);have hsn:=z2n nm (n:=1) (by omega) (by decide);have d2s:Z2.dir (sgf nm 1)=some b:=by rw [d2];exact if_pos rfl
  have ebb:b ≠ b3:=hb3 _ _ hsn d2s;have cb:Y.fc b=⟨[],0⟩:=by rw [c3' b ebb,hf];exact if_pos rfl
  have at':∀ t,t ≠ manf nm -> t ≠ newf nm -> Y.dir t=Z2.dir t:=fun t h7 h8=>by rw [d3];unfold manD;rw [if_neg h7,if_neg h8]
  refine ⟨rfl,f3.fau,hfe3,q3.mono (by omega) (Nat.le_refl _) (fun _ e=>e),s3,l3,hL,⟨0,1,none,b3,0,[],1,b,[],0,0⟩,?_,rfl,fun t=>?_⟩
  ·
   have sh:Shape nm Y.dir Y.fc ⟨0,1,none,b3,0,[],1,b,[],0,0⟩:=by
    refine { f1:=Nat.le_refl _,s1:=Nat.zero_le _,man:=by rw [d3];exact if_pos rfl,manc:=c3,snap:=.inl ⟨rfl,rfl⟩,asc:=List.pairwise_singleton _ _,rng:=?_,segs:=?_,clc:=(fun c hc=>by cases hc),lastb:=?_,lastq:=Nat.zero_le _,lastl:=?_,lastd:=Nat.zero_le _,lastr:=(fun x hx=>by cases hx),apart:=⟨ebb,fun h=>by have h:1 <= 0:=h;omega,fun c hc=>by cases hc⟩ }
    ·intro p hp;rw [List.mem_singleton.1 (show p ∈ [(1,b)] from hp)];exact ⟨Nat.le_refl _,show 1 <= mxn by decide⟩
    ·
     intro k k1 k2;have k1':1 <= k:=k1;show Y.dir (sgf nm k)=([(1,b)].find? fun p=>decide (p.1=k)).map Prod.snd;rw [at' _ (z2m nm k1' k2) (z2n nm k1' k2),d2];show (if sgf nm k=sgf nm 1 then some b else Z1.dir (sgf nm k))=_;by_cases ek:k=1
     ·subst ek;rw [if_pos rfl];simp
     ·rw [if_neg (fun e=>ek (z74 nm k1' k2 (by omega) (by decide) e)),(z3z (nm:=nm) (X:=Z1) (k:=k) (by omega) k2).1,z7i];intro p hp;rw [List.mem_singleton.1 hp];exact fun e=>ek e.symm
    ·show (Y.fc b).b=_;rw [cb];rfl
    ·show _ <= (Y.fc b).lasts /\ (Y.fc b).lasts <= _;rw [cb];exact ⟨Nat.le_refl _,Nat.le_refl _⟩
   subst hL;exact { inn:=⟨w3,fun f hf=>⟨_,rfl,by rw [r3 f hf];exact sh⟩⟩,full:=rfl,name:=rfl,nob:=rfl,first:=rfl,seg:=rfl,segs:=rfl,size:=rfl,recs:=rfl,syn:=Nat.le_refl _,snap:=.inl ⟨rfl,rfl,rfl⟩ }
  ·
   rw [d3,d2];unfold manD Dir.put;by_cases e1:t=manf nm
   ·simp [e1]
   ·
    rw [if_neg e1];by_cases e2:t=newf nm
    ·
     rw [if_pos e2];constructor
     ·
      rintro (h | h | h)
      ·exact absurd h e1
      ·exact absurd (h.symm.trans e2) hsn
      ·exact absurd e2 h.1
     ·rintro ⟨_,h⟩;cases h
    ·
     rw [if_neg e2];by_cases e3:t=sgf nm 1
     ·rw [if_pos e3];exact ⟨fun _=>⟨b,rfl⟩,fun _=>.inr (.inl e3)⟩
     ·rw [if_neg e3];exact ⟨fun h=>h.elim (fun h=>absurd h e1) fun h=>h.elim (fun h=>absurd h e3) fun h=>h.2,fun h=>.inr (.inr ⟨e2,h⟩)⟩
 ·rw [show flook X.D.files (manf nm)=none from h0] at h1;cases h1
 ·rw [show flook X.D.files (manf nm)=none from h0] at h1;cases h1
end Go.Log
end
section
namespace Go.Log
open Go.Vfs
variable {nm:ByteArray} {X Y Z:Ds} {e:Int} {s t:ByteArray} {n k m q K:Nat} {x:List Nat} {g:Sh} {L L':Lg} {c:Int} {P:Sh -> Prop}
def AN (nm:ByteArray) (K:Nat) (t:ByteArray):Prop:=mnB t=true /\ sgn nm t <= K /\ snn nm t <= K
theorem AN.mono {K K':Nat} (h:K <= K'):AN nm K t -> AN nm K' t:=fun ⟨a,b,c⟩=>⟨a,by omega,by omega⟩
theorem nxL_le {l:List ByteArray} (h:∀ s ∈ l,sgn nm s <= K /\ snn nm s <= K):nxL nm l <= K:=by
 induction l with
 | nil=>exact Nat.zero_le _
 | cons a l ih =>
  show max (max (sgn nm a) (snn nm a)) (nxL nm l) <= K;have h1:=h a (by simp);have h2:=ih fun s hs=>h s (by simp [hs]);omega
theorem zb9 (h:AllN (AN nm K) X):nx nm X <= K:=nxL_le fun s hs=>by
 obtain ⟨b,hb⟩:=z1d hs;exact ⟨(h s b hb).2.1,(h s b hb).2.2⟩
variable (hn:mnB nm=true) (h16:nm.size <= 16)
include hn h16
theorem z84 {k:Nat} (h1:1 <= k) (h2:k <= mxn) (hK:k <= K):AN nm K (sgf nm k):=⟨z0o hn h16 h2,by rw [z1n nm h1 h2];exact hK,by rw [zh7];exact Nat.zero_le _⟩
theorem zfm {k:Nat} (h1:1 <= k) (h2:k <= mxn) (hK:k <= K):AN nm K (snf nm k):=⟨z55 hn h16 h2,by rw [zao];exact Nat.zero_le _,by rw [z2t nm h1 h2];exact hK⟩
theorem zbz:AN nm K (newf nm):=⟨z54 hn h16,by rw [zan];exact Nat.zero_le _,by rw [zaq];exact Nat.zero_le _⟩
theorem zby:AN nm K (manf nm):=⟨z2r hn h16,by rw [zam];exact Nat.zero_le _,by rw [zap];exact Nat.zero_le _⟩
omit hn h16
structure GS (nm:ByteArray) (L:Lg) (X:Ds) (g:Sh) (n q K:Nat) (c:Int):Prop where
 li:LI nm L X g
 fau:Fau X.D
 fe:X.D.fe ≠ 6
 qt:Qt n q (AN nm K) c X
structure GB (nm:ByteArray) (X:Ds) (P:Sh -> Prop) (n q K:Nat) (c:Int):Prop where
 inn:In nm X P
 fau:Fau X.D
 fe:X.D.fe=0
 qt:Qt n q (AN nm K) c X
theorem FR.fe6 (h:FR X e Y) (h6:X.D.fe ≠ 6):Y.D.fe ≠ 6:=h.fe.elim (fun e=>e ▸ h6) (fun e=>by rw [e];decide)
include hn h16
theorem z8i (h:GS nm L X g n q K c) (hx:Recs [x]) (h64:n < 64) (hc:((q + (8 + x.length):Nat):Int) <= c) (hK:K < mxn) (hr:appR L x X e L' Y) :
  (X.D.fe=0 -> e=0 /\ Y.D.fe=0) /\ ((e=0 /\ L'.bad=false /\ L'.recs=L.recs ++ [x] /\ L.segment <= L'.segment /\ ∃ g',GS nm L' Y g' (n + 1) (q + (8 + x.length)) (K + 1) c /\ g'.sn=g.sn /\ g.closed.length + g.du <= g'.closed.length + g'.du) \/
   (e ≠ 0 /\ L'.bad=true /\ L'.synced=L.synced /\ L'.segment=L.segment /\ GB nm Y (Left g (L.recs ++ [x])) (n + 1) (q + (8 + x.length)) (K + 1) c)):=by
 have hnx:=zb9 h.qt.al;have hL:=h.li.name;have qy:Qt (n + 1) (q + (8 + x.length)) (AN nm (K + 1)) c Y:=qt_app (h.qt.mono (Nat.le_refl _) (Nat.le_refl _) (fun _=>AN.mono (by omega))) (fun _=>by rw [hL];exact z84 hn h16 (by omega) (by omega) (by omega)) hr;have f:=fr_app hn h16 h.li hx h.fau h.qt h64 hc (by omega) hr;refine ⟨f.calm,?_⟩;rcases zc1 h.li hx hr with ⟨h1,h2,h3,h4,g',h5,h6,h7⟩ | ⟨h1,h2,h3,h4,h5⟩
 ·exact .inl ⟨h2,h1,h4,h3,g',⟨h5,f.fau,f.fe6 h.fe,qy⟩,h6,h7⟩
 ·exact .inr ⟨h2,h1,h4,h3,⟨h5,f.fau,f.met h2,qy⟩⟩
theorem z8k (h:GS nm L X g n q K c) (hr:synR L X e L' Y) :
  (X.D.fe=0 -> e=0 /\ Y.D.fe=0) /\ ((e=0 /\ L'={ L with synced:=L.recs.length } /\ GS nm L' Y { g with du:=g.rs.length } n q K c) \/ (e ≠ 0 /\ L'={ L with bad:=true } /\ GB nm Y (·=g) n q K c)):=by
 have qy:=qt_syn h.qt hr;have f:=fr_syn hn h16 h.li h.fau hr;refine ⟨f.calm,?_⟩;rcases zbl h.li hr with ⟨h1,h2,h3⟩ | ⟨h1,h2,h3⟩
 ·exact .inl ⟨h1,h2,⟨h3,f.fau,f.fe6 h.fe,qy⟩⟩
 ·exact .inr ⟨h1,h2,⟨h3,f.fau,f.met h1,qy⟩⟩
theorem za3 (h:GS nm L X g n q K c) (hx:Recs [x]) (h64:n + 2 < 64) (hc:((q + (8 + x.length) + 24:Nat):Int) <= c) (hK:K + 2 <= mxn) (hK2:K + 1 < mxn) (hr:turnR L x X e L' Y) :
  (X.D.fe=0 -> e=0 /\ Y.D.fe=0) /\ ((e=0 /\ ∃ s n' bm bs b,L'={ L with snap:=x,has:=true,recs:=[],synced:=0,first:=n',segment:=n',segments:=1,size:=0 } /\ L.segment <= n' /\ GS nm L' Y (Sh.new s n' x bm bs b) (n + 3) (q + (8 + x.length) + 24) (K + 2) c) \/
   (e ≠ 0 /\ L'={ L with bad:=true } /\ GB nm Y (fun q=>Left g L.recs q \/ q.sn=some x /\ q.closed=[] /\ q.rs=[]) (n + 3) (q + (8 + x.length) + 24) (K + 2) c)):=by
 have hnx:=zb9 h.qt.al;have hL:=h.li.name;have tn:TN nm (AN nm (K + 2)) (nx nm X):=⟨zbz hn h16,zby hn h16,zfm hn h16 (by omega) (by omega) (by omega),z84 hn h16 (by omega) (by omega) (by omega)⟩
 have q2:Qt n q (AN nm (K + 2)) c X:=h.qt.mono (Nat.le_refl _) (Nat.le_refl _) (fun _=>AN.mono (by omega));have qy:=zgr q2 (fun _=>by rw [hL];exact tn) hr;have f:=zg5 hn h16 h.li hx h.fau h.fe (fun t a=>a.1) tn q2 h64 hc (by omega) hr;refine ⟨f.calm,?_⟩;rcases zbq h.li hx hr with ⟨h1,s,n',bm,bs,b,h2,h3,h4⟩ | ⟨h1,h2,h3⟩
 ·exact .inl ⟨h1,s,n',bm,bs,b,h2,h4,⟨h3,f.fau,f.fe6 h.fe,qy⟩⟩
 ·exact .inr ⟨h1,h2,⟨h3,f.fau,f.met h1,qy⟩⟩
theorem z6t {most:Nat} (hi:In nm X P) (hP:Trims P) (hF:Fau X.D) (h6:X.D.fe ≠ 6) (hq:Qt n q (AN nm K) c X) (hr:openR nm most X e L Y) :
  (X.D.fe=0 -> e=0 /\ Y.D.fe=0) /\ ∃ h j,P h /\ Shape nm X.dir X.fc h /\ h.du <= j /\ j <= h.rs.length /\ (h.q=(enc h.rs).length -> j=h.rs.length) /\ (enc (h.rs.take j)).length <= h.q /\ (e=0 -> GS nm L Y { h.trim j with du:=j } n q K c /\ L.synced=L.recs.length /\ L.most=most):=by
 obtain ⟨h,j,h1,h2,h3,h4,h5,h7,⟨en,e1,e2,e3,e4,e5⟩,h8⟩:=zbc hn h16 hq.bd.key hi hP hr;have f:=zg4 hn h16 hF h2.m1.2 e4 e1 e3 e5;refine ⟨f.calm,h,j,h1,h2,h3,h4,h5,by rw [<- e2];exact e3,fun e0=>?_⟩;obtain ⟨g1,g2,g3⟩:=h8 e0;exact ⟨⟨g1,f.fau,f.fe6 h6,zgq hq e5⟩,g2,g3⟩
theorem z8j {most:Nat} (hw:Wf X) (hF:Fau X.D) (hfe:X.D.fe=0) (hq:Qt n q (AN nm 0) c X) (hn64:n + 1 < 64) (hc:((q + 24:Nat):Int) <= c) (h0:X.dir (manf nm)=none) (hr:openR nm most X e L Y) :
  e=0 /\ L={ lg0 nm most with first:=1,segment:=1,segments:=1 } /\ Y.D.fe=0 /\ Y.D.steps=[] /\ Y.D.lasting=Y.D.files /\ ∃ g,GS nm L Y g (n + 2) (q + 24) 1 c /\ g.sn=none /\ (∀ t,t=manf nm \/ t=sgf nm 1 \/ (t ≠ newf nm /\ ∃ b,X.dir t=some b) ↔ ∃ b,Y.dir t=some b):=by
 have hnx:=zb9 hq.al;obtain ⟨h1,h2,h3,h4,h5,h6,h7,g,h8,h9,h10⟩:=zbb hn h16 hw hF hfe (hq.mono (Nat.le_refl _) (Nat.le_refl _) (fun _=>AN.mono (Nat.zero_le 1))) hn64 hc h0 (by omega) (z84 hn h16 (Nat.le_refl _) (by decide) (Nat.le_refl _)) (zbz hn h16) (zby hn h16) hr;exact ⟨h1,h7,h3,h5,h6,g,⟨h8,h2,by rw [h3];decide,h4⟩,h9,h10⟩
end Go.Log
end
section
namespace Go.Proofs.YtpjomdmjohjheaaGreatDoor
open Go.Vfs Go.Log
variable {nm:ByteArray} {L L':Lg} {X Y Z:Ds} {e:Int} {x:List Nat} {g h:Sh} {k a b:Ks} {most:Nat} {n q K:Nat} {c:Int}
end Go.Proofs.YtpjomdmjohjheaaGreatDoor
end
section
namespace Go.Log
open Go.Vfs
variable {nm ot:ByteArray} {L L':Lg} {X Y Z:Ds} {e:Int} {x:List Nat} {g h:Sh} {n q K:Nat} {c:Int} {s t:ByteArray}
end Go.Log
namespace Go.Proofs.YtpjomdmjohjheaaGreatDoor
open Go.Vfs Go.Log
variable {ot:ByteArray} {L L':Lg} {X Y:Ds} {g:Sh} {k a b:Ks} {n q K:Nat} {nm:ByteArray} {x:List Nat} {c:Int}
end Go.Proofs.YtpjomdmjohjheaaGreatDoor
end
section
namespace Go.Proofs.YtpjomdmjohjheaaGreatDoor
open Go.RowKit Go.Lk Go.Vfs Go.Log
end Go.Proofs.YtpjomdmjohjheaaGreatDoor
end
section
namespace Go.Log
open Go.Vfs
open Go.Proofs.YtpjomdmjohjheaaGreatDoor (newD)
variable {nm:ByteArray} {X Y Z:Ds} {e:Int} {s t:ByteArray} {n k m q K:Nat} {x:List Nat} {g:Sh} {L L':Lg} {c:Int} {P:Sh -> Prop}
def sa:ByteArray:=⟨#[97]⟩
theorem z0h:mnB sa=true:=by decide
theorem z0g:sa.size <= 16:=by decide
theorem z4h {zs:List Int} {F:List (ByteArray × Nat)} {fc:Nat -> Fl} {j:Nat}:∀ {l:List ByteArray},(∀ s ∈ l,∀ b,flook F s=some b -> (fc b).b.length <= (fc b).lasts) -> l.foldl (tr1 zs F) (fc,j)=(fc,j)
 | [],_=>rfl
 | s :: l,h=>by
  rw [List.foldl_cons];have:tr1 zs F (fc,j) s=(fc,j):=by
   unfold tr1;cases hs:flook F s with
   | none=>rfl
   | some b=>simp only;rw [if_neg (by have:=h s (by simp) b hs;omega)]
  rw [this];exact z4h fun s' h'=>h s' (by simp [h'])
theorem ze0 {zs:List Int} {F:List (ByteArray × Nat)} {fc:Nat -> Fl} {t:ByteArray} {b0:Nat} {l:List ByteArray} (hl:l.Nodup) (ht:t ∈ l) (hb:flook F t=some b0) (hlo:(fc b0).lasts < (fc b0).b.length) (hf:∀ s ∈ l,s ≠ t -> ∀ b,flook F s=some b -> b ≠ b0 /\ (fc b).b.length <= (fc b).lasts) :
  (l.foldl (tr1 zs F) (fc,0)).1 b0=⟨(fc b0).b.take ((fc b0).lasts + pkn zs 0 % ((fc b0).b.length - (fc b0).lasts + 1)),(fc b0).lasts + pkn zs 0 % ((fc b0).b.length - (fc b0).lasts + 1)⟩:=by
 obtain ⟨a,d,rfl⟩:=List.append_of_mem ht;rw [List.nodup_append] at hl;obtain ⟨h1,h2,h3⟩:=hl;rw [List.nodup_cons] at h2;rw [List.foldl_append,z4h fun s hs b hsb=>(hf s (by simp [hs]) (h3 s hs t (by simp)) b hsb).2,List.foldl_cons,z5r hb,if_pos hlo];have key:∀ s ∈ d,∀ b,flook F s=some b -> (setf fc b0 ⟨(fc b0).b.take ((fc b0).lasts + pkn zs 0 % ((fc b0).b.length - (fc b0).lasts + 1)),(fc b0).lasts + pkn zs 0 % ((fc b0).b.length - (fc b0).lasts + 1)⟩ b).b.length <= (setf fc b0 ⟨(fc b0).b.take ((fc b0).lasts + pkn zs 0 % ((fc b0).b.length - (fc b0).lasts + 1)),(fc b0).lasts + pkn zs 0 % ((fc b0).b.length - (fc b0).lasts + 1)⟩ b).lasts:=fun s hs b hsb=>by
  have hne:s ≠ t:=fun e=>h2.1 (e ▸ hs);obtain ⟨h4,h5⟩:=hf s (by simp [hs]) hne b hsb;rw [z0i _ _ h4];exact h5
 rw [z4h key];exact z0f _ _ _
theorem ze6 {D':Dk} {fc':Nat -> Fl} {φ:Nat -> Option Nat} {l2:List (ByteArray × Nat)} {bs:List Bool} (h:In sa X (·=g)) (hst:X.D.steps=[]) (hla:X.D.lasting=X.D.files) (hk:(X.D.files.map Prod.fst).Nodup) (hnm:∀ t b,X.dir t=some b -> t=manf sa \/ t=sgf sa 1)
  (hm:g.m=1) (hr:g.rs=[[120],[121]]) (hq:g.q=18) (hlast:(X.fc g.b).lasts=9) (hc:CrashR [3] X.D X.fc D' fc' φ l2 bs) :
  ∃ v,In sa ⟨D',fc'⟩ (·=Sh.move g v 12):=by
 have hlk:(X.D.lasting.map Prod.fst).Nodup:=by rw [hla];exact hk
 obtain ⟨f,g',v,n,hRf,rfl,hsh,hin,hdir⟩:=z9a h hlk hc;have hfd:f=X.dir:=by
  obtain ⟨bs',rfl⟩:=hRf;rw [hst,z82,hla];rfl
 subst hfd;obtain ⟨q',rfl,hs'⟩:=hin.live;have h1:=hs'.lastAt;have h2:=hs'.lastb;have hlq:g'.q=(X.fc g'.b).b.length:=by rw [hsh.lastb,List.length_take];have:=hsh.lastq;omega
 have hn18:n <= 18:=by
  have h3:n <= (enc g'.rs).length:=hs'.lastq;have h4:=hsh.lastq;have:(enc [[120],[121]]).length=18:=by simp [enc,zu]
  rw [hr] at h3;omega
 obtain ⟨nms,fc1,hp,hf1,hfc⟩:=hc.tr;rw [hst] at hfc;have hDf:D'.files.map Prod.fst=l2.map Prod.fst:=by
  rw [hc.eq];show ((replay bs X.D.steps l2).map (mv φ)).map Prod.fst=_;rw [hst,show replay bs [] l2=l2 by cases bs <;> rfl,List.map_map];rfl
 have hnd:nms.Nodup:=by
  refine hp.nodup_iff.2 ?_;rw [hDf];exact ((hc.p2.map Prod.fst).nodup_iff).2 hlk
 have hd1:flook D'.files (sgf sa 1)=some (v g'.b):=by rw [<- hm];exact h1
 have hmem:sgf sa 1 ∈ nms:=by
  refine hp.mem_iff.2 (List.mem_map.2 ⟨_,zn hd1,rfl⟩)
 have hv:∀ t b,X.dir t=some b -> fc1 (v b)=X.fc b:=fun t b hb=>by
  have hb2:(t,b) ∈ l2:=hc.p2.mem_iff.2 (by rw [hla];exact zn hb);have hR:Ref X.D b:=.inl ⟨_,zn hb,rfl⟩;obtain ⟨b',hb'⟩:=Option.ne_none_iff_exists'.1 (hc.all b hR);have h5:flook D'.files t=some ((φ b).getD 0):=by
   rw [hc.eq];show flook ((replay bs X.D.steps l2).map (mv φ)) t=_;rw [hst,show replay bs [] l2=l2 by cases bs <;> rfl,z4f,z5x hlk hc.p2,hla,show flook X.D.files t=some b from hb];rfl
  have h6:=hdir t;rw [show (⟨D',fc'⟩:Ds).dir t=flook D'.files t from rfl,h5,hb] at h6;have h7:v b=b':=by
   have:=Option.some.inj h6;rw [hb'] at this;exact this.symm
  rw [h7];exact hf1 b b' hb'
 have hcon:fc1 (v g'.b)=X.fc g'.b:=hv _ _ hsh.lastAt
 have hone:=ze0 (zs:=[3]) (F:=D'.files) (fc:=fc1) (t:=sgf sa 1) (b0:=v g'.b) hnd hmem hd1 (by rw [hcon,hlast,<- hlq,hq];decide) (fun s hs hne b hb=>by
  have h6:=hdir s;rw [show (⟨D',fc'⟩:Ds).dir s=flook D'.files s from rfl,hb] at h6;cases hx:X.dir s with
  | none=>rw [hx] at h6;cases h6
  | some b1 =>
   rw [hx] at h6;have e1:b=v b1:=by simpa using h6
   have e2:s=manf sa:=(hnm s b1 hx).resolve_right hne;have e3:b1=g'.bm:=by rw [e2,hsh.man] at hx;exact (Option.some.inj hx).symm
   have e4:(⟨D',fc'⟩:Ds).dir (manf sa)=some (v g'.bm):=hs'.man;refine ⟨?_,?_⟩
   ·rw [e1,e3];exact (hs'.apart.1).symm
   ·rw [e1,hv s b1 hx,e3,hsh.manc];exact Nat.le_refl _)
 have hz:(List.length ([]:List Stp))=0:=rfl;rw [hz] at hfc;rw [<- hfc,hcon,hlast,<- hlq,hq] at hone;have hfcb:(fc' (v g'.b)).b=(X.fc g'.b).b.take 12:=by rw [hone];rfl
 have hn12:n=12:=by
  have h3:(fc' (v g'.b)).b=(enc g'.rs).take n:=h2;have h4:=congrArg List.length (hfcb.symm.trans h3);rw [List.length_take,List.length_take,<- hlq,hq] at h4;have:(enc [[120],[121]]).length=18:=by simp [enc,zu]
  rw [hr,this] at h4;omega
 exact ⟨v,hn12 ▸ hin⟩
theorem zc2 (h:LI nm L X g) (hx:Recs [x]) (hsz:L.size + (8 + x.length) <= L.most) (hr:appR L x X 0 L' Y):L'={ L with recs:=L.recs ++ [x],size:=L.size + (8 + x.length) } /\ Sm X Y /\ LI nm L' Y { g with rs:=g.rs ++ [x],q:=g.q + (8 + x.length) } /\ (Y.fc g.b).lasts=(X.fc g.b).lasts:=by
 have hxl:x.length <= mxr:=(hx x (by simp)).1;rcases hr with ⟨h0,-⟩ | ⟨-,e1,Z,h1,h2⟩
 ·exact absurd (h.may hxl) h0
 rcases h2 with ⟨g1,g2,-⟩ | ⟨rfl,-,-,rfl,rfl⟩ | ⟨-,g1,-⟩
 ·exact absurd g2.symm g1
 ·
  rw [h.atseg] at h1;obtain ⟨s1,⟨h3,-⟩ | ⟨b,k,hb,hk,hk0,hf⟩⟩:=z0p h1
  ·exact absurd rfl h3
  obtain rfl:b=g.b:=Option.some.inj (hb.symm.trans h.shape.lastAt);have hkl:=hk0 rfl;subst hkl;have i1:In nm Y (·={ g with rs:=g.rs ++ [x],q:=g.q + (recd x).length }):=h.inn.write s1 hf fun q f hq hsh=>by
   subst hq;exact ⟨_,rfl,hsh.append h.full hx (Nat.le_refl _)⟩
  rw [zu] at i1;refine ⟨rfl,s1,{ inn:=i1,full:=?_,name:=h.name,nob:=h.nob,first:=h.first,seg:=h.seg,segs:=h.segs,size:=?_,recs:=?_,syn:=h.syn,snap:=h.snap },by rw [hf,z0f]⟩
  ·show g.q + _=_;rw [z1g,z1r,List.length_append,h.full,zu]
  ·show L.size + _=g.q + _;rw [h.size]
  ·show L.recs ++ [x]=g.closed ++ (g.rs ++ [x]);rw [h.recs,List.append_assoc]
 ·omega
theorem zcq (nm:ByteArray) (c:Int):Qt 0 0 (AN nm 0) c ⟨newD c,fun _=>⟨[],0⟩⟩:=⟨⟨Nat.le_refl _,Nat.le_refl _,List.nodup_nil,List.nodup_nil⟩,fun t b hb=>absurd (show (none:Option Nat)=some b from hb) nofun,rfl⟩
theorem zcr (c:Int):Wf ⟨newD c,fun _=>⟨[],0⟩⟩:=fun s hs=>by cases hs
theorem zab (c:Int):Fau (newD c):=⟨rfl,by show (-1:Int) < 0;decide⟩
def KP (h:Sh):Prop:=h.sn=none /\ h.closed=[] /\ h.m=1 /\ h.du=1 /\ h.rs.take 1=[[120]] /\ h.q <= 12
theorem ze8:Trims KP:=fun h j ⟨h1,h2,h3,h4,h5,h6⟩ hj _ hq=>⟨h1,h2,h3,h4,by show (h.rs.take j).take 1=_;rw [List.take_take,Nat.min_eq_left (by omega)];exact h5,by show (enc (h.rs.take j)).length <= 12;omega⟩
theorem kp_one {h:Sh} {j:Nat} (hp:KP h) (h1:h.du <= j) (h2:j <= h.rs.length) (h3:(enc (h.rs.take j)).length <= h.q):h.rs.take j=[[120]] /\ j=1:=by
 obtain ⟨-,-,-,h4,h5,h6⟩:=hp;have hj:j=1:=by
  rcases Nat.lt_or_ge 1 j with hl | hl
  ·
   have e:=z1c (l:=h.rs) (show 2 <= j from hl);cases hr:h.rs with
   | nil=>rw [hr] at h2;simp at h2;omega
   | cons a r =>
    cases r with
    | nil=>rw [hr] at h2;simp at h2;omega
    | cons b r =>
     have:(enc (h.rs.take 2)).length=8 + a.length + (8 + b.length):=by rw [hr];simp [enc,zu]
     have ha:a.length=1:=by rw [hr] at h5;simp at h5;rw [h5];rfl
     omega
  ·omega
 exact ⟨by rw [hj];exact h5,hj⟩
def KQ (h:Sh):Prop:=h.sn=some [115] /\ h.closed ++ h.rs=[[122]] /\ h.du=h.rs.length
theorem z8l:Trims KQ:=fun h j ⟨h1,h2,h3⟩ hj hl _=>by
 have:h.rs.take j=h.rs:=List.take_of_length_le (by omega);exact ⟨h1,by show h.closed ++ h.rs.take j=_;rw [this];exact h2,by show h.du=(h.rs.take j).length;rw [this];exact h3⟩
end Go.Log
end
section
namespace Go.Proofs.YtpjomdmjohjheaaGreatDoor
open Go.RowKit Go.Lk Go.Vfs Go.Log
variable {W0 w w' w2:World} {l d:Nat} {L L':Lg} {X Y:Ds} {O O' S N:Nat -> Prop}
theorem zca (hk:Keeps Nb W0 w) (hv:Vars W0) (h6:6 <= W0.heap.size) (hO:∀ k,O k -> k < w.heap.size) (c:Int) (hc:1 <= c /\ c <= 16777216) :
  Calls Tryz.prog 18 #[.int .i64 c] w fun e w'=>∃ d,e=.returned (.tuple #[.pointer (some ⟨d,0,none⟩),.int .i64 0]) /\ DO W0 w' d ⟨newD c,fun _=>⟨[],0⟩⟩ O /\ Keeps Nb w w':=by
 refine (new_at c w hc).mono ?_;rintro e w' ⟨d,rfl,hd,F,R,h1,h2,h3,h4⟩;have z:=hk.size;exact ⟨d,rfl,⟨⟨F,R,h2,fun k e=>⟨by have:=hO k e;have:=h1.size;omega,fun f=>by have:=hO k e;have:=h3 k f;omega,fun f=>by have:=hO k e;have:=h4 k f;omega⟩,fun k f=>by have:=h3 k f;omega⟩,hk.trans_nb h1,hv,h6⟩,h1⟩
theorem zdt (h:DO W0 w d X O) (v:Value) (zs:List Int) (hp:PicksV w v zs) (hl:X.D.lasting.length + X.D.steps.length <= 1000000) :
  Calls Tryz.prog 24 #[.pointer (some ⟨d,0,none⟩),v] w fun e w'=>∃ d' D' fc' φ l2 bs,e=.returned (.pointer (some ⟨d',0,none⟩)) /\ DO W0 w' d' ⟨D',fc'⟩ O /\ Keeps Nb w w' /\ CrashR zs X.D X.fc D' fc' φ l2 bs:=by
 obtain ⟨F,R,h1,h2,h3⟩:=h.ex;obtain ⟨a,c,rfl,p1,p2,p3,p4⟩:=hp;refine (zds d zs.length c a zs X.D F R X.fc w h1 p3 rfl p4 ⟨p1,p2⟩ hl).mono ?_;rintro e w' ⟨d',D',fc',F',R',φ,l2,bs,rfl,g1,g2,g3,g4,g5⟩;have z:=h.k.size;exact ⟨d',D',fc',φ,l2,bs,rfl,⟨⟨F',R',g1,fun k e=>⟨Nat.lt_of_lt_of_le (h2 k e).1 g4.size,fun f=>by have:=(h2 k e).1;have:=g2 k f;omega,fun f=>by have:=(h2 k e).1;have:=g3 k f;omega⟩,fun k f=>by have:=g2 k f;omega⟩,h.k.trans_nb g4,h.v,h.six⟩,g4,g5⟩
end Go.Proofs.YtpjomdmjohjheaaGreatDoor
end
section
namespace Go.Log
open Go.Vfs
open Go.Proofs.YtpjomdmjohjheaaGreatDoor (newD)
variable {nm:ByteArray} {X Y Z:Ds} {e:Int} {s t:ByteArray} {n k m q K:Nat} {x:List Nat} {g:Sh} {L L':Lg} {c:Int} {P:Sh -> Prop} {A:ByteArray -> Prop}
theorem sum_le {l:List (ByteArray × Nat)} {a b:ByteArray × Nat -> Nat} (h:∀ p ∈ l,a p <= b p):(l.map a).sum <= (l.map b).sum:=by
 induction l with
 | nil=>exact Nat.le_refl _
 | cons p l ih =>
  simp only [List.map_cons,List.sum_cons];have h1:=h p (by simp);have h2:=ih fun p hp=>h p (by simp [hp]);omega
theorem zd1 {zs:List Int} {D':Dk} {fc':Nat -> Fl} {φ:Nat -> Option Nat} {l2:List (ByteArray × Nat)} {bs:List Bool} (h:Qt n q A c X) (hst:X.D.steps=[]) (hla:X.D.lasting=X.D.files) (hc:CrashR zs X.D X.fc D' fc' φ l2 bs) :
  Qt n q A c ⟨D',fc'⟩ /\ Fau D' /\ D'.fe=0 /\ pot ⟨D',fc'⟩ <= 2 * (n:Int):=by
 obtain ⟨p2,-,-,-,inj,all,eq,fcc⟩:=hc;rw [hst,show replay bs [] l2=l2 by cases bs <;> rfl] at eq fcc;rw [hla] at p2;have hf:D'.files=l2.map (mv φ):=by rw [eq];rfl
 have hln:D'.files.length=X.D.files.length:=by rw [hf,List.length_map,p2.length_eq]
 have hrf:∀ p ∈ l2,∃ z,φ p.2=some z:=fun p hp=>Option.ne_none_iff_exists'.1 (all p.2 (.inl ⟨p,p2.mem_iff.1 hp,rfl⟩));have hkey:(D'.files.map Prod.fst).Perm (X.D.files.map Prod.fst):=by
  rw [hf,List.map_map];exact p2.map Prod.fst
 refine ⟨⟨⟨by show D'.files.length <= n;rw [hln];exact h.bd.nf,?_,hkey.nodup_iff.2 h.bd.key,?_⟩,?_,?_⟩,?_,?_,?_⟩
 ·refine Nat.le_trans ?_ h.bd.nt;show tot D'.files fc' <= _;rw [hf,<- z96 p2 X.fc];unfold tot;rw [List.map_map];refine sum_le fun p hp=>?_;obtain ⟨z,h1,h2,h3⟩:=fcc p hp;show (fc' ((φ p.2).getD 0)).b.length <= _;rw [h3,List.length_take];omega
 ·show (D'.files.map Prod.snd).Nodup;have hb:=(p2.map Prod.snd).nodup_iff.2 h.bd.blk;rw [hf,List.map_map];unfold List.Nodup at hb ⊢;rw [List.pairwise_map] at hb ⊢;refine hb.imp_of_mem fun {a b} ha hb' hne e=>hne ?_;obtain ⟨z,hz⟩:=hrf a ha;obtain ⟨z',hz'⟩:=hrf b hb';have e:(φ a.2).getD 0=(φ b.2).getD 0:=e;rw [hz,hz'] at e;have e:z=z':=e;subst e;exact inj _ _ _ hz hz'
 ·intro t b hb;have h1:t ∈ D'.files.map Prod.fst:=List.mem_map.2 ⟨_,zn hb,rfl⟩;obtain ⟨b',hb'⟩:=z1d (hkey.mem_iff.1 h1);exact h.al t b' hb'
 ·rw [<- h.cap];show D'.cap=_;rw [eq];rfl
 ·exact ⟨by rw [eq];rfl,by rw [eq];show (-1:Int) < 0;decide⟩
 ·rw [eq];rfl
 ·unfold pot;show D'.changes + 2 * (D'.files.length:Int) <= _;rw [hln,show D'.changes=0 by rw [eq];rfl];have:=h.bd.nf;omega
structure KA (L:Lg) (X:Ds) (rs:List (List Nat)) (du z n q K:Nat):Prop where
 ex:∃ g,GS sa L X g n q K 9999 /\ (X.fc g.b).lasts=z /\ g.sn=none /\ g.cl=[] /\ g.m=1 /\ g.rs=rs /\ g.du=du
 fe:X.D.fe=0
 st:X.D.steps=[]
 la:X.D.lasting=X.D.files
 nms:∀ t b,X.dir t=some b -> t=manf sa \/ t=sgf sa 1
 seg:L.segment=1
 most:L.most=99
variable {rs:List (List Nat)} {du z:Nat} {L:Lg}
theorem z88 {g:Sh} (h:g.cl=[]):g.closed=[]:=by unfold Sh.closed;rw [h];rfl
theorem ka_new (hr:openR sa 99 ⟨newD 9999,fun _=>⟨[],0⟩⟩ e L Y):e=0 /\ KA L Y [] 0 0 2 24 1:=by
 obtain ⟨h1,h2,h3,h4,h5,g,h6,h7,h8⟩:=z8j z0h z0g (zcr 9999) (zab 9999) rfl (zcq sa 9999) (by decide) (by decide) rfl hr;have e1:=h6.li.segs;have e2:=h6.li.size;have e3:=h6.li.recs;have e4:=h6.li.seg;rw [h2] at e1 e2 e3 e4;have c0:g.cl=[]:=by
  have:(1:Nat)=g.cl.length + 1:=e1;cases hc:g.cl with
  | nil=>rfl
  | cons a l=>rw [hc] at this;simp at this
 have e3:[]=g.closed ++ g.rs:=e3;rw [z88 c0] at e3;have r0:g.rs=[]:=e3.symm;have sh:=h6.li.shape;have d0:=sh.lastd;have l0:=sh.lastl.2;have q0:(0:Nat)=g.q:=e2;rw [r0] at d0;refine ⟨h1,⟨⟨g,h6,by omega,h7,c0,e4.symm,r0,Nat.le_zero.1 d0⟩,h3,h4,h5,fun t b hb=>?_,by rw [h2],by rw [h2];rfl⟩⟩;rcases (h8 t).2 ⟨b,hb⟩ with h | h | ⟨-,b',h⟩
 ·exact .inl h
 ·exact .inr h
 ·exact absurd (show (none:Option Nat)=some b' from h) nofun
theorem KA.lrecs (h:KA L X rs du z n q K):L.recs=rs:=by
 obtain ⟨g,h1,-,-,h4,-,h6,-⟩:=h.ex;rw [h1.li.recs,z88 h4,h6];rfl
theorem KA.lsize (h:KA L X rs du z n q K):L.size=(enc rs).length:=by
 obtain ⟨g,h1,-,-,h4,-,h6,-⟩:=h.ex;rw [h1.li.size,h1.li.full,h6]
theorem KA.lsegs (h:KA L X rs du z n q K):L.segments=1:=by
 obtain ⟨g,h1,-,-,h4,-,h6,-⟩:=h.ex;rw [h1.li.segs,h4];rfl
theorem zci (h:KA L X rs du z n q K) (hx:Recs [x]) (h64:n < 64) (hc:((q + (8 + x.length):Nat):Int) <= 9999) (hK:K < mxn) (hsz:(enc rs).length + (8 + x.length) <= 99) (hr:appR L x X e L' Y) :
  e=0 /\ KA L' Y (rs ++ [x]) du z (n + 1) (q + (8 + x.length)) (K + 1):=by
 have hls:=h.lsize;obtain ⟨⟨g,h1,h2,h3,h4,h5,h6,h7⟩,fe,st,la,nms,seg,most⟩:=h;obtain ⟨hcalm,hcs⟩:=z8i z0h z0g h1 hx h64 hc hK hr;obtain ⟨e0,fe'⟩:=hcalm fe;subst e0;rcases hcs with ⟨-,-,-,-,g',hg',-⟩ | ⟨h0,-⟩
 ·obtain ⟨rfl,sm,hli,hlast⟩:=zc2 h1.li hx (by rw [hls,most];exact hsz) hr;exact ⟨rfl,⟨⟨_,⟨hli,hg'.fau,hg'.fe,hg'.qt⟩,by rw [<- h2];exact hlast,h3,h4,h5,by show g.rs ++ [x]=_;rw [h6],h7⟩,fe',by rw [sm.steps];exact st,by rw [sm.lasting,sm.files];exact la,fun t b hb=>nms t b (by rw [<- sm.dir];exact hb),seg,most⟩⟩
 ·exact absurd rfl h0
theorem ka_syn (h:KA L X rs du z n q K) (hr:synR L X e L' Y):e=0 /\ KA L' Y rs rs.length (enc rs).length n q K:=by
 obtain ⟨⟨g,h1,h2,h3,h4,h5,h6,h7⟩,fe,st,la,nms,seg,most⟩:=h;obtain ⟨hcalm,hcs⟩:=z8k z0h z0g h1 hr;obtain ⟨e0,fe'⟩:=hcalm fe;subst e0;have sm:Sm X Y:=by
  rcases hr with ⟨-,-,-,rfl⟩ | ⟨-,hr,-⟩
  ·exact Sm.refl _
  ·exact (z0c hr).1
 rcases hcs with ⟨-,rfl,hg⟩ | ⟨h0,-⟩
 ·have hl:=hg.li.shape.lastl;have hq:g.q=(enc g.rs).length:=h1.li.full;refine ⟨rfl,⟨⟨_,hg,?_,h3,h4,h5,h6,by show g.rs.length=_;rw [h6]⟩,fe',by rw [sm.steps];exact st,by rw [sm.lasting,sm.files];exact la,fun t b hb=>nms t b (by rw [<- sm.dir];exact hb),seg,most⟩⟩;have l1:(enc (g.rs.take g.rs.length)).length <= (Y.fc g.b).lasts:=hl.1;have l2:(Y.fc g.b).lasts <= g.q:=hl.2;rw [List.take_length] at l1;show (Y.fc g.b).lasts=_;rw [<- h6];omega
 ·exact absurd rfl h0
theorem ze5 {D':Dk} {fc':Nat -> Fl} {φ:Nat -> Option Nat} {l2:List (ByteArray × Nat)} {bs:List Bool} (h:KA L X [[120],[121]] 1 9 n q K) (hc:CrashR [3] X.D X.fc D' fc' φ l2 bs) :
  In sa ⟨D',fc'⟩ KP /\ Qt n q (AN sa K) 9999 ⟨D',fc'⟩ /\ Fau D' /\ D'.fe=0 /\ pot ⟨D',fc'⟩ <= 2 * (n:Int):=by
 obtain ⟨⟨g,h1,h2,h3,h4,h5,h6,h7⟩,fe,st,la,nms,seg,most⟩:=h;obtain ⟨v,hv⟩:=ze6 h1.li.inn st la h1.qt.bd.key nms h5 h6 (by rw [h1.li.full,h6];simp [enc,zu]) h2 hc;refine ⟨hv.mono fun f hf=>?_,zd1 h1.qt st la hc⟩;subst hf;refine ⟨h3,by rw [z9f];exact z88 h4,h5,h7,by show g.rs.take 1=_;rw [h6];rfl,Nat.le_refl _⟩
theorem zg8 (hi:In sa X KP) (hF:Fau X.D) (hfe:X.D.fe=0) (hq:Qt n q (AN sa K) 9999 X) (hr:openR sa 99 X e L Y) :
  e=0 /\ Y.D.fe=0 /\ L.recs=[[120]] /\ L.segment=1 /\ L.most=99 /\ ∃ g,GS sa L Y g n q K 9999:=by
 obtain ⟨hcalm,h,j,h1,h2,h3,h4,h5,h6,h7⟩:=z6t z0h z0g hi ze8 hF (by rw [hfe];decide) hq hr;obtain ⟨e0,fe'⟩:=hcalm hfe;obtain ⟨g1,g2,g3⟩:=h7 e0;obtain ⟨k1,k2⟩:=kp_one h1 h3 h4 h6;refine ⟨e0,fe',?_,?_,g3,_,g1⟩
 ·have:L.recs=h.closed ++ h.rs.take j:=g1.li.recs;rw [this,h1.2.1,k1];rfl
 ·have:L.segment=h.m:=g1.li.seg;rw [this,h1.2.2.1]
theorem zg9 (h:GS sa L X g n q K 9999) (hfe:X.D.fe=0) (hx:Recs [x]) (h64:n + 2 < 64) (hc:((q + (8 + x.length) + 24:Nat):Int) <= 9999) (hK:K + 2 <= mxn) (hK2:K + 1 < mxn) (hr:turnR L x X e L' Y) :
  e=0 /\ Y.D.fe=0 /\ L'.recs=[] /\ L'.size=0 /\ L'.segments=1 /\ ∃ g',GS sa L' Y g' (n + 3) (q + (8 + x.length) + 24) (K + 2) 9999 /\ g'.sn=some x:=by
 obtain ⟨hcalm,hcs⟩:=za3 z0h z0g h hx h64 hc hK hK2 hr;obtain ⟨e0,fe'⟩:=hcalm hfe;rcases hcs with ⟨-,s,n',bm,bs,b,rfl,-,hg⟩ | ⟨h0,-⟩
 ·exact ⟨e0,fe',rfl,rfl,rfl,_,hg,rfl⟩
 ·exact absurd e0 h0
theorem kb_app (h:GS sa L X g n q K 9999) (hfe:X.D.fe=0) (hx:Recs [x]) (h64:n < 64) (hc:((q + (8 + x.length):Nat):Int) <= 9999) (hK:K < mxn) (hr:appR L x X e L' Y) :
  e=0 /\ Y.D.fe=0 /\ L'.recs=L.recs ++ [x] /\ ∃ g',GS sa L' Y g' (n + 1) (q + (8 + x.length)) (K + 1) 9999 /\ g'.sn=g.sn:=by
 obtain ⟨hcalm,hcs⟩:=z8i z0h z0g h hx h64 hc hK hr;obtain ⟨e0,fe'⟩:=hcalm hfe;rcases hcs with ⟨-,-,h1,-,g',h2,h3,-⟩ | ⟨h0,-⟩
 ·exact ⟨e0,fe',h1,g',h2,h3⟩
 ·exact absurd e0 h0
theorem kb_syn (h:GS sa L X g n q K 9999) (hfe:X.D.fe=0) (hsn:g.sn=some [115]) (hrs:L.recs=[[122]]) (hr:synR L X e L' Y) :
  e=0 /\ In sa Y KQ /\ Fau Y.D /\ Y.D.fe=0 /\ Qt n q (AN sa K) 9999 Y:=by
 obtain ⟨hcalm,hcs⟩:=z8k z0h z0g h hr;obtain ⟨e0,fe'⟩:=hcalm hfe;rcases hcs with ⟨-,rfl,hg⟩ | ⟨h0,-⟩
 ·refine ⟨e0,hg.li.inn.mono fun f hf=>?_,hg.fau,fe',hg.qt⟩;subst hf;exact ⟨hsn,by have:=h.li.recs;rw [hrs] at this;exact this.symm,rfl⟩
 ·exact absurd e0 h0
theorem zga (hi:In sa X KQ) (hF:Fau X.D) (hfe:X.D.fe=0) (hq:Qt n q (AN sa K) 9999 X) (hr:openR sa 99 X e L Y) :
  e=0 /\ L.recs=[[122]] /\ L.has=true /\ L.snap=[115]:=by
 obtain ⟨hcalm,h,j,h1,h2,h3,h4,h5,h6,h7⟩:=z6t z0h z0g hi z8l hF (by rw [hfe];decide) hq hr;obtain ⟨e0,fe'⟩:=hcalm hfe;obtain ⟨g1,g2,g3⟩:=h7 e0;obtain ⟨k1,k2,k3⟩:=z8l h j h1 h3 h4 h6;refine ⟨e0,?_,?_⟩
 ·have:L.recs=h.closed ++ h.rs.take j:=g1.li.recs;rw [this];exact k2
 ·
  rcases g1.li.snap with ⟨h8,-⟩ | ⟨x,h8,h9,h10⟩
  ·have h8:h.sn=none:=h8;rw [h1.1] at h8;cases h8
  ·have h8:h.sn=some x:=h8;rw [h1.1] at h8;cases h8;exact ⟨h9,h10⟩
end Go.Log
end
section
namespace Go.Lk
open Go.RowKit
variable {P:Program} {w:World} {t e:TypeId}
def IsMark (g:Nat) (cs:Array Value) (e:TypeId) (u:Value) (w:World) (v:Value) (w':World):Prop:=v=u /\ w'.heap[g]?=some (.cells cs e (cs.size,cs.size + 1)) /\ Keeps (·=g) w w'
theorem run_mark {g n c:Nat} {cs:Array Value} (ht:P.underlying t=some (.slice e)) (he:P.underlying e=some (.int .u8)) (hg:w.heap[g]?=some (.cells cs e (0,0))) :
  ∃ w',(convert t t (.slice (some ⟨g,0,none⟩) n c)).run P w=.ok (.slice (some ⟨g,0,none⟩) n c) w' /\ w'.heap[g]?=some (.cells cs e (cs.size,cs.size + 1)) /\ Keeps (·=g) w w':=by
 have hsh:w.shape? g=some (e,cs.size):=by unfold World.shape?;rw [hg]
 refine ⟨w.freeze ⟨g,cs.size,none⟩ 1,?_,?_,?_⟩
 ·simp [convert,run_underlying ht,run_underlying he,markStringish,hsh]
 ·have hl:=lt_of_block hg;unfold World.freeze;rw [if_neg (by decide)];simp [Array.getElem?_modify,hg]
 ·unfold World.freeze;rw [if_neg (by decide)];exact ⟨rfl,rfl,rfl,by simp,fun i hi hn=>by simp [Array.getElem?_modify,Ne.symm hn]⟩
theorem z5a {dst:Option Tmp} {x:Operand} {ty:TypeId} {pos:String} {aft:Array Edge} {gd:Option (Nat × Bool)} {a:Act} {g n c:Nat} {cs:Array Value} (ht:P.underlying t=some (.slice e)) (he:P.underlying e=some (.int .u8)) (hx:a.eval x=.slice (some ⟨g,0,none⟩) n c) (hg:w.heap[g]?=some (.cells cs e (0,0))) :
  ∃ v w',(execOp a.eval ⟨dst,.convert t t x,ty,pos,aft,gd⟩).run P w=.ok (.value v) w' /\ IsMark g cs e (.slice (some ⟨g,0,none⟩) n c) w v w':=by
 obtain ⟨w',h1,h2,h3⟩:=run_mark (n:=n) (c:=c) ht he hg;exact ⟨_,w',by unfold execOp;simp only [hx,Sem.run_bind,h1,Result.andThen_ok,Sem.run_pure],rfl,h2,h3⟩
end Go.Lk
end
section
namespace Go.Proofs.YtpjomdmjohjheaaGreatDoor
open Go.RowKit Go.Lk Go.Vfs Go.Log
variable {W0 w w' w2:World} {l d:Nat} {L L':Lg} {X Y:Ds} {O O' S N:Nat -> Prop}
theorem z3a {g n:Nat} {cs:Array Value} {l:List Nat} {u v:Value} (h:NewAt w w2 g (.cells cs 5)) (hm:IsMark g cs 5 u w2 v w') (hu:u=.slice (some ⟨g,0,none⟩) n n) (hcs:cs=(l.map fun x=>Value.int .u8 (x:Nat)).toArray) (hn:l.length=n) (hl:∀ z ∈ l,z < 256) (hx:n <= 1000) :
  v=.slice (some ⟨g,0,none⟩) n n /\ Bytes w' (·=g) v l /\ Keeps Nb w w' /\ w.heap.size <= g /\ g < w'.heap.size:=by
 obtain ⟨rfl,h1,h2⟩:=hm;subst hn;subst hu;subst hcs;refine ⟨rfl,⟨_,_,rfl,Nat.le_refl _,by unfold maxLen;omega,.inr ⟨g,0,rfl,fun i hi=>?_⟩,hl,fun b off e _=>by cases e;rfl⟩,h.k.own h.ge h2,h.ge,lt_of_block h1⟩;rw [Nat.zero_add,cell_of_block h1];simp [List.getElem?_eq_getElem hi,z15 hi]
theorem zcp {g n:Nat} {l:List Int} (h:NewAt w w' g (.cells (l.map fun x=>Value.int .i64 x).toArray 3)) (hn:l.length=n) (hl:∀ z ∈ l,I64 z) (hm:n <= 1000):PicksV w' (.slice (some ⟨g,0,none⟩) n n) l:=by
 subst hn;refine ⟨_,_,rfl,Nat.le_refl _,by unfold maxLen;omega,.inr ⟨g,0,rfl,fun i hi=>?_⟩,hl⟩;rw [Nat.zero_add,cell_of_block h.blk];simp [List.getElem?_eq_getElem hi,zct hi]
theorem zdp {g x:Nat} (h:NewAt w w' g (.cells #[.int .u8 (x:Nat)] 5)) (hx:x < 256):Bytes w' (·=g) (.slice (some ⟨g,0,none⟩) 1 1) [x]:=by
 refine ⟨_,_,rfl,Nat.le_refl _,by unfold maxLen;omega,.inr ⟨g,0,rfl,fun i hi=>?_⟩,fun z hz=>by rw [List.mem_singleton.1 hz];exact hx,fun b off e _=>by cases e;rfl⟩;rw [Nat.zero_add,cell_of_block h.blk];have:i=0:=by have:i < 1:=hi;omega
 subst this;rfl
theorem zh1 {g:Nat} {v:Value} {x:List Nat} {a:Option Addr} {n c:Nat} (h:NewAt w w' g (.cells #[v] 22)) (hv:v=.slice a n c) (hb:Bytes w (fun k=>k < w.heap.size) v x) :
  RowS w' (fun k=>k < w'.heap.size) (fun _=>False) 22 1 (.slice (some ⟨g,0,none⟩) 1 1) 1 [v] /\ BytesL w' (fun k=>k < w'.heap.size) [v] [x]:=by
 have z:=h.k.size;refine ⟨⟨rfl,fun u hu=>by rw [List.mem_singleton.1 hu,hv];rfl,some ⟨g,0,none⟩,1,rfl,Nat.le_refl _,by unfold maxLen;omega,zt h.blk,fun b off e _=>by cases e;exact ⟨.inl h.lt,⟨_,_,h.blk⟩⟩,.inl rfl⟩,?_⟩;exact .cons ((hb.keeps h.k (fun _ _ e=>e)).mono fun k e=>by omega) (.nil _ _)
theorem LS.lit {g:Nat} {v:Value} {x:List Nat} (h:LS W0 w l d L X fun _=>False) (hk:Keeps Nb w w') (h1:w.heap.size <= g) (h2:g < w'.heap.size) (hb:Bytes w' (·=g) v x) :
  LS W0 w' l d L X (·=g) /\ Bytes w' (Own W0 (·=g)) v x :=
 ⟨(h.add (N:=(·=g)) hk fun k e=>by omega).mono fun k e=>.inr e,hb.mono fun k e=>.inr e⟩
theorem z8q {l d g11 g12 x:Nat} {w11 w12 wx:World} (h:LS W0 w12 l d L X O) (hr:L.recs=[[x]]) (n12:NewAt w11 w12 g12 (.cells #[.slice (some ⟨g11,0,none⟩) 1 1] 22)) (n11:NewAt wx w11 g11 (.cells #[.int .u8 (x:Nat)] 5)) (hx:x < 256) :
  Calls Tryz.prog 34 #[.pointer (some ⟨l,0,none⟩),.slice (some ⟨g12,0,none⟩) 1 1,.int .i64 0] w12 fun e w'=>e=.returned (.bool true) /\ Keeps Nb w12 w':=by
 obtain ⟨h1,h2⟩:=zh1 n12 rfl ((zdp n11 hx).mono fun k e=>by have:=n11.lt;omega);have h3:=zgc (wa:=some ⟨g12,0,none⟩) (wc:=1) (vs:=[.slice (some ⟨g11,0,none⟩) 1 1]) h (by rw [hr];exact h1) (by rw [hr];exact h2);rw [hr] at h3;exact h3
theorem ze7 (w:World) (hv:Vars w) (h6:6 <= w.heap.size):Calls Tryz.prog 10 #[] w fun e w'=>e=.returned (.bool true) /\ Keeps Nb w w':=by
 have HV:=qq hv;have H6:=qq h6;clear hv h6;go_enter Tryz.func10,Tryz.ntmps10;go_wp2_with fail;refine (zca (W0:=w) (O:=fun _=>False) (Keeps.refl _ _) HV.out H6.out (fun _ e=>e.elim) 9999 (by omega)).mono ?_;rintro _ w1 ⟨d,rfl,hd,-⟩;have OP:=qq (z3m hd sa 99 z0h z0g (by omega) (by omega) (by show pot ⟨newD 9999,_⟩ + 12 <= _;unfold pot;simp [newD]));clear hd;go_wp2_with fail;refine OP.out.mono ?_;rintro _ w2 ⟨er,L,X,hr,hp,-,hc⟩;obtain ⟨rfl,ka⟩:=ka_new hr;obtain ⟨-,l,rfl,hls⟩:=hc.resolve_right fun h=>h.1 rfl;have P:Hid (pot X <= 12):=qq hp;have KA:=qq ka;have H:=qq hls;clear hr hp ka hls OP;go_wp2_with fail;refine (z00 0 w2).mono ?_;rintro _ _ ⟨rfl,rfl⟩;go_wp2_with fail;refine (ls_len H.out).mono ?_;rintro _ _ ⟨rfl,rfl⟩;rw [KA.out.lrecs];go_wp2_with fail;refine (zck H.out).mono ?_;rintro _ _ ⟨rfl,rfl⟩;rw [KA.out.seg];go_wp2_with (first | go_skip | (with_reducible refine zo ?_) | (with_reducible refine zy (s:=22) ?_) | fail)
 refine za (zi rfl (zl el31 [.int .u8 120] rfl (by simp [List.range'_succ];first | done | rfl) (by simp [Value.cells]) (by simp)) ?_);rintro _ w3 ⟨g,rfl,n3⟩;simp only [Nat.reduceAdd,qn];go_wp2_with (first | go_skip | (with_reducible refine zo ?_) | (with_reducible refine zy (s:=22) ?_) | fail)
 refine za (zi rfl (z5a Tryz.underlying22 Tryz.underlying5 (by rfl) n3.blk) ?_);rintro _ w4 hm;obtain ⟨rfl,hby,k4,hg1,hg2⟩:=z3a (n:=1) (l:=[120]) n3 hm rfl (by simp [Value.cells]) rfl (by simp) (by omega);obtain ⟨hl4,hb4⟩:=LS.lit H.out k4 hg1 hg2 hby;have H4:=qq hl4;have B4:=qq hb4;clear n3 hm hby k4 hl4 hb4 H;simp only [Nat.reduceAdd,qn];have AP:=qq (z1e H4.out B4.out (by have:=P.out;omega) (by rw [KA.out.lsegs];omega) (by rw [KA.out.lrecs];simp) (by rw [KA.out.lsize];simp [enc]));clear H4 B4;go_wp2_with fail;refine AP.out.mono ?_;rintro _ w5 ⟨er,L5,X5,rfl,hl5,hr5,hp5,-⟩;obtain ⟨rfl,ka5⟩:=zci KA.out (by simp [Recs,mxr]) (by omega) (by decide) (by decide) (by simp [enc]) hr5;have P5:Hid (pot X5 <= 18):=qq (by have:=P.out;omega);have KA5:=qq ka5;have H5:=qq (hl5.mono (O':=fun _=>False) (fun _ e=>e.elim));clear hl5 hr5 hp5 ka5 KA P AP;go_wp2_with fail;refine (z00 0 w5).mono ?_;rintro _ _ ⟨rfl,rfl⟩;have SY:=qq (z4y H5.out (by have:=P5.out;omega));clear H5;go_wp2_with fail;refine SY.out.mono ?_;rintro _ w6 ⟨er,L6,X6,rfl,hl6,hr6,hp6,-⟩;obtain ⟨rfl,ka6⟩:=ka_syn KA5.out hr6;have P6:Hid (pot X6 <= 19):=qq (by have:=P5.out;omega);have KA6:=qq ka6;have H:=qq hl6;clear hl6 hr6 hp6 ka6 KA5 P5 SY;go_wp2_with fail;refine (z00 0 w6).mono ?_;rintro _ _ ⟨rfl,rfl⟩;go_wp2_with (first | go_skip | (with_reducible refine zo ?_) | (with_reducible refine zy (s:=22) ?_) | fail)
 refine za (zi rfl (zl el31 [.int .u8 121] rfl (by simp [List.range'_succ];first | done | rfl) (by simp [Value.cells]) (by simp)) ?_);rintro _ w3 ⟨g,rfl,n3⟩;simp only [Nat.reduceAdd,qn];go_wp2_with (first | go_skip | (with_reducible refine zo ?_) | (with_reducible refine zy (s:=22) ?_) | fail)
 refine za (zi rfl (z5a Tryz.underlying22 Tryz.underlying5 (by rfl) n3.blk) ?_);rintro _ w4 hm;obtain ⟨rfl,hby,k4,hg1,hg2⟩:=z3a (n:=1) (l:=[121]) n3 hm rfl (by simp [Value.cells]) rfl (by simp) (by omega);obtain ⟨hl4,hb4⟩:=LS.lit H.out k4 hg1 hg2 hby;have H4:=qq hl4;have B4:=qq hb4;clear n3 hm hby k4 hl4 hb4 H;simp only [Nat.reduceAdd,qn];have AP:=qq (z1e H4.out B4.out (by have:=P6.out;omega) (by rw [KA6.out.lsegs];omega) (by rw [KA6.out.lrecs];simp) (by rw [KA6.out.lsize];simp [enc,zu]));clear H4 B4;go_wp2_with fail;refine AP.out.mono ?_;rintro _ w7 ⟨er,L7,X7,rfl,hl7,hr7,hp7,-⟩;obtain ⟨rfl,ka7⟩:=zci KA6.out (by simp [Recs,mxr]) (by omega) (by decide) (by decide) (by simp [enc,zu]) hr7;have KA7:=qq ka7;have D7:=qq (LS.disk (hl7.mono (O':=fun _=>False) (fun _ e=>e.elim)));clear hl7 hr7 hp7 ka7 KA6 P6 AP;go_wp2_with fail;refine (z00 0 w7).mono ?_;rintro _ _ ⟨rfl,rfl⟩;go_wp2_with (first | go_skip | (with_reducible refine qv (by decide) ?_))
 refine za (zi rfl (zl el35 [.int .i64 3] rfl (by simp [List.range'_succ];first | done | rfl) (by simp [Value.cells]) (by simp)) ?_);rintro _ w8 ⟨g8,rfl,n8⟩;simp only [Nat.reduceAdd,qn];have CR:=qq (zdt (D7.out.nb n8.k) _ [3] (zcp (n:=1) (l:=[3]) n8 rfl (by simp [I64]) (by omega)) (by rw [KA7.out.st,KA7.out.la];obtain ⟨g,hg,-⟩:=KA7.out.ex;have:=hg.qt.bd.nf;simp;omega));clear n8 D7;go_wp2_with fail;refine CR.out.mono ?_;rintro _ w9 ⟨c,D9,fc9,φ,l2,bs,rfl,hd9,-,hr9⟩;obtain ⟨i9,q9,f9,e9,p9⟩:=ze5 KA7.out hr9;have I9:=qq i9;have Q9:=qq q9;have F9:=qq f9;have E9:=qq e9;have OP:=qq (z3m hd9 sa 99 z0h z0g (by omega) (by omega) (by omega));have P9:Hid (pot ⟨D9,fc9⟩ <= 8):=qq (by omega);clear hd9 hr9 i9 q9 f9 e9 p9 KA7 CR;go_wp2_with fail;refine OP.out.mono ?_;rintro _ w10 ⟨er,L,X,hr,hp,-,hc⟩;obtain ⟨rfl,fe10,r10,s10,m10,g10,gs10⟩:=zg8 I9.out F9.out E9.out Q9.out hr;obtain ⟨-,l,rfl,hls⟩:=hc.resolve_right fun h=>h.1 rfl;have P10:Hid (pot X <= 20):=qq (by have:=P9.out;omega);have FE:=qq fe10;have RS:=qq r10;have SG:=qq s10;have GS10:=qq gs10;have H:=qq hls;clear hr hp hls hc fe10 r10 s10 m10 gs10 OP I9 Q9 F9 E9 P9;go_wp2_with fail;refine (z00 0 w10).mono ?_;rintro _ _ ⟨rfl,rfl⟩;go_wp2_with (first | go_skip | (with_reducible refine zo ?_) | (with_reducible refine zy (s:=22) ?_) | fail)
 refine za (zi rfl (zl el31 [.int .u8 120] rfl (by simp [List.range'_succ];first | done | rfl) (by simp [Value.cells]) (by simp)) ?_);rintro _ w11 ⟨g11,rfl,n11⟩;simp only [Nat.reduceAdd,qn];go_wp2_with (first | go_skip | (with_reducible refine zo ?_) | (with_reducible refine zy (s:=22) ?_) | fail)
 refine za (zi rfl (zl el27 [.slice (some ⟨g11,0,none⟩) 1 1] rfl (by simp [List.range'_succ];first | done | rfl) (by simp [Value.cells]) (by simp)) ?_);rintro _ w12 ⟨g12,rfl,n12⟩;simp only [Nat.reduceAdd,qn];have HL:=qq (H.out.nb (n11.k.trans_nb n12.k));have ON:=qq (z8q HL.out RS.out n12 n11 (by omega));clear n11 n12 H;go_wp2_with fail;refine ON.out.mono ?_;rintro _ w13 ⟨rfl,k13⟩;have H:=qq (HL.out.nb k13);clear k13 ON HL;go_wp2_with fail;refine (zck H.out).mono ?_;rintro _ _ ⟨rfl,rfl⟩;rw [SG.out];go_wp2_with (first | go_skip | (with_reducible refine zo ?_) | (with_reducible refine zy (s:=22) ?_) | fail)
 refine za (zi rfl (zl el31 [.int .u8 115] rfl (by simp [List.range'_succ];first | done | rfl) (by simp [Value.cells]) (by simp)) ?_);rintro _ w3 ⟨g,rfl,n3⟩;simp only [Nat.reduceAdd,qn];go_wp2_with (first | go_skip | (with_reducible refine zo ?_) | (with_reducible refine zy (s:=22) ?_) | fail)
 refine za (zi rfl (z5a Tryz.underlying22 Tryz.underlying5 (by rfl) n3.blk) ?_);rintro _ w4 hm;obtain ⟨rfl,hby,k4,hg1,hg2⟩:=z3a (n:=1) (l:=[115]) n3 hm rfl (by simp [Value.cells]) rfl (by simp) (by omega);obtain ⟨hl4,hb4⟩:=LS.lit H.out k4 hg1 hg2 hby;have H4:=qq hl4;have B4:=qq hb4;clear n3 hm hby k4 hl4 hb4 H;simp only [Nat.reduceAdd,qn];have TN:=qq (z4z H4.out B4.out (by have:=P10.out;omega));clear H4 B4;go_wp2_with fail;refine TN.out.mono ?_;rintro _ w14 ⟨er,L14,X14,rfl,hl14,hr14,hp14,-⟩;obtain ⟨rfl,fe14,r14,z14,s14,g14,gs14,sn14⟩:=zg9 GS10.out FE.out (by simp [Recs,mxr]) (by omega) (by decide) (by decide) (by decide) hr14;have P14:Hid (pot X14 <= 39):=qq (by have:=P10.out;omega);have H:=qq (hl14.mono (O':=fun _=>False) (fun _ e=>e.elim));have FE14:=qq fe14;have R14:=qq r14;have Z14:=qq z14;have S14:=qq s14;have GS14:=qq gs14;have SN14:=qq sn14;clear hl14 hr14 hp14 fe14 r14 z14 s14 gs14 sn14 TN GS10 FE RS SG P10;go_wp2_with fail;refine (z00 0 w14).mono ?_;rintro _ _ ⟨rfl,rfl⟩;go_wp2_with (first | go_skip | (with_reducible refine zo ?_) | (with_reducible refine zy (s:=22) ?_) | fail)
 refine za (zi rfl (zl el31 [.int .u8 122] rfl (by simp [List.range'_succ];first | done | rfl) (by simp [Value.cells]) (by simp)) ?_);rintro _ w3 ⟨g,rfl,n3⟩;simp only [Nat.reduceAdd,qn];go_wp2_with (first | go_skip | (with_reducible refine zo ?_) | (with_reducible refine zy (s:=22) ?_) | fail)
 refine za (zi rfl (z5a Tryz.underlying22 Tryz.underlying5 (by rfl) n3.blk) ?_);rintro _ w4 hm;obtain ⟨rfl,hby,k4,hg1,hg2⟩:=z3a (n:=1) (l:=[122]) n3 hm rfl (by simp [Value.cells]) rfl (by simp) (by omega);obtain ⟨hl4,hb4⟩:=LS.lit H.out k4 hg1 hg2 hby;have H4:=qq hl4;have B4:=qq hb4;clear n3 hm hby k4 hl4 hb4 H;simp only [Nat.reduceAdd,qn];have AP:=qq (z1e H4.out B4.out (by have:=P14.out;omega) (by rw [S14.out];omega) (by rw [R14.out];simp) (by rw [Z14.out];omega));clear H4 B4;go_wp2_with fail;refine AP.out.mono ?_;rintro _ w15 ⟨er,L15,X15,rfl,hl15,hr15,hp15,-⟩;obtain ⟨rfl,fe15,r15,g15,gs15,sn15⟩:=kb_app GS14.out FE14.out (by simp [Recs,mxr]) (by omega) (by decide) (by decide) hr15;have P15:Hid (pot X15 <= 45):=qq (by have:=P14.out;omega);have H:=qq (hl15.mono (O':=fun _=>False) (fun _ e=>e.elim));have FE15:=qq fe15;have GS15:=qq gs15;have SN15:=qq (sn15.trans SN14.out);have R15:=qq (r15.trans (by rw [R14.out];rfl:_=[[122]]));clear hl15 hr15 hp15 fe15 r15 gs15 sn15 AP GS14 FE14 R14 Z14 S14 SN14 P14;go_wp2_with fail;refine (z00 0 w15).mono ?_;rintro _ _ ⟨rfl,rfl⟩;have SY:=qq (z4y H.out (by have:=P15.out;omega));clear H;go_wp2_with fail;refine SY.out.mono ?_;rintro _ w16 ⟨er,L16,X16,rfl,hl16,hr16,hp16,-⟩;obtain ⟨rfl,i16,f16,e16,q16⟩:=kb_syn GS15.out FE15.out SN15.out R15.out hr16;have OP:=qq (z3m hl16.disk sa 99 z0h z0g (by omega) (by omega) (by have:=P15.out;omega));have I16:=qq i16;have F16:=qq f16;have E16:=qq e16;have Q16:=qq q16;clear hl16 hr16 hp16 i16 f16 e16 q16 SY GS15 FE15 SN15 R15 P15;go_wp2_with fail;refine (z00 0 w16).mono ?_;rintro _ _ ⟨rfl,rfl⟩;go_wp2_with fail;refine OP.out.mono ?_;rintro _ w17 ⟨er,L,X,hr,hp,-,hc⟩;obtain ⟨rfl,r17,h17,s17⟩:=zga I16.out F16.out E16.out Q16.out hr;obtain ⟨-,l,rfl,hls⟩:=hc.resolve_right fun h=>h.1 rfl;have H:=qq hls;have RS:=qq r17;have SP:=qq (zgd hls);rw [h17,s17] at SP;clear hr hp hls hc r17 h17 s17 OP I16 F16 E16 Q16;go_wp2_with fail;refine (z00 0 w17).mono ?_;rintro _ _ ⟨rfl,rfl⟩;go_wp2_with fail;refine SP.out.mono ?_;rintro _ w18 ⟨v,rfl,hb,k18⟩;obtain ⟨ad,c,rfl,-,-,hrd,-⟩:=id hb;have HH:=qq hrd.has;have H:=qq (H.out.nb k18);clear hb k18 hrd SP;go_wp2_with (first | go_skip | (with_reducible refine zo ?_) | (with_reducible refine zy (s:=22) ?_) | fail)
 refine za (zw (v:=.string (bstr [115])) rfl (z8z Tryz.underlying22 Tryz.underlying5 Tryz.underlying9 (by rfl) HH.out rfl) ?_);simp only [Nat.reduceAdd,qn];have q1:(bstr [115]).toList=([115]:List UInt8):=by first | rfl | decide | decide +kernel
 go_wp2_with (first | go_skip | (with_reducible refine zo ?_) | (with_reducible refine zy (s:=22) ?_) | fail)
 refine za (zi rfl (zl el31 [.int .u8 122] rfl (by simp [List.range'_succ];first | done | rfl) (by simp [Value.cells]) (by simp)) ?_);rintro _ w11 ⟨g11,rfl,n11⟩;simp only [Nat.reduceAdd,qn];go_wp2_with (first | go_skip | (with_reducible refine zo ?_) | (with_reducible refine zy (s:=22) ?_) | fail)
 refine za (zi rfl (zl el27 [.slice (some ⟨g11,0,none⟩) 1 1] rfl (by simp [List.range'_succ];first | done | rfl) (by simp [Value.cells]) (by simp)) ?_);rintro _ w12 ⟨g12,rfl,n12⟩;simp only [Nat.reduceAdd,qn];have HL:=qq (H.out.nb (n11.k.trans_nb n12.k));have ON:=qq (z8q HL.out RS.out n12 n11 (by omega));clear n11 n12 H;go_wp2_with fail;refine ON.out.mono ?_;rintro _ w19 ⟨rfl,k19⟩;have HK:=qq (HL.out.nb k19).k;clear k19 ON HL HH q1;go_wp2;go_ret;exact ⟨rfl,HK.out⟩
end Go.Proofs.YtpjomdmjohjheaaGreatDoor
end
section
namespace Go.Log
open Go.Lk Go.RowKit Go.Vfs
variable {W0 w w' w2:World} {l d:Nat} {L L':Lg} {X Y:Ds} {O O' B:Nat -> Prop}
end Go.Log
namespace Go.Proofs.YtpjomdmjohjheaaGreatDoor
open Go.RowKit Go.Lk Go.Vfs Go.Log
variable {W0 w w' w2:World} {l d:Nat} {L L':Lg} {X Y:Ds} {O O':Nat -> Prop} {e:Int} {c:Int} {most:Nat}
end Go.Proofs.YtpjomdmjohjheaaGreatDoor
end
section
namespace Go.Proofs.YtpjomdmjohjheaaGreatDoor
open Go.RowKit Go.Lk Go.Vfs Go.Log
variable {W0 w w':World} {l d:Nat} {L L':Lg} {X Y:Ds} {g h:Sh} {k a b:Ks} {n q K:Nat} {nm ot:ByteArray} {x:List Nat} {c e:Int} {O:Nat -> Prop}
theorem gs_sm {D':Dk} (h:GS nm L X g n q K c) (hs:Sm X ⟨D',X.fc⟩) (hF:Fau D') (h6:D'.fe ≠ 6):GS nm L ⟨D',X.fc⟩ g n q K c :=
 ⟨{ h.li with inn:=h.li.inn.same hs rfl },hF,h6,⟨h.qt.bd.sm hs rfl,Qt.sm h.qt.al hs,hs.cap.trans h.qt.cap⟩⟩
theorem sm_lay (X:Ds) (m e:Int):Sm X ⟨layD X.D m e,X.fc⟩:=⟨rfl,rfl,rfl,rfl⟩
theorem ls_lay (h:LS W0 w l d L X O) (m e:Int) (hm:0 <= m /\ m <= 9223372036854775807) (he:e=5 \/ e=9) :
  Calls Tryz.prog 36 #[.pointer (some ⟨d,0,none⟩),.int .i64 m,.int .i64 e] w fun r w'=>r=.returned (.int .i64 0) /\ LS W0 w' l d L ⟨layD X.D m e,X.fc⟩ O /\ Keeps (Oth W0 O) w w':=by
 obtain ⟨Fd,Rd,FL,RL,h1,h2,h3,h4⟩:=h.ex;refine (lay_ok d m e X.D Fd Rd X.fc w h1.disk hm he).mono ?_;rintro r w' ⟨hv,g1,g2⟩;exact ⟨hv,h.now h2 h3 h4 (h1.disk_now (Y:=⟨layD X.D m e,X.fc⟩) ⟨Fd,Rd,g1,fun _ e=>.inl e,fun _ e=>.inl e,g2.mono fun k _ e=>e ▸ h1.disk.fd⟩ (Nat.le_trans h.six h.k.size))⟩
theorem zfp (hb:L.bad=true) (hr:appR L [] X e L' Y):e=19 /\ L'=L /\ Y=X:=by
 have hm:mayE L ([]:List Nat).length=19:=by unfold mayE;rw [hb];rfl
 rcases hr with ⟨-,h1,h2,h3⟩ | ⟨h0,-⟩
 ·exact ⟨h1.trans hm,h2,h3⟩
 ·rw [hm] at h0;cases h0
theorem zhb (hb:L.bad=true) (hr:synR L X e L' Y):e=19 /\ L'=L /\ Y=X:=by
 have hm:mayE L 0=19:=by unfold mayE;rw [hb];rfl
 rcases hr with ⟨-,h1,h2,h3⟩ | ⟨h0,-⟩
 ·exact ⟨h1.trans hm,h2,h3⟩
 ·rw [hm] at h0;cases h0
theorem zf8 (hb:L.bad=true) (hl:x.length <= mxr) (hr:turnR L x X e L' Y):e=19 /\ L'=L /\ Y=X:=by
 have hm:mayE L x.length=19:=by unfold mayE;rw [if_neg (by omega),hb];rfl
 rcases hr with ⟨-,h1,h2,h3⟩ | ⟨h0,-⟩
 ·exact ⟨h1.trans hm,h2,h3⟩
 ·rw [hm] at h0;cases h0
end Go.Proofs.YtpjomdmjohjheaaGreatDoor
end
section
namespace Go.Proofs.YtpjomdmjohjheaaGreatDoor
open Go.RowKit Go.Lk Go.Vfs Go.Log
variable {L L':Lg} {X Y:Ds} {g:Sh} {n q K:Nat} {x:List Nat} {c e:Int}
theorem z86 (hl:mxr < x.length) (hr:appR L x X e L' Y):e=3 /\ L'=L /\ Y=X:=by
 have hm:mayE L x.length=3:=by unfold mayE;rw [if_pos hl]
 rcases hr with ⟨-,h1,h2,h3⟩ | ⟨h0,-⟩
 ·exact ⟨h1.trans hm,h2,h3⟩
 ·rw [hm] at h0;cases h0
theorem zdj (hl:mxr < x.length) (hr:turnR L x X e L' Y):e=3 /\ L'=L /\ Y=X:=by
 have hm:mayE L x.length=3:=by unfold mayE;rw [if_pos hl]
 rcases hr with ⟨-,h1,h2,h3⟩ | ⟨h0,-⟩
 ·exact ⟨h1.trans hm,h2,h3⟩
 ·rw [hm] at h0;cases h0
theorem zed (hr:openR sa 1 ⟨newD 8388608,fun _=>⟨[],0⟩⟩ e L Y):e=0 /\ L={ lg0 sa 1 with first:=1,segment:=1,segments:=1 } /\ Y.D.fe=0 /\ ∃ g,GS sa L Y g 2 24 1 8388608:=by
 obtain ⟨h1,h2,h3,h4,h5,g,h6,h7,h8⟩:=z8j z0h z0g (zcr 8388608) (zab 8388608) rfl (zcq sa 8388608) (by decide) (by omega) rfl hr;exact ⟨h1,h2,h3,g,h6⟩
theorem zgi (h:GS sa L X g 2 24 1 8388608) (hfe:X.D.fe=0) (hL:L={ lg0 sa 1 with first:=1,segment:=1,segments:=1 }) (hx:Recs [x]) (hl:x.length=mxr) (hr:appR L x X e L' Y) :
  e=0 /\ Y.D.fe=0 /\ L'.segments=2 /\ ∃ g',GS sa L' Y g' 3 (24 + (8 + mxr)) 2 8388608:=by
 obtain ⟨h1,h2⟩:=z8i z0h z0g h hx (by omega) (by rw [hl];decide) (by decide) hr;obtain ⟨e0,f0⟩:=h1 hfe;rcases h2 with ⟨-,h3,-,-,g',h4,-⟩ | ⟨h0,-⟩
 ·
  refine ⟨e0,f0,?_,g',by rw [hl] at h4;exact h4⟩;rcases zdm (by omega) h.li.nob hr with h5 | ⟨-,-,-,-,-,-,-,⟨h6,-⟩ | ⟨-,-,h6⟩⟩
  ·rw [h3] at h5;cases h5
  ·rw [hL,hl] at h6;exact absurd h6 (by show ¬ (0 + (8 + mxr) <= 1);unfold mxr;omega)
  ·rw [h6,hL]
 ·exact absurd e0 h0
theorem zef (h:GS sa L X g 3 (24 + (8 + mxr)) 2 8388608) (hfe:X.D.fe=0) (hx:Recs [x]) (hl:x.length=mxr) (hr:turnR L x X e L' Y) :
  e=0 /\ Y.D.fe=0 /\ L'.segments=1 /\ L'.recs=[] /\ L'.size=0 /\ ∃ g',GS sa L' Y g' 6 (24 + (8 + mxr) + (8 + mxr) + 24) 4 8388608:=by
 obtain ⟨h1,h2⟩:=za3 z0h z0g h hx (by omega) (by rw [hl];decide) (by decide) (by decide) hr;obtain ⟨e0,f0⟩:=h1 hfe;rcases h2 with ⟨-,s,n',bm,bs,b,rfl,-,h4⟩ | ⟨h0,-⟩
 ·exact ⟨e0,f0,rfl,rfl,rfl,_,by rw [hl] at h4;exact h4⟩
 ·exact absurd e0 h0
theorem sy_is {s:ByteArray} {b:Nat} (h:Fau X.D) (h1:mnB s=true) (h2:X.dir s=some b) (hr:syO s X e Y):e=(chg X.D).2.2:=by
 have h2:flook X.D.files s=some b:=h2;rcases hr with ⟨g,-⟩ | ⟨-,g,-⟩ | ⟨b',-,hl,⟨g,-⟩ | ⟨-,h0,hd,-⟩⟩
 ·rw [h1] at g;cases g
 ·rw [h2] at g;cases g
 ·rw [h.dead] at g;cases g
 ·exact h0
theorem zee (h:GS sa L X g n q K c) (hr:synR L ⟨layD X.D 0 9,X.fc⟩ e L' Y):e=9 /\ L'={ L with bad:=true } /\ GB sa Y (fun _=>True) n q K c:=by
 have g1:GS sa L ⟨layD X.D 0 9,X.fc⟩ g n q K c:=gs_sm h (sm_lay X 0 9) ⟨h.fau.dead,h.fau.fuse⟩ (by show (9:Int) ≠ 6;decide);have e9:e=9:=by
  rcases hr with ⟨h0,-⟩ | ⟨-,h2,-⟩
  ·exact absurd (h.li.may (Nat.zero_le _)) h0
  ·have hs:=g1.li.shape;have h3:=sy_is g1.fau (b:=g.b) (s:=L.seg) (by rw [h.li.atseg];exact z0o z0h z0g hs.m1.2) (by rw [h.li.atseg];exact hs.lastAt) h2;rw [h3];unfold chg layD;simp
 rcases (z8k z0h z0g g1 hr).2 with ⟨h0,-⟩ | ⟨-,h2,h3⟩
 ·rw [e9] at h0;cases h0
 ·exact ⟨e9,h2,⟨h3.inn.mono fun _ _=>trivial,h3.fau,h3.fe,h3.qt⟩⟩
theorem zcs {most:Nat} (hg:GB sa X (fun _=>True) n q K c) (hr:openR sa most X e L Y):e=0 /\ L.bad=false:=by
 obtain ⟨hcalm,h,j,h1,h2,h3,h4,h5,h6,h7⟩:=z6t z0h z0g hg.inn (fun _ _ _ _ _ _=>trivial) hg.fau (by rw [hg.fe];decide) hg.qt hr;obtain ⟨e0,fe'⟩:=hcalm hg.fe;exact ⟨e0,(h7 e0).1.li.nob⟩
end Go.Proofs.YtpjomdmjohjheaaGreatDoor
end
section
namespace Go.Proofs.YtpjomdmjohjheaaGreatDoor
open Go.RowKit Go.Lk Go.Vfs Go.Log
def NulL (w:World) (v:Value):Prop:=v=.pointer none \/ ∃ (l:Nat) (cs:Array Value),v=.pointer (some ⟨l,0,none⟩) /\ w.heap[l]?=some (.cells cs 78 (0,0)) /\ cs[0]?=some (.pointer none)
theorem NulL.nb {w u:World} {v:Value} (h:NulL w v) (k:Keeps Nb w u):NulL u v:=h.imp id fun ⟨d,r,e,hb,h0⟩=>⟨d,r,e,k.nb hb,h0⟩
theorem NulL.ptr {w:World} {v:Value} (h:NulL w v):∃ p,v=.pointer p:=by rcases h with rfl | ⟨d,r,rfl,-⟩ <;> exact ⟨_,rfl⟩
theorem z0n {w:World} {v:Value} (h:NulL w v):Calls Tryz.prog 65 #[v] w fun e w'=>e=.returned (.bool false) /\ w=w':=by
 rcases h with rfl | ⟨l,cs,rfl,hb,h0⟩
 ·go_enter Tryz.func65,Tryz.ntmps65;go_wp2;go_ret;exact ⟨rfl,rfl⟩
 ·have c0:w.cell? ⟨l,0,none⟩=some (.pointer none):=(cell_of_block hb).trans h0;clear hb h0;go_enter Tryz.func65,Tryz.ntmps65;go_wp2;go_ret;exact ⟨rfl,rfl⟩
section
variable {w:World} {v:Value}
theorem z9o (h:NulL w v):Calls Tryz.prog 20 #[v] w fun e w'=>e=.returned (.int .i64 0) /\ w=w':=by
 have TH:=qq (z0n h);clear h;go_enter Tryz.func20,Tryz.ntmps20;go_wp2_with fail;refine TH.out.mono ?_;rintro _ _ ⟨rfl,rfl⟩;go_wp2;go_ret;exact ⟨rfl,rfl⟩
theorem z92 (h:NulL w v):Calls Tryz.prog 31 #[v] w fun e w'=>e=.returned (.int .i64 0) /\ w=w':=by
 have TH:=qq (z0n h);clear h;go_enter Tryz.func31,Tryz.ntmps31;go_wp2_with fail;refine TH.out.mono ?_;rintro _ _ ⟨rfl,rfl⟩;go_wp2;go_ret;exact ⟨rfl,rfl⟩
theorem zbm (h:NulL w v):Calls Tryz.prog 93 #[v] w fun e w'=>e=.returned (.int .i64 0) /\ w=w':=by
 have TH:=qq (z0n h);clear h;go_enter Tryz.func93,Tryz.ntmps93;go_wp2_with fail;refine TH.out.mono ?_;rintro _ _ ⟨rfl,rfl⟩;go_wp2;go_ret;exact ⟨rfl,rfl⟩
theorem zgb (h:NulL w v):Calls Tryz.prog 30 #[v] w fun e w'=>e=.returned (.int .i64 0) /\ w=w':=by
 have TH:=qq (z0n h);clear h;go_enter Tryz.func30,Tryz.ntmps30;go_wp2_with fail;refine TH.out.mono ?_;rintro _ _ ⟨rfl,rfl⟩;go_wp2;go_ret;exact ⟨rfl,rfl⟩
theorem ro_nul (h:NulL w v):Calls Tryz.prog 25 #[v] w fun e w'=>e=.returned (.bool false) /\ w=w':=by
 have TH:=qq (z0n h);clear h;go_enter Tryz.func25,Tryz.ntmps25;go_wp2_with fail;refine TH.out.mono ?_;rintro _ _ ⟨rfl,rfl⟩;go_wp2;go_ret;exact ⟨rfl,rfl⟩
theorem zey (h:NulL w v):Calls Tryz.prog 29 #[v] w fun e w'=>e=.returned (.tuple #[.slice none 0 0,.bool false]) /\ w=w':=by
 have TH:=qq (z0n h);clear h;go_enter Tryz.func29,Tryz.ntmps29;go_wp2_with fail;refine TH.out.mono ?_;rintro _ _ ⟨rfl,rfl⟩;go_wp2;go_ret2;exact ⟨rfl,rfl⟩
theorem z6v (h:NulL w v) (ad:Option Addr) (n c:Nat):Calls Tryz.prog 66 #[v,.slice ad n c] w fun e w'=>e=.returned (.int .i64 1) /\ w=w':=by
 have TH:=qq (z0n h);clear h;go_enter Tryz.func66,Tryz.ntmps66;go_wp2_with fail;refine TH.out.mono ?_;rintro _ _ ⟨rfl,rfl⟩;go_wp2;go_ret;exact ⟨rfl,rfl⟩
theorem zfq (h:NulL w v):Calls Tryz.prog 21 #[v,.slice none 0 0] w fun e w'=>e=.returned (.int .i64 1) /\ Keeps Nb w w':=by
 obtain ⟨p,rfl⟩:=h.ptr;have MA:=qq (fun (u:World) (k:Keeps Nb w u)=>z6v (h.nb k) none 0 0);clear h;go_enter Tryz.func21,Tryz.ntmps21;go_wp2_with (first | go_skip | (with_reducible refine qv (by decide) ?_))
 refine za (vbox1 (v:=.pointer p) (by rfl) rfl ?_);intro b1 w1 n1;simp only [Nat.reduceAdd,qn];have c1:w1.cell? ⟨b1,0,none⟩=some (.pointer p):=(cell_of_block n1.blk).trans rfl;have K1:=qq n1.k;clear n1;go_wp2_with fail;refine (MA.out w1 K1.out).mono ?_;rintro _ _ ⟨rfl,rfl⟩;go_wp2;go_ret;exact ⟨rfl,K1.out⟩
theorem zf5 (h:NulL w v):Calls Tryz.prog 22 #[v] w fun e w'=>e=.returned (.int .i64 1) /\ Keeps Nb w w':=by
 obtain ⟨p,rfl⟩:=h.ptr;have MA:=qq (fun (u:World) (k:Keeps Nb w u)=>z6v (h.nb k) none 0 0);clear h;go_enter Tryz.func22,Tryz.ntmps22;go_wp2_with (first | go_skip | (with_reducible refine qv (by decide) ?_))
 refine za (vbox1 (v:=.pointer p) (by rfl) rfl ?_);intro b1 w1 n1;simp only [Nat.reduceAdd,qn];have c1:w1.cell? ⟨b1,0,none⟩=some (.pointer p):=(cell_of_block n1.blk).trans rfl;have K1:=qq n1.k;clear n1;go_wp2_with fail;refine (MA.out w1 K1.out).mono ?_;rintro _ _ ⟨rfl,rfl⟩;go_wp2;go_ret;exact ⟨rfl,K1.out⟩
theorem zf9 (h:NulL w v):Calls Tryz.prog 23 #[v,.slice none 0 0] w fun e w'=>e=.returned (.int .i64 1) /\ Keeps Nb w w':=by
 obtain ⟨p,rfl⟩:=h.ptr;have MA:=qq (fun (u:World) (k:Keeps Nb w u)=>z6v (h.nb k) none 0 0);clear h;go_enter Tryz.func23,Tryz.ntmps23;go_wp2_with (first | go_skip | (with_reducible refine qv (by decide) ?_))
 refine za (vbox1 (v:=.pointer p) (by rfl) rfl ?_);intro b1 w1 n1;simp only [Nat.reduceAdd,qn];go_wp2_with (first | go_skip | (with_reducible refine qv (by decide) ?_))
 refine za (vbox1 (v:=.slice none 0 0) (by rfl) rfl ?_);intro b2 w2 n2;simp only [Nat.reduceAdd,qn];have c1:w2.cell? ⟨b1,0,none⟩=some (.pointer p):=(cell_of_block (n2.k.nb n1.blk)).trans rfl;have c2:w2.cell? ⟨b2,0,none⟩=some (.slice none 0 0):=(cell_of_block n2.blk).trans rfl;have K2:=qq (n1.k.trans_nb n2.k);clear n1 n2;go_wp2_with fail;refine (MA.out w2 K2.out).mono ?_;rintro _ _ ⟨rfl,rfl⟩;go_wp2;go_ret;exact ⟨rfl,K2.out⟩
theorem z9l (h:NulL w v):Calls Tryz.prog 97 #[v] w fun e w'=>∃ g,e=.returned (.func (.func 137) #[] #[.pointer (some ⟨g,0,none⟩)]) /\ w.heap.size <= g /\ g < w'.heap.size /\ RecsAt w' (·=g) g [] /\ Keeps Nb w w':=by
 obtain ⟨p,rfl⟩:=h.ptr;have TH:=qq (fun (u:World) (k:Keeps Nb w u)=>z0n (h.nb k));clear h;go_enter Tryz.func97,Tryz.ntmps97;go_wp2_with (first | go_skip | (with_reducible refine qv (by decide) ?_))
 refine za (valloc (z:=.slice none 0 0) (by kernel_rfl) ?_);intro g w1 n1;simp only [Nat.reduceAdd,qn];have F:Hid (w.heap.size <= g /\ g < w1.heap.size /\ RecsAt w1 (·=g) g [] /\ Keeps Nb w w1):=qq ⟨n1.ge,n1.lt,⟨_,[],n1.blk,RowS.nil _ _ _ _ _,BytesL.nil _ _,rfl⟩,n1.k⟩;clear n1;go_wp2_with fail;refine (TH.out w1 F.out.2.2.2).mono ?_;rintro _ _ ⟨rfl,rfl⟩;go_wp2;go_ret;exact ⟨g,rfl,F.out⟩
theorem zej (h:NulL w v):Calls Tryz.prog 34 #[v,.slice none 0 0,.int .i64 0] w fun e w'=>e=.returned (.bool true) /\ Keeps Nb w w' :=
 zaf v [] none 0 [] w (RowS.nil _ _ _ _ _) (BytesL.nil _ _) (fun x hx=>by cases hx) (Nat.zero_le _) fun w1 k1=>by
  refine (z9l (h.nb k1)).mono ?_;rintro e w' ⟨g,rfl,g1,g2,g3,g4⟩;exact ⟨g,(·=g),rfl,g1,g2,fun k e=>.inr e,g3,g4⟩
theorem z5h (h:NulL w v):Calls Tryz.prog 40 #[v] w fun e w'=>e=.returned (.bool true) /\ Keeps Nb w w':=by
 have H:=qq h;obtain ⟨p,rfl⟩:=h.ptr;clear h;go_enter Tryz.func40,Tryz.ntmps40;go_wp2_with fail;refine (zey H.out).mono ?_;rintro _ _ ⟨rfl,rfl⟩;go_wp2_with fail;refine (zfq H.out).mono ?_;rintro _ w1 ⟨rfl,k1⟩;have K1:=qq k1;clear k1;go_wp2_with fail;refine (z00 1 w1).mono ?_;rintro _ _ ⟨rfl,rfl⟩;go_wp2_with fail;refine (zf5 (H.out.nb K1.out)).mono ?_;rintro _ w2 ⟨rfl,k2⟩;have K2:=qq (K1.out.trans_nb k2);clear k2;go_wp2_with fail;refine (z00 1 w2).mono ?_;rintro _ _ ⟨rfl,rfl⟩;go_wp2_with fail;refine (zf9 (H.out.nb K2.out)).mono ?_;rintro _ w3 ⟨rfl,k3⟩;have K3:=qq (K2.out.trans_nb k3);clear k3;go_wp2_with fail;refine (z00 1 w3).mono ?_;rintro _ _ ⟨rfl,rfl⟩;go_wp2_with fail;refine (zej (H.out.nb K3.out)).mono ?_;rintro _ w4 ⟨rfl,k4⟩;have K4:=qq (K3.out.trans_nb k4);have H4:=qq (H.out.nb K4.out);clear k4;go_wp2_with fail;refine (zgb H4.out).mono ?_;rintro _ _ ⟨rfl,rfl⟩;go_wp2_with fail;refine (zbm H4.out).mono ?_;rintro _ _ ⟨rfl,rfl⟩;go_wp2_with fail;refine (z92 H4.out).mono ?_;rintro _ _ ⟨rfl,rfl⟩;go_wp2_with fail;refine (z9o H4.out).mono ?_;rintro _ _ ⟨rfl,rfl⟩;go_wp2_with fail;refine (ro_nul H4.out).mono ?_;rintro _ _ ⟨rfl,rfl⟩;go_wp2;go_ret;exact ⟨rfl,K4.out⟩
end
def NulD (w:World) (v:Value):Prop:=v=.pointer none \/ ∃ (d:Nat) (cs:Array Value),v=.pointer (some ⟨d,0,none⟩) /\ w.heap[d]?=some (.cells cs 76 (0,0)) /\ cs[0]?=some (.map none)
theorem NulD.nb {w u:World} {v:Value} (h:NulD w v) (k:Keeps Nb w u):NulD u v:=h.imp id fun ⟨d,r,e,hb,h0⟩=>⟨d,r,e,k.nb hb,h0⟩
theorem NulD.cell {w:World} {v:Value} (h:NulD w v):v=.pointer none \/ ∃ d,v=.pointer (some ⟨d,0,none⟩) /\ w.cell? ⟨d,0,none⟩=some (.map none):=h.imp id fun ⟨d,r,e,hb,h0⟩=>⟨d,e,(cell_of_block hb).trans h0⟩
theorem zep {w:World} {v:Value} (h:NulD w v) (s:ByteArray):Calls Tryz.prog 49 #[v,.string s] w fun e w'=>e=.returned (.tuple #[.slice none 0 0,.int .i64 1]) /\ Keeps Nb w w':=by
 have FN:=qq (fun (u:World) (k:Keeps Nb w u) (s:ByteArray)=>zdy _ u s (h.nb k).cell);clear h;go_enter Tryz.func49,Tryz.ntmps49;go_wp2_with fail;refine (FN.out w (Keeps.refl _ _) s).mono ?_;rintro _ _ ⟨rfl,rfl⟩;go_wp2;go_ret2;exact ⟨rfl,Keeps.refl _ _⟩
theorem z8t {w:World} {v:Value} (h:NulD w v) (s:ByteArray) (m:Int):Calls Tryz.prog 19 #[v,.string s,.int .i64 m] w fun e w'=>e=.returned (.tuple #[.pointer none,.int .i64 2]) /\ Keeps Nb w w':=by
 obtain ⟨p,rfl⟩:∃ p,v=.pointer p:=by rcases h with rfl | ⟨d,r,rfl,-⟩ <;> exact ⟨_,rfl⟩
 have RA:=qq (fun (u:World) (k:Keeps Nb w u)=>zep (h.nb k) s);clear h;go_enter Tryz.func19,Tryz.ntmps19;go_wp2_with (first | go_skip | (with_reducible refine zm (t:=37) ?_))
 refine za (vbox1 (v:=.pointer p) (by rfl) rfl ?_);intro b3 w1 n1;simp only [Nat.reduceAdd,qn];have c1:w1.cell? ⟨b3,0,none⟩=some (.pointer p):=(cell_of_block n1.blk).trans rfl;have K1:=qq n1.k;clear n1;go_wp2_with fail;refine (RA.out w1 K1.out).mono ?_;rintro _ w2 ⟨rfl,k2⟩;have K2:=qq (K1.out.trans_nb k2);clear k2;go_wp2;go_ret2;exact ⟨rfl,K2.out⟩
theorem z7p (d:Nat) (Fd Rd:Nat -> Prop) (X:Ds) (nm:ByteArray) (m:Int) (w:World) (h:DiskAt w d Fd Rd X.D X.fc) (hm1:mnB nm=true) (h16:16 < nm.size \/ (nm.size <= 16 /\ m < 1)) (hz:nm.size <= 32) :
  Calls Tryz.prog 19 #[.pointer (some ⟨d,0,none⟩),.string nm,.int .i64 m] w fun e w'=>e=.returned (.tuple #[.pointer none,.int .i64 2]) /\ Keeps Nb w w':=by
 have H:=qq h;have HM1:=qq hm1;have hne:=z6g X.D X.fc nm;clear h hm1;go_enter Tryz.func19,Tryz.ntmps19;go_wp2_with (first | go_skip | (with_reducible refine zm (t:=37) ?_))
 refine za (vbox1 (v:=.pointer (some ⟨d,0,none⟩)) (by rfl) rfl ?_);intro b3 w1 n1;simp only [Nat.reduceAdd,qn];have K1:=qq n1.k;have c3:w1.cell? ⟨b3,0,none⟩=some (.pointer (some ⟨d,0,none⟩)):=(cell_of_block n1.blk).trans rfl;have RA:=qq (z3o d nm X.D Fd Rd X.fc w1 (H.out.nb K1.out) (by unfold maxLen;omega));clear n1;generalize hro:readOf X.D X.fc nm=ro at RA hne;obtain ⟨bs,er⟩:=ro;clear hro;go_wp2_with fail;refine RA.out.mono ?_;rintro _ w2 ⟨v,rfl,ho,k2⟩;obtain ⟨va,vc,hva,-⟩:=z05 ho;have t1:¬ er=1:=hne;have t2:(er == 1)=false:=by simpa using hne
 have K2:=qq (K1.out.trans_nb k2);have NA:=qq (z56 nm (by unfold maxLen;omega) w2);rw [HM1.out] at NA;subst hva;clear ho k2 RA hne c3;go_wp2_with fail;refine NA.out.mono ?_;rintro _ w3 ⟨rfl,k3⟩;have K3:=qq (K2.out.trans_nb k3);clear k3 NA;obtain ⟨sz,hsz⟩:∃ n,nm.size=n:=⟨_,rfl⟩
 rw [hsz] at h16 hz;rcases h16 with h16 | ⟨h16,hm⟩
 ·
  have t3:(16:Int) < (nm.size:Int):=by omega
  go_wp2;go_ret2;exact ⟨rfl,K3.out⟩
 ·
  have t3:¬ (16:Int) < (nm.size:Int):=by omega
  go_wp2;go_ret2;exact ⟨rfl,K3.out⟩
end Go.Proofs.YtpjomdmjohjheaaGreatDoor
end
section
namespace Go.Proofs.YtpjomdmjohjheaaGreatDoor
open Go.RowKit Go.Lk Go.Vfs Go.Log
theorem z77 {P:Program} {ops:Array Oper} {rest:List Oper} {dst:Option Tmp} {l c:Operand} {t ty:TypeId} {pos:String} {aft:Array Edge} {gd:Option (Nat × Bool)} {a:Act} {w:World} {Q:Exit -> Act -> World -> Prop}
  (h:At (wpList P ops Q (⟨dst,.makeSlice t l c,ty,pos,aft,gd⟩ :: rest) a w)):wpList P ops Q (⟨dst,.makeSlice t l c,ty,pos,aft,gd⟩ :: rest) a w:=h
def IsZero (w:World) (n:Nat) (v:Value) (w':World):Prop:=∃ g,v=.slice (some ⟨g,0,none⟩) n n /\ Bytes w' (·=g) v (List.replicate n 0) /\ Keeps Nb w w' /\ w.heap.size <= g /\ g < w'.heap.size
theorem zen {w:World} {dst:Option Tmp} {l c:Operand} {ty:TypeId} {pos:String} {aft:Array Edge} {gd:Option (Nat × Bool)} {a:Act} {n:Nat} {z:Int} (hl:a.eval l=.int .i64 z) (hc:a.eval c=.int .i64 z) (hz:z=(n:Int)) (hn:n <= 100000000) :
  ∃ v w',(execOp a.eval ⟨dst,.makeSlice 22 l c,ty,pos,aft,gd⟩).run Tryz.prog w=.ok (.value v) w' /\ IsZero w n v w':=by
 have h5:(Tryz.prog.info? 5).map (fun i=>(i.zero,i.size,i.bytes))=some (some (.int .u8 0),1,1):=by kernel_rfl
 subst hz;have hr:=run_make_row' (P:=Tryz.prog) 22 5 (.int .u8 0) 1 Tryz.underlying22 h5 rfl .i64 .i64 n (by omega) (by omega) w;refine ⟨.slice (some ⟨w.heap.size,0,none⟩) n n,w.alloc (.cells (madeCells #[.int .u8 0] n) 5),?_,w.heap.size,rfl,⟨some ⟨w.heap.size,0,none⟩,n,by rw [List.length_replicate],by rw [List.length_replicate];exact Nat.le_refl _,by unfold maxLen;omega,.inr ⟨w.heap.size,0,rfl,fun i hi=>?_⟩,?_,?_⟩,(Keeps.refl _ _).alloc _,Nat.le_refl _,lt_of_block (World.alloc_heap_new w _)⟩
 ·unfold execOp;simp only [hl,hc,Sem.run_bind,hr,Result.andThen_ok,Sem.run_pure]
 ·rw [List.length_replicate] at hi;rw [Nat.zero_add,cell_of_block (World.alloc_heap_new w _)];simp [madeCells,hi,Nat.mod_one,ntn,List.getD_eq_getElem?_getD]
 ·intro x hx;rw [List.eq_of_mem_replicate hx];omega
 ·intro b off e _;cases e;rfl
end Go.Proofs.YtpjomdmjohjheaaGreatDoor
namespace Go.Proofs.YtpjomdmjohjheaaGreatDoor.logNil
open Go.RowKit Go.Lk Go.Vfs Go.Log Go.Proofs.YtpjomdmjohjheaaGreatDoor
def s17:ByteArray:=⟨#[97,98,99,100,101,102,103,104,105,106,107,108,109,110,111,112,113]⟩
theorem body (w:World) (hv:Vars w) (h6:6 <= w.heap.size):Calls Tryz.prog 9 #[] w fun e w'=>e=.returned (.bool true) /\ Keeps Nb w w':=by
 have HV:=qq hv;have H6:=qq h6;clear hv h6;go_enter Tryz.func9,Tryz.ntmps9;go_wp2_with fail;refine (zca (W0:=w) (O:=fun _=>False) (Keeps.refl _ _) HV.out H6.out (fun _ e=>e.elim) 8388608 (by omega)).mono ?_;rintro _ w1 ⟨d,rfl,hd,-⟩;have OP:=qq (z3m hd sa 1 z0h z0g (by omega) (by omega) (by show pot ⟨newD 8388608,_⟩ + 12 <= _;unfold pot;simp [newD]));clear hd;go_wp2_with fail;refine OP.out.mono ?_;rintro _ w2 ⟨er,L,X,hr,hp,-,hc⟩;obtain ⟨rfl,hL,fe,g,gs⟩:=zed hr;obtain ⟨-,l,rfl,hls⟩:=hc.resolve_right fun h=>h.1 rfl;have PX:Hid (pot X <= 12):=qq hp;have HL:=qq hL;have FE:=qq fe;have GX:=qq gs;have H2:=qq hls;clear hr hp hc hL fe gs hls OP;go_wp2_with fail;refine (z8t (.inl rfl) sa 1).mono ?_;rintro _ w3 ⟨rfl,k3⟩;have H3:=qq (H2.out.nb k3);clear k3 H2;go_wp2_with (first | go_skip | (with_reducible refine qv (by decide) ?_))
 refine za (vbox rfl ?_);intro g4 w4 n4;simp only [Nat.reduceAdd,qn];have H4:=qq (H3.out.nb n4.k);have ON:=qq (z8t (w:=w4) (v:=.pointer (some ⟨g4,0,none⟩)) (.inr ⟨g4,_,rfl,n4.blk,rfl⟩) sa 1);clear n4 H3;go_wp2_with fail;refine ON.out.mono ?_;rintro _ w5 ⟨rfl,k5⟩;have H5:=qq (H4.out.nb k5);clear k5 H4 ON;obtain ⟨F5,R5,hd5,-⟩:=H5.out.disk.ex;have ON:=qq (z7p d F5 R5 X s17 1 w5 hd5 (by decide) (.inl (by decide)) (by decide));clear hd5;go_wp2_with fail;refine ON.out.mono ?_;rintro _ w6 ⟨rfl,k6⟩;have H6':=qq (H5.out.nb k6);clear k6 H5 ON;obtain ⟨F6,R6,hd6,-⟩:=H6'.out.disk.ex;have ON:=qq (z7p d F6 R6 X sa 0 w6 hd6 z0h (.inr ⟨z0g,by omega⟩) (by decide));clear hd6;go_wp2_with fail;refine ON.out.mono ?_;rintro _ w7 ⟨rfl,k7⟩;have H7:=qq (H6'.out.nb k7);clear k7 H6' ON;obtain ⟨N,hN⟩:∃ N:Nat,(1048577:Int)=(N:Int):=⟨1048577,rfl⟩
 have HNN:=qq hN;have hN2:Hid (N=mxr + 1):=qq (by unfold mxr;omega);clear hN;go_wp2_with (first | go_skip | (with_reducible refine z77 ?_) | fail)
 refine za (zi rfl (zen (n:=N) (by rfl) (by rfl) HNN.out (by have:=HNN.out;omega)) ?_);rintro _ w8 ⟨g8,rfl,hB,k8,hg1,hg2⟩;simp only [Nat.reduceAdd,qn];obtain ⟨hl8,hb8⟩:=LS.lit H7.out k8 hg1 hg2 hB;have H8:=qq hl8;have HB8:=qq hb8;have RL:=qq (z9k (.slice (some ⟨g8,0,none⟩) N N) (List.replicate N 0) _ w8 hB (by rw [List.length_replicate];have:=hN2.out;omega));clear hB k8 hg1 hg2 hl8 hb8 H7;go_wp2_with fail;refine RL.out.mono ?_;rintro _ _ ⟨rfl,rfl⟩;clear RL;go_wp2_with fail;refine (z00 0 w8).mono ?_;rintro _ _ ⟨rfl,rfl⟩;go_wp2_with fail;refine (z00 2 w8).mono ?_;rintro _ _ ⟨rfl,rfl⟩;go_wp2_with fail;refine (z00 2 w8).mono ?_;rintro _ _ ⟨rfl,rfl⟩;go_wp2_with fail;refine (z00 2 w8).mono ?_;rintro _ _ ⟨rfl,rfl⟩;go_wp2_with fail;refine (z00 2 w8).mono ?_;rintro _ _ ⟨rfl,rfl⟩;go_wp2_with fail;refine (z00 3 w8).mono ?_;rintro _ _ ⟨rfl,rfl⟩;have AP:=qq (z1e H8.out HB8.out (by have:=PX.out;omega) (by rw [HL.out];show 1 < 1000000;omega) (by rw [HL.out];show 0 < 4000000000000;omega) (by rw [HL.out];exact Nat.zero_le _));go_wp2_with fail;refine AP.out.mono ?_;rintro _ w9 ⟨er,L9,X9,rfl,hls,hr,-,hk9⟩;obtain ⟨rfl,rfl,rfl⟩:=z86 (by rw [List.length_replicate];have:=hN2.out;omega) hr;have H9:=qq hls;have HB9:=qq (HB8.out.keeps hk9 (fun k e f=>e.elim (fun e=>by have:=f.1;omega) (fun e=>f.2 e)));clear hls hr hk9 AP H8 HB8;go_wp2_with fail;refine (z00 3 w9).mono ?_;rintro _ _ ⟨rfl,rfl⟩;have TN:=qq (z4z H9.out HB9.out (by have:=PX.out;omega));go_wp2_with fail;refine TN.out.mono ?_;rintro _ w10 ⟨er,L9,X9,rfl,hls,hr,-,hk9⟩;obtain ⟨rfl,rfl,rfl⟩:=zdj (by rw [List.length_replicate];have:=hN2.out;omega) hr;have H10:=qq hls;have HB10:=qq (HB9.out.keeps hk9 (fun k e f=>e.elim (fun e=>by have:=f.1;omega) (fun e=>f.2 e)));clear hls hr hk9 TN H9 HB9;go_wp2_with fail;refine (z00 3 w10).mono ?_;rintro _ _ ⟨rfl,rfl⟩;have hN0:¬ N=1:=by have:=hN2.out;unfold mxr at this;omega
 have hN1:1 <= N:=by have:=hN2.out;omega
 have hx:Recs [List.replicate (N - 1) 0]:=fun b hb=>by
  rw [List.mem_singleton.1 hb,List.length_replicate];exact ⟨by have:=hN2.out;omega,fun y hy=>by rw [List.eq_of_mem_replicate hy];omega⟩
 have HX:=qq hx;have hxl:(List.replicate (N - 1) 0).length=mxr:=by rw [List.length_replicate];have:=hN2.out;omega
 have HXL:=qq hxl;have DR:∀ {u:World} {R:Nat -> Prop},Bytes u R (.slice (some ⟨g8,0,none⟩) N N) (List.replicate N 0) -> Bytes u R (.slice (some ⟨g8,1,none⟩) (N - 1) (N - 1)) (List.replicate (N - 1) 0):=fun {u R} h=>by
  obtain ⟨a',c',e,q1,q2,q3,q4,q5⟩:=h;rw [List.length_replicate] at e;cases e;refine ⟨_,_,by rw [List.length_replicate],by rw [List.length_replicate];exact Nat.le_refl _,by omega,?_,fun z hz=>by rw [List.eq_of_mem_replicate hz];omega,fun b off e hz=>by cases e;exact q5 _ _ rfl (fun e=>hN0 (by have:=congrArg List.length e;simp at this;omega))⟩;have:=ReadsN.drop (b:=g8) (off:=0) q3 1;rw [Nat.zero_add,List.drop_replicate] at this;exact this
 have HDR:=@DR;have AP:=qq (z1e H10.out (HDR HB10.out) (by have:=PX.out;omega) (by rw [HL.out];show 1 < 1000000;omega) (by rw [HL.out];show 0 < 4000000000000;omega) (by rw [HL.out];exact Nat.zero_le _));clear DR hx hxl;go_wp2_with fail;refine AP.out.mono ?_;rintro _ w11 ⟨er,L1,X1,rfl,hls,hr,hp,hk⟩;obtain ⟨rfl,fe1,sg1,g1,gs1⟩:=zgi GX.out FE.out HL.out HX.out HXL.out hr;have H11:=qq hls;have FE1:=qq fe1;have GX1:=qq gs1;have HB11:=qq (HB10.out.keeps hk (fun k e f=>e.elim (fun e=>by have:=f.1;omega) (fun e=>f.2 e)));have PX1:Hid (pot X1 <= 18):=qq (by have:=PX.out;omega);have SG:=za8 hls;rw [sg1] at SG;replace SG:=qq SG;clear hls hr hp hk fe1 sg1 gs1 AP H10 HB10 GX FE HL PX;go_wp2_with fail;refine (z00 0 w11).mono ?_;rintro _ _ ⟨rfl,rfl⟩;go_wp2_with fail;refine SG.out.mono ?_;rintro _ _ ⟨rfl,rfl⟩;have TN:=qq (z4z H11.out (HDR HB11.out) (by have:=PX1.out;omega));clear SG;go_wp2_with fail;refine TN.out.mono ?_;rintro _ w12 ⟨er,L2,X2,rfl,hls,hr,hp,hk⟩;obtain ⟨rfl,fe2,sg2,rc2,sz2,g2,gs2⟩:=zef GX1.out FE1.out HX.out HXL.out hr;have H12:=qq hls;have GX2:=qq gs2;have HB12:=qq (HB11.out.keeps hk (fun k e f=>e.elim (fun e=>by have:=f.1;omega) (fun e=>f.2 e)));have PX2:Hid (pot X2 <= 40):=qq (by have:=PX1.out;omega);have HL2:Hid (L2.segments=1 /\ L2.recs=[] /\ L2.size=0):=qq ⟨sg2,rc2,sz2⟩;have SG:=za8 hls;rw [sg2] at SG;replace SG:=qq SG;clear hls hr hp hk fe2 sg2 rc2 sz2 gs2 TN H11 HB11 GX1 FE1 PX1;go_wp2_with fail;refine (z00 0 w12).mono ?_;rintro _ _ ⟨rfl,rfl⟩;go_wp2_with fail;refine SG.out.mono ?_;rintro _ _ ⟨rfl,rfl⟩;clear SG;have LY:=qq (ls_lay H12.out 0 9 (by omega) (.inr rfl));go_wp2_with fail;refine LY.out.mono ?_;rintro _ w13 ⟨rfl,hls,hk⟩;have H13:=qq hls;have HB13:=qq (HB12.out.keeps hk (fun k e f=>e.elim (fun e=>by have:=f.1;omega) (fun e=>f.2 e)));have SY:=qq (z4y hls (by have:=PX2.out;show pot X2 + 1 <= _;omega));clear hls hk LY H12 HB12;go_wp2_with fail;refine SY.out.mono ?_;rintro _ w14 ⟨er,L3,X3,rfl,hls,hr,hp,hk⟩;obtain ⟨rfl,rfl,gb⟩:=zee GX2.out hr;have H14:=qq hls;have GB:=qq gb;have HB14:=qq (HB13.out.keeps hk (fun k e f=>e.elim (fun e=>by have:=f.1;omega) (fun e=>f.2 e)));have PX3:Hid (pot X3 <= 60):=qq (by have:=PX2.out;have e:pot ⟨layD X2.D 0 9,X2.fc⟩=pot X2:=rfl;omega);clear hls hr hp hk gb SY H13 HB13 GX2 PX2;go_wp2_with fail;refine (z00 9 w14).mono ?_;rintro _ _ ⟨rfl,rfl⟩;have SY:=qq (z4y H14.out (by have:=PX3.out;omega));go_wp2_with fail;refine SY.out.mono ?_;rintro _ w15 ⟨er,L4,X4,rfl,hls,hr,-,hk⟩;obtain ⟨rfl,rfl,rfl⟩:=zhb rfl hr;have H15:=qq hls;have HB15:=qq (HB14.out.keeps hk (fun k e f=>e.elim (fun e=>by have:=f.1;omega) (fun e=>f.2 e)));clear hls hr hk SY H14 HB14;go_wp2_with fail;refine (z00 19 w15).mono ?_;rintro _ _ ⟨rfl,rfl⟩;have AP:=qq (z1e H15.out (v:=.slice none 0 0) (bs:=[]) (Bytes.nil _ _) (by have:=PX3.out;omega) (by show L2.segments < 1000000;rw [HL2.out.1];omega) (by show L2.recs.length < 4000000000000;rw [HL2.out.2.1];simp) (by show L2.size <= 16777216;rw [HL2.out.2.2];omega));go_wp2_with fail;refine AP.out.mono ?_;rintro _ w16 ⟨er,L4,X4,rfl,hls,hr,-,hk⟩;obtain ⟨rfl,rfl,rfl⟩:=zfp rfl hr;have H16:=qq hls;have HB16:=qq (HB15.out.keeps hk (fun k e f=>e.elim (fun e=>by have:=f.1;omega) (fun e=>f.2 e)));clear hls hr hk AP H15 HB15;go_wp2_with fail;refine (z00 19 w16).mono ?_;rintro _ _ ⟨rfl,rfl⟩;have AP:=qq (z1e H16.out HB16.out (by have:=PX3.out;omega) (by show L2.segments < 1000000;rw [HL2.out.1];omega) (by show L2.recs.length < 4000000000000;rw [HL2.out.2.1];simp) (by show L2.size <= 16777216;rw [HL2.out.2.2];omega));go_wp2_with fail;refine AP.out.mono ?_;rintro _ w17 ⟨er,L4,X4,rfl,hls,hr,-,hk⟩;obtain ⟨rfl,rfl,rfl⟩:=z86 (by rw [List.length_replicate];have:=hN2.out;omega) hr;have H17:=qq hls;clear hls hr hk AP H16 HB16;go_wp2_with fail;refine (z00 3 w17).mono ?_;rintro _ _ ⟨rfl,rfl⟩;have TN:=qq (z4z H17.out (v:=.slice none 0 0) (bs:=[]) (Bytes.nil _ _) (by have:=PX3.out;omega));go_wp2_with fail;refine TN.out.mono ?_;rintro _ w18 ⟨er,L4,X4,rfl,hls,hr,-,hk⟩;obtain ⟨rfl,rfl,rfl⟩:=zf8 rfl (Nat.zero_le _) hr;have H18:=qq hls;clear hls hr hk TN H17;go_wp2_with fail;refine (z00 19 w18).mono ?_;rintro _ _ ⟨rfl,rfl⟩;have RO:=qq (zfg H18.out);go_wp2_with fail;refine RO.out.mono ?_;rintro _ _ ⟨rfl,rfl⟩;have OP:=qq (z3m H18.out.disk sa 1 z0h z0g (by omega) (by omega) (by have:=PX3.out;omega));clear RO H18;go_wp2_with fail;refine OP.out.mono ?_;rintro _ w19 ⟨er,L5,X5,hr,hp,-,hc⟩;obtain ⟨rfl,hnb⟩:=zcs GB.out hr;obtain ⟨-,y,rfl,hls⟩:=hc.resolve_right fun h=>h.1 rfl;have H19:=qq hls;have RO:=zfg hls;rw [hnb] at RO;replace RO:=qq RO;clear hr hp hc hls hnb OP GB PX3;go_wp2_with fail;refine (z00 0 w19).mono ?_;rintro _ _ ⟨rfl,rfl⟩;go_wp2_with fail;refine RO.out.mono ?_;rintro _ _ ⟨rfl,rfl⟩;clear RO;go_wp2_with fail;refine (z5h (.inl rfl)).mono ?_;rintro _ w20 ⟨rfl,k20⟩;have H20:=qq (H19.out.nb k20);clear k20 H19;go_wp2_with (first | go_skip | (with_reducible refine qv (by decide) ?_))
 refine za (zi rfl (zd4 (v:=.agg #[.pointer none,.string ByteArray.empty,.int .i64 0,.int .i64 0,.int .i64 0,.int .i64 0,.int .i64 0,.slice none 0 0,.bool false,.slice none 0 0,.int .i64 0,.bool false]) (by rfl)) ?_);rintro _ w21 ⟨g21,rfl,n21⟩;simp only [Nat.reduceAdd,qn];have H21:=qq (H20.out.nb n21.k);have ON:=qq (z5h (w:=w21) (v:=.pointer (some ⟨g21,0,none⟩)) (.inr ⟨g21,_,rfl,n21.blk,rfl⟩));clear n21 H20;go_wp2_with fail;refine ON.out.mono ?_;rintro _ w22 ⟨rfl,k22⟩;have H22:=qq (H21.out.nb k22);clear k22 H21 ON;go_wp2_with fail;refine (ze7 w22 H22.out.vars (Nat.le_trans H6.out H22.out.k.size)).mono ?_;rintro _ wk ⟨rfl,kk⟩;go_wp2;go_ret;exact ⟨rfl,H22.out.k.trans_nb kk⟩
theorem walk (w:World) (hv:Vars w) (h6:6 <= w.heap.size) :
  Calls Tryz.prog 9 #[] w fun e w'=>e=.returned (.bool true) /\ Below w.heap.size w w':=by
 refine (body w hv h6).mono ?_;rintro e w' ⟨h1,h2⟩;exact ⟨h1,h2.below⟩
end Go.Proofs.YtpjomdmjohjheaaGreatDoor.logNil
end
