import Derived.Test.YtpjomdmjohjheaaGreatDoorY4
set_option linter.unusedVariables false
set_option linter.unusedSimpArgs false
set_option maxRecDepth 100000
set_option maxHeartbeats 8000000
section
namespace Go.Log
open Go.Vfs
variable {nm:ByteArray} {X Y Z:Ds} {P P':Sh -> Prop} {e:Int} {s t:ByteArray} {h g:Sh} {f:Dir} {fc:Nat -> Fl} {L L':Lg} {x:List Nat}
def Left (g:Sh) (all:List (List Nat)) (h:Sh):Prop:=h.sn=g.sn /\ h.closed ++ h.rs <+: all /\ g.closed.length + g.du <= h.closed.length + h.du
theorem z7w (g:Sh) (all:List (List Nat)) (ha:g.closed ++ g.rs <+: all):Left g all g:=⟨rfl,ha,Nat.le_refl _⟩
theorem z5r {g:Sh} (hd:g.du <= g.rs.length) {all:List (List Nat)} (ha:g.closed ++ g.rs <+: all):Left g all { g with du:=g.rs.length }:=⟨rfl,ha,by show _ <= g.closed.length + g.rs.length;omega⟩
theorem zcs {g:Sh} (hd:g.du <= g.rs.length) {all:List (List Nat)} (ha:g.closed ++ g.rs <+: all) (n b:Nat):Left g all (Sh.grow { g with du:=g.rs.length } n b):=by
 refine ⟨rfl,?_,?_⟩
 ·show (Sh.grow _ _ _).closed ++ [] <+: all;rw [z0s,List.append_nil];exact ha
 ·show _ <= (Sh.grow _ _ _).closed.length + 0;rw [z0s,List.length_append];show _ <= g.closed.length + g.rs.length + 0;omega
theorem zc6 (h:LI nm L X g) (hx:Recs [x]) (hr:appR L x X e L' Y) :
  (L'.bad=false /\ e=0 /\ L.segment <= L'.segment /\ L'.recs=L.recs ++ [x] /\ ∃ g',LI nm L' Y g' /\ g'.sn=g.sn /\ g.closed.length + g.du <= g'.closed.length + g'.du) \/
  (L'.bad=true /\ e ≠ 0 /\ L'.segment=L.segment /\ L'.synced=L.synced /\ In nm Y (Left g (L.recs ++ [x]))):=by
 have hxl:x.length <= mxr:=(hx x (by simp)).1;have hgd:g.du <= g.rs.length:=h.shape.lastd;have hpre:g.closed ++ g.rs <+: L.recs ++ [x]:=by rw [h.recs];exact List.prefix_append _ _
 rcases hr with ⟨h0,-⟩ | ⟨-,e1,Z,h1,h2⟩
 ·exact absurd (h.may hxl) h0
 rw [h.atseg] at h1;obtain ⟨s1,h3⟩:=z0k h1;rcases h3 with ⟨h3,h4⟩ | ⟨b,k,hb,hk,hk0,hf⟩
 ·
  rcases h2 with ⟨-,rfl,rfl,rfl⟩ | ⟨h5,-⟩ | ⟨h5,-⟩
  ·exact .inr ⟨rfl,h3,rfl,rfl,(h.inn.same s1 h4).mono fun q e=>by rw [e];exact z7w g _ hpre⟩
  ·exact absurd h5 h3
  ·exact absurd h5 h3
 obtain rfl:b=g.b:=Option.some.inj (hb.symm.trans h.shape.lastAt);have i1:In nm Z (·={ g with rs:=g.rs ++ [x],q:=g.q + k }):=h.inn.write s1 hf fun q f hq hsh=>by
  subst hq;exact ⟨_,rfl,hsh.append h.full hx (by rw [zw] at hk ⊢;exact hk)⟩
 rcases h2 with ⟨h5,rfl,rfl,rfl⟩ | ⟨rfl,h5,rfl,rfl,rfl⟩ | ⟨rfl,h5,h6⟩
 ·refine .inr ⟨rfl,h5,rfl,rfl,i1.mono fun q e=>?_⟩;subst e;refine ⟨rfl,?_,Nat.le_refl _⟩;show g.closed ++ (g.rs ++ [x]) <+: _;rw [<- List.append_assoc,<- h.recs];exact List.prefix_rfl
 all_goals
  have hkl:=hk0 rfl
  subst hkl;have hfull:g.q + (recd x).length=(enc (g.rs ++ [x])).length:=by rw [z1e,z1u,List.length_append,h.full]
 ·
  refine .inl ⟨h.nob,rfl,Nat.le_refl _,rfl,_,{ inn:=i1,full:=hfull,name:=h.name,nob:=h.nob,first:=h.first,seg:=h.seg,segs:=h.segs,size:=?_,recs:=?_,syn:=h.syn,snap:=h.snap },rfl,Nat.le_refl _⟩
  ·show L.size + _=g.q + _;rw [h.size,zw]
  ·show L.recs ++ [x]=g.closed ++ (g.rs ++ [x]);rw [h.recs,List.append_assoc]
 ·
  have l1:LI nm { L with recs:=L.recs ++ [x],size:=L.size + (8 + x.length) } Z { g with rs:=g.rs ++ [x],q:=g.q + (recd x).length }:=by
   refine { inn:=i1,full:=hfull,name:=h.name,nob:=h.nob,first:=h.first,seg:=h.seg,segs:=h.segs,size:=?_,recs:=?_,syn:=h.syn,snap:=h.snap }
   ·show L.size + _=g.q + _;rw [h.size,zw]
   ·show L.recs ++ [x]=g.closed ++ (g.rs ++ [x]);rw [h.recs,List.append_assoc]
  have hpr:g.closed ++ (g.rs ++ [x]) <+: L.recs ++ [x]:=by rw [<- List.append_assoc,<- h.recs];exact List.prefix_rfl
  have hle:g.du <= (g.rs ++ [x]).length:=by rw [List.length_append];omega
  rcases zek l1 h6 with ⟨rfl,b,rfl,h7⟩ | ⟨h7,rfl,h8⟩
  ·
   refine .inl ⟨h.nob,rfl,?_,rfl,_,h7,rfl,?_⟩
   ·show L.segment <= nx nm Z + 1;have:=l1.shape.nx.1;have e:L.segment=g.m:=h.seg;have:g.m <= nx nm Z:=this;omega
   ·show _ <= (Sh.grow _ _ _).closed.length + 0;rw [z0s,List.length_append];show _ <= g.closed.length + (g.rs ++ [x]).length + 0;omega
  ·
   refine .inr ⟨rfl,h7,rfl,rfl,h8.mono fun q hq=>?_⟩;rcases hq with rfl | rfl | ⟨n,b,rfl⟩
   ·exact ⟨rfl,hpr,Nat.le_refl _⟩
   ·exact z5r (g:={ g with rs:=g.rs ++ [x],q:=g.q + (recd x).length }) hle hpr
   ·exact zcs (g:={ g with rs:=g.rs ++ [x],q:=g.q + (recd x).length }) hle hpr n b
theorem zf3 {l:List ByteArray} (hi:∀ t ∈ l,∀ f fc h,P h -> Shape nm f fc h -> h.names nm t -> f t=none):∀ {X},In nm X P -> askO (l.map rmO) X e Y -> In nm Y P:=by
 induction l with
 | nil=>intro X h ha;obtain ⟨-,rfl⟩:=ha;exact h
 | cons t l ih =>
  intro X h ha;have step:∀ {e Z},rmO t X e Z -> In nm Z P:=fun hr=>by
   obtain ⟨h1,⟨-,h2,-⟩ | ⟨-,b,-,h2⟩⟩:=z1k hr
   ·exact h.same h2 h1
   ·exact h.rm h2 h1 fun f q hq hsh hn=>hi t (by simp) f _ q hq hsh hn
  rcases zj (o:=rmO t) (l:=l.map rmO) ha with ⟨-,h1⟩ | ⟨Z,h1,h2⟩
  ·exact step h1
  ·exact ih (fun t ht=>hi t (by simp [ht])) (step h1) h2
theorem zbx (h:LI nm L X g) (hx:Recs [x]) (hr:turnR L x X e L' Y) :
  (e=0 /\ ∃ s n bm bs b,L'={ L with snap:=x,has:=true,recs:=[],synced:=0,first:=n,segment:=n,segments:=1,size:=0 } /\ LI nm L' Y (Sh.new s n x bm bs b) /\ L.segment <= n) \/
  (e ≠ 0 /\ L'={ L with bad:=true } /\ In nm Y fun q=>Left g L.recs q \/ q.sn=some x /\ q.closed=[] /\ q.rs=[]):=by
 have hxl:x.length <= mxr:=(hx x (by simp)).1;rcases hr with ⟨h0,-⟩ | ⟨-,h1,h2⟩
 ·exact absurd (h.may hxl) h0
 rw [h.atseg] at h1;obtain rfl:nm=L.name:=h.name.symm;have hgd:g.du <= g.rs.length:=h.shape.lastd;have hpre:g.closed ++ g.rs <+: L.recs:=by rw [h.recs];exact List.prefix_rfl
 have bad:∀ {P:Sh -> Prop},e ≠ 0 -> In L.name Y P -> (∀ h,P h -> Left g L.recs h \/ h.sn=some x /\ h.closed=[] /\ h.rs=[]) -> (e=0 /\ ∃ s n bm bs b,L'={ L with snap:=x,has:=true,recs:=[],synced:=0,first:=n,segment:=n,segments:=1,size:=0 } /\ LI L.name L' Y (Sh.new s n x bm bs b) /\ L.segment <= n) \/
   (e ≠ 0 /\ L'={ L with bad:=true } /\ In L.name Y fun q=>Left g L.recs q \/ q.sn=some x /\ q.closed=[] /\ q.rs=[]):=fun h0 hi hP=>by
  rcases h2 with ⟨-,h2⟩ | ⟨h2,-⟩
  ·exact .inr ⟨h0,h2,hi.mono hP⟩
  ·exact absurd h2 h0
 rcases zj h1 with ⟨h0,h1⟩ | ⟨Z1,h1,hk⟩
 ·
  obtain ⟨q1,⟨-,q2⟩ | ⟨q2,-⟩⟩:=z0b h1
  ·exact bad h0 (h.inn.same q1 q2) fun _ e=>.inl (e ▸ z7w g _ hpre)
  ·exact absurd q2 h0
 obtain ⟨i1,s1⟩:=h.inn.synced h.full h1;obtain ⟨g1,hg1⟩:∃ g1,g1=({ g with du:=g.rs.length }:Sh):=⟨_,rfl⟩
 have lg1:Left g L.recs g1:=hg1 ▸ z5r hgd hpre;have q1:g1.q=(enc g1.rs).length:=by rw [hg1];exact h.full
 have du1:g1.du=g1.rs.length:=by rw [hg1]
 have m1:g1.m=L.segment:=by rw [hg1];exact h.seg.symm
 rw [<- hg1] at i1;have sh1:Shape L.name Z1.dir Z1.fc g1:=by obtain ⟨q,rfl,hq⟩:=i1.live;exact hq
 have n1:nx L.name Z1=nx L.name X:=z5i s1;clear h1 hg1;rcases zj hk with ⟨h0,-,h1⟩ | ⟨Z2,⟨h1,e2⟩,hk2⟩
 ·subst h1;exact bad h0 i1 fun _ e=>.inl (e ▸ lg1)
 clear hk;subst e2;have hlt:nx L.name X + 1 < mxn:=by
  unfold turnE at h1;split at h1
  ·cases h1
  ·omega
 obtain ⟨k,hk⟩:∃ k,nx L.name X + 1=k:=⟨_,rfl⟩
 have hk':nx L.name X + 2=k + 1:=by omega
 rw [hk,hk'] at hk2;rw [hk'] at h2;have hmm:=sh1.nx;rw [n1] at hmm;have hno:∀ j,k <= j -> j <= mxn -> Z2.dir (sgf L.name j)=none:=fun j h3 h4=>(z4c (nm:=L.name) (by rw [n1];omega) h4).1;have kk:1 <= k /\ k + 1 <= mxn /\ g1.m < k /\ g1.s < k:=by omega
 clear n1 hmm h1 hlt hk hk';have irr:∀ f fc q,q=g1 -> Shape L.name f fc q -> ¬ q.names L.name (snf L.name k):=fun f fc q e hsh=>by
  subst e;exact zcw kk.1 (by omega) (by omega) hsh.s1 hsh.f1
 rcases zj hk2 with ⟨h0,h3⟩ | ⟨Z3,h3,hk3⟩
 ·exact bad h0 (z6m i1 irr h3).1 fun _ e=>.inl (e ▸ lg1)
 obtain ⟨hn3,b1,hb1,i3,d3,f3,f3'⟩:=(z6m i1 irr h3).2 rfl;have i3':In L.name Z3 (·=g1):=i3.mono fun _ e=>e.1;clear h3 irr hk2;rcases zj hk3 with ⟨h0,h4⟩ | ⟨Z4,h4,hk4⟩
 ·
  rcases z0g h4 with ⟨-,q1,q2⟩ | ⟨q1,-⟩
  ·exact bad h0 (i3'.same q1 q2) fun _ e=>.inl (e ▸ lg1)
  ·exact absurd q1 h0
 rcases z0g h4 with ⟨q1,-⟩ | ⟨-,hn4,-,b2,hb2,hd4,hf4⟩
 ·exact absurd rfl q1
 have i4:=(i3'.grow q1 du1 (n:=k + 1) (by omega) kk.2.1 hb2 hn4 hd4 hf4).mono fun _ e=>e.1;have d4:Z4.dir=Dir.put Z3.dir (sgf L.name (k + 1)) b2:=by unfold Ds.dir;rw [hd4.files,z0d hn4]
 have hb21:b1 ≠ b2:=hb2 b1 (.inl ⟨_,zq (show flook Z3.D.files (snf L.name k)=some b1 by show Z3.dir _=_;rw [d3];exact if_pos rfl),rfl⟩);have f4:Z4.fc b2=⟨[],0⟩:=by rw [hf4];exact if_pos rfl
 have f4':Z4.fc b1=⟨recd x,(recd x).length⟩:=by rw [hf4];exact (if_neg hb21).trans f3
 have kn:∀ j,1 <= j -> j <= mxn -> sgf L.name j ≠ snf L.name k:=fun j h3 h4=>z2v L.name h3 h4;have d4s:Z4.dir (snf L.name k)=some b1:=by
  rw [d4];show (if snf L.name k=sgf L.name (k + 1) then _ else Z3.dir _)=_;rw [if_neg (fun e=>kn (k + 1) (by omega) kk.2.1 e.symm),d3];exact if_pos rfl
 have d4g:Z4.dir (sgf L.name (k + 1))=some b2:=by rw [d4];exact if_pos rfl
 have d4n:∀ j,k + 1 < j -> j <= mxn -> Z4.dir (sgf L.name j)=none:=fun j h5 h6=>by
  rw [d4];show (if sgf L.name j=sgf L.name (k + 1) then _ else Z3.dir _)=_;rw [if_neg (fun e=>by have:=z7k L.name (by omega) h6 (by omega) kk.2.1 e;omega),d3];show (if sgf L.name j=snf L.name k then _ else Z2.dir _)=_;rw [if_neg (kn j (by omega) h6)];exact hno j (by omega) h6
 clear hd4 hf4 h4 hn4 d4 i3 i3' d3 f3 f3' hn3 hb1 hb2 hno hk3;have nw:∀ b fc,(∀ t c,t ≠ newf L.name -> Z4.dir t=some c -> c ≠ b) -> fc b=⟨recd (mrec k (k + 1)),(recd (mrec k (k + 1))).length⟩ -> (∀ c,c ≠ b -> fc c=Z4.fc c) -> Shape L.name (manD L.name Z4.dir b) fc (Sh.new k (k + 1) x b b1 b2):=fun b fc h3 h5 h6=>by
  have at':∀ t,t ≠ manf L.name -> t ≠ newf L.name -> manD L.name Z4.dir b t=Z4.dir t:=fun t h7 h8=>by unfold manD;rw [if_neg h7,if_neg h8]
  have n1:=z6v L.name kk.1 (show k <= mxn by omega);have n2:=z6w L.name kk.1 (show k <= mxn by omega);have n3:∀ j,1 <= j -> j <= mxn -> sgf L.name j ≠ manf L.name:=fun j a c=>z2t L.name a c;have n4:∀ j,1 <= j -> j <= mxn -> sgf L.name j ≠ newf L.name:=fun j a c=>z2u L.name a c;have e1:b1 ≠ b:=h3 _ _ n2 d4s;have e2:b2 ≠ b:=h3 _ _ (n4 _ (by omega) kk.2.1) d4g
  exact Shape.new kk.1 (by omega) (by omega) kk.2.1 hx (if_pos rfl) h5 ((at' _ n1 n2).trans d4s) ((h6 b1 e1).trans f4') ((at' _ (n3 _ (by omega) kk.2.1) (n4 _ (by omega) kk.2.1)).trans d4g) ((h6 b2 e2).trans f4)
   (fun j a c=>(at' _ (n3 j (by omega) c) (n4 j (by omega) c)).trans (d4n j a c)) e2 (fun e=>hb21 e.symm)
 have mi:∀ {e Z},manO L.name k (k + 1) Z4 e Z -> _:=fun {e Z} hm=>man_in (P':=fun h=>(h=g1 \/ h=g1.grow (k + 1) b2) \/ ∃ b,h=Sh.new k (k + 1) x b b1 b2) i4 (fun _ e=>.inl e) hm fun b fc h3 h5 h6=>⟨_,.inr ⟨b,rfl⟩,nw b fc h3 h5 h6⟩
 have lgg:Left g L.recs (g1.grow (k + 1) b2):=by
  refine ⟨lg1.1,?_,?_⟩
  ·show (Sh.grow _ _ _).closed ++ [] <+: _;rw [z0s,List.append_nil];exact lg1.2.1
  ·show _ <= (Sh.grow _ _ _).closed.length + 0;rw [z0s,List.length_append];have:=lg1.2.2;rw [du1] at this;omega
 rcases zj hk4 with ⟨h0,h5⟩ | ⟨Z5,h5,hk5⟩
 ·
  refine bad h0 (mi h5).1 fun q hq=>?_;rcases hq with (rfl | rfl) | ⟨b,rfl⟩
  ·exact .inl lg1
  ·exact .inl lgg
  ·exact .inr ⟨rfl,rfl,rfl⟩
 obtain ⟨b3,hb3,d5,f5,f5',r5⟩:=(mi h5).2 rfl;have i5:In L.name Z5 (·=Sh.new k (k + 1) x b3 b1 b2):=⟨(mi h5).1.wf,fun f hf=>⟨_,rfl,by rw [r5 f hf,d5];exact nw b3 _ hb3 f5 f5'⟩⟩
 have i6:∀ {e Z},sweepO L.name k (k + 1) Z5 e Z -> In L.name Z (·=Sh.new k (k + 1) x b3 b1 b2):=fun {e Z} hw=>by
  obtain ⟨ns,-,hw⟩:=hw;refine zf3 (fun t ht f fc q hq hsh hn=>?_) i5 hw;subst hq;have hsw:=(List.mem_filter.1 ht).2;simp only [swept,Bool.and_eq_true,Bool.not_eq_true',Bool.or_eq_false_iff,decide_eq_false_iff_not] at hsw;obtain ⟨-,⟨h6,h7⟩,h8⟩:=hsw;rcases hn with e | ⟨-,e⟩ | ⟨j,j1,j2,e⟩
  ·exact absurd e h6
  ·exact absurd e h7
  ·subst e;have j1':k + 1 <= j:=j1;have:j ≠ k + 1:=fun e=>h8 (by rw [e]);rw [hsh.segs j j1 j2];exact z7t (l:=[(k + 1,b2)]) (fun p hp=>by rw [List.mem_singleton.1 hp];exact fun e=>this e.symm)
 clear mi nw hb3 d5 f5 f5' r5 h5 hk4;have h7:=i6 (z04 hk5);by_cases h0:e=0
 ·
  subst h0;rcases h2 with ⟨h2,-⟩ | ⟨-,h2⟩
  ·exact absurd rfl h2
  refine .inl ⟨rfl,k,k + 1,b3,b1,b2,h2,?_,by omega⟩;subst h2;exact { inn:=h7,full:=rfl,name:=rfl,nob:=h.nob,first:=rfl,seg:=rfl,segs:=rfl,size:=rfl,recs:=rfl,syn:=Nat.le_refl _,snap:=.inr ⟨x,rfl,rfl,rfl⟩ }
 ·exact bad h0 h7 fun q hq=>by subst hq;exact .inr ⟨rfl,rfl,rfl⟩
end Go.Log
end
section
namespace Go.Log
open Go.Vfs
open Go.Proofs.YtpjomdmjohjheaaGreatDoor (readOf)
variable {nm:ByteArray} {X Y Z:Ds} {P P':Sh -> Prop} {e:Int} {s t:ByteArray} {h g:Sh} {f:Dir} {fc:Nat -> Fl} {L L':Lg} {x:List Nat}
theorem flook_mem' {l:List (ByteArray × Nat)} {b:Nat} (hn:(l.map Prod.fst).Nodup) (h:(s,b) ∈ l):flook l s=some b:=by
 induction l with
 | nil=>cases h
 | cons p l ih =>
  rw [List.map_cons,List.nodup_cons] at hn;rw [z08];rcases List.mem_cons.1 h with h | h
  ·subst h;simp
  ·have hne:p.1 ≠ s:=fun e=>hn.1 (e ▸ List.mem_map.2 ⟨_,h,rfl⟩);rw [if_neg hne];exact ih hn.2 h
theorem z6b {l l':List (ByteArray × Nat)} (hn:(l.map Prod.fst).Nodup) (hp:l'.Perm l):flook l'=flook l:=by
 funext t;have hn':(l'.map Prod.fst).Nodup:=(hp.map Prod.fst).nodup_iff.2 hn;cases e:flook l' t with
 | some b=>exact (flook_mem' hn (hp.mem_iff.1 (zq e))).symm
 | none =>
  cases e2:flook l t with
  | none=>rfl
  | some b=>rw [flook_mem' hn' (hp.mem_iff.2 (zq e2))] at e;cases e
def Sh.move (h:Sh) (v:Nat -> Nat) (q:Nat):Sh:={ h with bm:=v h.bm,bs:=v h.bs,cl:=h.cl.map fun c=>(c.1,v c.2.1,c.2.2),b:=v h.b,q:=q }
theorem z9o (h:Sh) (v:Nat -> Nat) (q:Nat):(h.move v q).closed=h.closed:=by
 unfold Sh.move Sh.closed;simp only [List.flatMap_def,List.map_map];rfl
theorem z5w (h:Sh) (v:Nat -> Nat) (q:Nat):(h.move v q).tab=h.tab.map fun p=>(p.1,v p.2):=by
 unfold Sh.move Sh.tab;simp only [List.map_append,List.map_map];rfl
theorem Shape.move (hs:Shape nm f fc h) (v:Nat -> Nat) {f':Dir} {fc':Nat -> Fl} (hf:∀ t,f' t=(f t).map v) (hv:∀ t t' b b',f t=some b -> f t'=some b' -> v b=v b' -> b=b')
  (hc:∀ t b,f t=some b -> ∃ n,(fc b).lasts <= n /\ n <= (fc b).b.length /\ fc' (v b)=⟨(fc b).b.take n,n⟩):∃ q,Shape nm f' fc' (h.move v q):=by
 have full:∀ t b l,f t=some b -> fc b=⟨l,l.length⟩ -> fc' (v b)=⟨l,l.length⟩:=fun t b l hb hl=>by
  obtain ⟨n,h1,h2,h3⟩:=hc t b hb;rw [hl] at h1 h2 h3;simp only at h1 h2 h3;have:n=l.length:=by omega
  subst this;rw [List.take_length] at h3;exact h3
 obtain ⟨n,n1,n2,n3⟩:=hc _ _ hs.lastAt;have hl:(fc h.b).b.length=h.q:=by rw [hs.lastb,List.length_take];have:=hs.lastq;omega
 have hlast:=hs.lastAt;refine ⟨n,{ f1:=hs.f1,s1:=hs.s1,man:=?_,manc:=full _ _ _ hs.man hs.manc,snap:=?_,asc:=?_,rng:=?_,segs:=?_,clc:=?_,lastb:=?_,lastq:=?_,lastl:=?_,lastd:=hs.lastd,lastr:=hs.lastr,apart:=?_ }⟩
 ·rw [hf,hs.man];rfl
 ·exact hs.snap.imp id fun ⟨g1,y,g2,g3,g4,g5⟩=>⟨g1,y,g2,g3,by rw [hf];show (f (snf nm h.s)).map v=_;rw [g4];rfl,full _ _ _ g4 g5⟩
 ·rw [z5w,List.pairwise_map];exact hs.asc
 ·intro p hp;rw [z5w] at hp;obtain ⟨q,hq,rfl⟩:=List.mem_map.1 hp;exact hs.rng q hq
 ·intro k k1 k2;rw [hf,hs.segs k k1 k2];unfold Sh.blk;rw [z5w,List.find?_map,Option.map_map,Option.map_map];rfl
 ·intro c hc';obtain ⟨c0,h0,rfl⟩:=List.mem_map.1 (show c ∈ h.cl.map fun c=>(c.1,v c.2.1,c.2.2) from hc');exact ⟨full _ _ _ (hs.blkOf (mem_tab' h0)) (hs.clc c0 h0).1,(hs.clc c0 h0).2⟩
 ·show (fc' (v h.b)).b=(enc h.rs).take n;rw [n3,hs.lastb,List.take_take,Nat.min_eq_left (by omega)]
 ·show n <= (enc h.rs).length;have:=hs.lastq;omega
 ·show _ <= (fc' (v h.b)).lasts /\ (fc' (v h.b)).lasts <= n;rw [n3];have:=hs.lastl;exact ⟨by show (enc (h.rs.take h.du)).length <= n;omega,Nat.le_refl _⟩
 ·
  obtain ⟨a1,a2,a3⟩:=hs.apart;refine ⟨fun e=>a1 (hv _ _ _ _ hlast hs.man e),fun g1 e=>?_,fun c hc' e=>?_⟩
  ·
   rcases hs.snap with ⟨h0,-⟩ | ⟨-,y,-,-,g4,-⟩
   ·have:1 <= h.s:=g1;omega
   ·exact a2 g1 (hv _ _ _ _ hlast g4 e)
  ·obtain ⟨c0,h0,rfl⟩:=List.mem_map.1 (show c ∈ h.cl.map fun c=>(c.1,v c.2.1,c.2.2) from hc');exact a3 c0 h0 (hv _ _ _ _ (hs.blkOf (mem_tab' h0)) hlast e)
theorem z9j {zs:List Int} {D':Dk} {fc':Nat -> Fl} {φ:Nat -> Option Nat} {l2:List (ByteArray × Nat)} {bs:List Bool} (h:In nm X P) (hn:(X.D.lasting.map Prod.fst).Nodup) (hc:CrashR zs X.D X.fc D' fc' φ l2 bs) :
  ∃ f q v n,Rs X f /\ P q /\ Shape nm f X.fc q /\ In nm ⟨D',fc'⟩ (·=Sh.move q v n) /\ (∀ t,(⟨D',fc'⟩:Ds).dir t=(f t).map v):=by
 obtain ⟨p2,-,-,-,inj,all,eq,fcc⟩:=hc;have hf:flook (replay bs X.D.steps l2)=rep bs X.D.steps (flook X.D.lasting):=by rw [z4r,z6b hn p2]
 have hR:Rs X (flook (replay bs X.D.steps l2)):=⟨bs,hf⟩
 obtain ⟨q,h1,h2⟩:=h.all _ (.inr hR);have hd:∀ t,flook D'.files t=(flook (replay bs X.D.steps l2) t).map fun b=>(φ b).getD 0:=fun t=>by
  rw [eq];exact z4q _ _
 have hl:D'.lasting=D'.files:=by rw [eq];rfl
 have hs:D'.steps=[]:=by rw [eq];rfl
 have hrf:=(show Rch X _ from .inr hR).ref h.wf
 obtain ⟨n,h3⟩:=h2.move (fun b=>(φ b).getD 0) (f':=flook D'.files) (fc':=fc') hd (fun t t' b b' hb hb' e=>by
  obtain ⟨c,hc⟩:=Option.ne_none_iff_exists'.1 (all b (hrf t b hb));obtain ⟨c',hc'⟩:=Option.ne_none_iff_exists'.1 (all b' (hrf t' b' hb'));simp only [hc,hc',Option.getD_some] at e
  exact inj b b' c hc (e ▸ hc')) (fun t b hb=>fcc _ (zq hb))
 refine ⟨_,q,_,n,hR,h1,h2,⟨fun s hs'=>?_,fun f hf'=>⟨_,rfl,?_⟩⟩,hd⟩
 ·rw [hs] at hs';cases hs'
 ·
  have:f=flook D'.files:=by
   rcases hf' with hf' | ⟨bs',hf'⟩
   ·exact hf'
   ·
    have e:rep bs' D'.steps (flook D'.lasting)=flook D'.files:=by rw [hs,z8g,hl]
    exact hf'.trans e
  rw [this];exact h3
def Sh.trim (h:Sh) (j:Nat):Sh:={ h with rs:=h.rs.take j,q:=(enc (h.rs.take j)).length }
def Trims (P:Sh -> Prop):Prop:=∀ h j,P h -> h.du <= j -> j <= h.rs.length -> (enc (h.rs.take j)).length <= h.q -> P (h.trim j)
theorem z87 (fc:Nat -> Fl) {b:Nat} {x:Fl} (h:fc b=x):setf fc b x=fc:=by
 funext c;by_cases e:c=b
 ·rw [e,z0e,h]
 ·rw [z0f _ _ e]
theorem zdm {x:List Nat} (hx:Recs [x]):whole (recd x)=([x],(recd x).length,true):=by
 have:=z5d hx;rw [z1u] at this;exact this
theorem zcb {s n:Nat}:∀ x ∈ mrec s n,x < 256:=by
 intro x hx;unfold mrec at hx;rcases List.mem_append.1 hx with hx | hx
 ·exact z18 _ _ x hx
 ·exact z18 _ _ x hx
theorem z1v (s n:Nat):(mrec s n).length=16:=by unfold mrec;rw [List.length_append,zu,zu]
theorem z7z (s n:Nat):Recs [mrec s n]:=Recs.one (by rw [z1v];decide) zcb
theorem Shape.cutAny (hs:Shape nm f fc h) (b:Nat):∃ j,h.du <= j /\ j <= h.rs.length /\ (Shape nm f (setf fc b ⟨(fc b).b.take (whole (fc b).b).2.1,min (whole (fc b).b).2.1 (fc b).lasts⟩) h \/ (enc (h.rs.take j)).length <= h.q /\ Shape nm f (setf fc b ⟨(fc b).b.take (whole (fc b).b).2.1,min (whole (fc b).b).2.1 (fc b).lasts⟩) (h.trim j)):=by
 by_cases hb:h.blocks b
 ·
  have full:∀ l,fc b=⟨enc l,(enc l).length⟩ -> Recs l -> ∃ j,h.du <= j /\ j <= h.rs.length /\ (Shape nm f (setf fc b ⟨(fc b).b.take (whole (fc b).b).2.1,min (whole (fc b).b).2.1 (fc b).lasts⟩) h \/ (enc (h.rs.take j)).length <= h.q /\ Shape nm f (setf fc b ⟨(fc b).b.take (whole (fc b).b).2.1,min (whole (fc b).b).2.1 (fc b).lasts⟩) (h.trim j)):=fun l hl hr=>by
   refine ⟨h.rs.length,hs.lastd,Nat.le_refl _,.inl ?_⟩;have e:(⟨(fc b).b.take (whole (fc b).b).2.1,min (whole (fc b).b).2.1 (fc b).lasts⟩:Fl)=fc b:=by
    rw [hl];simp only [z5d hr,List.take_length,Nat.min_self]
   rw [e,z87 fc rfl];exact hs
  by_cases e:b=h.b
  ·subst e;obtain ⟨j,h1,h2,h3,h4,h5,-⟩:=hs.wholes;refine ⟨j,h1,h2,.inr ⟨by omega,?_⟩⟩;rw [h3];exact hs.cut h1 h2 h4
  ·
   rcases hb with rfl | ⟨g1,rfl⟩ | ⟨c,hc,rfl⟩ | rfl
   ·exact full [mrec h.s h.first] (by rw [z1u];exact hs.manc) (z7z _ _)
   ·
    rcases hs.snap with ⟨h0,-⟩ | ⟨-,y,-,g3,-,g5⟩
    ·omega
    ·exact full [y] (by rw [z1u];exact g5) g3
   ·exact full _ (hs.clc c hc).1 (hs.clc c hc).2
   ·exact absurd rfl e
 ·exact ⟨h.rs.length,hs.lastd,Nat.le_refl _,.inl (hs.setOther _ hb)⟩
theorem Shape.syncAny (hs:Shape nm f fc h) (b:Nat):Shape nm f (setf fc b ⟨(fc b).b,(fc b).b.length⟩) h:=by
 by_cases hb:h.blocks b
 ·
  have full:∀ l:List Nat,fc b=⟨l,l.length⟩ -> Shape nm f (setf fc b ⟨(fc b).b,(fc b).b.length⟩) h:=fun l hl=>by
   rw [z87 fc (by rw [hl])];exact hs
  by_cases e:b=h.b
  ·
   subst e;have hl:(fc h.b).b.length=h.q:=by rw [hs.lastb,List.length_take];have:=hs.lastq;omega
   have h1:=hs.setLast ⟨(fc h.b).b,(fc h.b).b.length⟩ h.rs h.q h.du hs.lastb hs.lastq ⟨by show _ <= (fc h.b).b.length;have:=hs.lastl;omega,by show (fc h.b).b.length <= _;omega⟩ hs.lastd hs.lastr;exact h1
  ·
   rcases hb with rfl | ⟨g1,rfl⟩ | ⟨c,hc,rfl⟩ | rfl
   ·exact full _ hs.manc
   ·
    rcases hs.snap with ⟨h0,-⟩ | ⟨-,y,-,g3,-,g5⟩
    ·omega
    ·exact full _ g5
   ·exact full _ (hs.clc c hc).1
   ·exact absurd rfl e
 ·exact hs.setOther _ hb
end Go.Log
end
section
namespace Go.Log
open Go.Vfs
open Go.Proofs.YtpjomdmjohjheaaGreatDoor (readOf)
variable {nm:ByteArray} {X Y Z:Ds} {P P':Sh -> Prop} {e:Int} {s t:ByteArray} {h g:Sh} {f:Dir} {fc:Nat -> Fl} {L L':Lg} {x:List Nat} {most:Nat}
theorem z3q {b:Nat} (hm:mnB s=true) (h:X.dir s=some b):readOf X.D X.fc s=((X.fc b).b,0):=by
 have e:found X.D s=(some b,0):=by
  unfold found;rw [if_pos hm,show flook X.D.files s=some b from h]
 unfold readOf;rw [e]
theorem z81 {b:Nat} (hm:mnB s=true) (h:X.dir s=some b) (hx:Recs [x]) (hc:(X.fc b).b=recd x):oneR X s=some x:=by
 unfold oneR;rw [z3q hm h,hc,zdm hx];simp
theorem zcu {s n:Nat} (hs:s <= mxn) (h1:1 <= n) (hn:n <= mxn):manN (mrec s n)=some (s,n):=by
 have e1:(mrec s n).take 8=be 8 s:=by unfold mrec;rw [List.take_left' (zu _ _)]
 have e2:(mrec s n).drop 8=be 8 n:=by unfold mrec;rw [List.drop_left' (zu _ _)]
 have m:∀ k,k <= mxn -> k % 256 ^ 8=k:=fun k hk=>Nat.mod_eq_of_lt (by unfold mxn at hk;omega);unfold manN;rw [e1,e2,z3x,z3x,m s hs,m n hn,z1v];rw [if_pos ⟨rfl,hs,h1,hn⟩]
theorem zgh {l:List Nat} {T:List Nat} (hT:T.Pairwise (· < ·)) (hl:l.Pairwise (· <= ·)) (hn:l.Nodup) (hm:∀ k,k ∈ l ↔ k ∈ T):l=T:=by
 have nT:T.Nodup:=hT.imp (fun h=>by omega);have hp:l.Perm T:=(List.perm_ext_iff_of_nodup hn nT).2 hm;exact hp.eq_of_pairwise (le:=(· <= ·)) (fun a b _ _ h1 h2=>by omega) hl (hT.imp (fun h=>by omega))
theorem zh2 (hs:Shape nm X.dir X.fc h) (hnd:(X.D.files.map Prod.fst).Nodup) {ns:List Nat} (hN:SegsOf nm h.first X ns):ns=h.tab.map Prod.fst:=by
 obtain ⟨h1,h2⟩:=hN;have f1:=hs.f1;have hF:((((X.D.files.map Prod.fst).map (sgn nm)).filter fun n=>decide (h.first <= n))).Nodup:=by
  rw [List.filter_map];refine List.pairwise_map.2 ?_;have hnf:((X.D.files.map Prod.fst).filter ((fun n=>decide (h.first <= n)) ∘ sgn nm)).Nodup:=hnd.sublist List.filter_sublist;refine List.Pairwise.imp_of_mem (fun {a b} ha hb hne e=>hne ?_) hnf;have ha':h.first <= sgn nm a:=by simpa using (List.mem_filter.1 ha).2
  have hb':h.first <= sgn nm b:=by simpa using (List.mem_filter.1 hb).2
  rw [(z3f (nm:=nm) (s:=a) (by omega)).1,(z3f (nm:=nm) (s:=b) (by omega)).1,e]
 refine zgh (List.pairwise_map.2 hs.asc) h1 (h2.nodup_iff.2 hF) (fun k=>?_);rw [h2.mem_iff,List.mem_filter];constructor
 ·
  rintro ⟨hk,hk2⟩;obtain ⟨s,hs1,rfl⟩:=List.mem_map.1 hk;have hk':h.first <= sgn nm s:=by simpa using hk2
  obtain ⟨e1,e2,e3⟩:=z3f (nm:=nm) (s:=s) (by omega);obtain ⟨b,hb⟩:=z1c hs1;have hb':X.dir (sgf nm (sgn nm s))=some b:=by rw [<- e1];exact hb
  rw [hs.segs _ hk' e3] at hb';exact List.mem_map.2 ⟨_,ze1 hb',rfl⟩
 ·intro hk;obtain ⟨p,hp,rfl⟩:=List.mem_map.1 hk;have hr:=hs.rng p hp;have hb:=hs.blkOf (k:=p.1) (x:=p.2) hp;refine ⟨List.mem_map.2 ⟨_,z77 hb,z1n nm (by omega) hr.2⟩,by simpa using hr.1⟩
theorem z6p {ms:List Nat} (hne:ms ≠ []) (hm:∀ k,k <= mxn -> mnB (sgf nm k)=true):∀ (cl:List (Nat × Nat × List (List Nat))) (L:Lg) (e:Nat),L.name=nm -> (∀ c ∈ cl,c.1 <= mxn /\ X.dir (sgf nm c.1)=some c.2.1 /\ (X.fc c.2.1).b=enc c.2.2 /\ Recs c.2.2) ->
  ∃ L' e',rdl X (cl.map (fun c=>c.1) ++ ms) L e=rdl X ms L' e' /\ ∃ k q,L'={ L with recs:=L.recs ++ cl.flatMap (fun c=>c.2.2),segment:=k,size:=q }
 | [],L,e,_,_=>⟨L,e,rfl,L.segment,L.size,by simp⟩
 | c :: cl,L,e,hL,hc=>by
  obtain ⟨h1,h2,h3,h4⟩:=hc c (by simp);obtain ⟨L',e',h5,k,q,h6⟩:=z6p hne hm cl { L with recs:=L.recs ++ c.2.2,segment:=c.1,size:=(enc c.2.2).length } (enc c.2.2).length hL (fun c' hc'=>hc c' (by simp [hc']));refine ⟨L',e',?_,k,q,?_⟩
  ·obtain rfl:=hL;rw [List.map_cons,List.cons_append];show (if _ then _ else _)=_;rw [z3q (hm _ h1) h2,h3,z5d h4,if_pos ⟨rfl,.inl (Nat.le_refl _)⟩];exact h5
  ·rw [h6];simp
theorem zgq (hs:Shape nm X.dir X.fc h) (hn:mnB nm=true) (h16:nm.size <= 16) (hnd:(X.D.files.map Prod.fst).Nodup) {r:Option (Lg × Nat)} (hr:readR X { lg0 nm most with first:=h.first } h.s r) :
  ∃ j,h.du <= j /\ j <= h.rs.length /\ (h.q=(enc h.rs).length -> j=h.rs.length) /\ (X.fc h.b).b.length=h.q /\ (whole (X.fc h.b).b).2.1=(enc (h.rs.take j)).length /\ (enc (h.rs.take j)).length <= h.q /\
   r=some ({ lg0 nm most with first:=h.first,segment:=h.m,segments:=h.cl.length + 1,size:=h.q,snap:=h.sn.getD [],has:=h.sn.isSome,recs:=h.closed ++ h.rs.take j },(enc (h.rs.take j)).length):=by
 obtain ⟨j,h1,h2,h3,h4,h5,h6⟩:=hs.wholes;refine ⟨j,h1,h2,h6,h5,by rw [h3],by omega,?_⟩;have hmn:∀ k,k <= mxn -> mnB (sgf nm k)=true:=fun k hk=>z0n hn h16 hk
 have key:∀ L1:Lg,L1.name=nm -> L1.first=h.first -> L1.recs=[] -> (∃ ns,SegsOf L1.name L1.first X ns /\ r=if ns=[] then none else (rdl X ns L1 0).map fun p=>({ p.1 with segments:=ns.length },p.2)) ->
   r=some ({ L1 with segment:=h.m,segments:=h.cl.length + 1,size:=h.q,recs:=h.closed ++ h.rs.take j },(enc (h.rs.take j)).length):=by
  rintro L1 e1 e2 e3 ⟨ns,hN,hr⟩;rw [e1,e2] at hN;have hns:=zh2 hs hnd hN;have hns':ns=h.cl.map (fun c=>c.1) ++ [h.m]:=by rw [hns];unfold Sh.tab;rw [List.map_append,List.map_map];rfl
  have hlen:ns.length=h.cl.length + 1:=by rw [hns'];simp
  have hmm:=hs.m1;rw [hr,if_neg (by intro e;rw [e] at hlen;simp at hlen),hns']
  obtain ⟨L',e',h7,k,q,h8⟩:=z6p (X:=X) (ms:=[h.m]) (by simp) hmn h.cl L1 0 e1 (fun c hc=>by
   have hp:=mem_tab' hc;have:=hs.rng _ hp
   exact ⟨this.2,hs.blkOf hp,by rw [(hs.clc c hc).1],(hs.clc c hc).2⟩)
  have hL':L'.name=nm:=by rw [h8];exact e1
  have e9:rdl X [h.m] L' e'=some ({ L' with recs:=L'.recs ++ h.rs.take j,segment:=h.m,size:=h.q },(enc (h.rs.take j)).length):=by
   show (if _ then _ else _)=_;rw [hL',z3q (hmn _ hmm.2) hs.lastAt,h3,if_pos ⟨rfl,.inr rfl⟩,<- h5];rfl
  rw [h7,e9,<- hns',hlen,h8,e3];simp [Sh.closed]
 unfold readR snapR at hr;rcases hs.snap with ⟨h0,h0'⟩ | ⟨h0,y,h7,h8,h9,h10⟩
 ·rw [if_pos h0] at hr;have:=key _ rfl rfl rfl hr;rw [this,h0'];rfl
 ·rw [if_neg (by omega),show ({ lg0 nm most with first:=h.first }:Lg).name=nm from rfl,z81 (z5h hn h16 hs.s1) h9 h8 (by rw [h10])] at hr;have:=key _ rfl rfl rfl hr;rw [this,h7];rfl
theorem zbh (hn:mnB nm=true) (h16:nm.size <= 16) (hnd:(X.D.files.map Prod.fst).Nodup) (hi:In nm X P) (hP:Trims P) (hr:openR nm most X e L Y) :
  ∃ h j,P h /\ Shape nm X.dir X.fc h /\ h.du <= j /\ j <= h.rs.length /\ (h.q=(enc h.rs).length -> j=h.rs.length) /\ In nm Y P /\
   (∃ en,(X.fc h.b).b.length=h.q /\ en=(enc (h.rs.take j)).length /\ en <= h.q /\ X.dir (sgf nm h.m)=some h.b /\ askO [if h.q=en then nop else cuO (sgf nm h.m) en,syO (sgf nm h.m),sdO] X e Y) /\
   (e=0 -> LI nm L Y { h.trim j with du:=j } /\ L.synced=L.recs.length /\ L.most=most):=by
 obtain ⟨h,hPh,hs⟩:=hi.live;have hman:oneR X (manf nm)=some (mrec h.s h.first):=z81 (z2z hn h16) hs.man (z7z _ _) (by rw [hs.manc]);have hfn:h.first <= mxn:=by have:=hs.m1;omega
 have hbind:(oneR X (manf nm)).bind manN=some (h.s,h.first):=by rw [hman];exact zcu hs.s1 hs.f1 hfn
 rcases hr with ⟨h0,-⟩ | ⟨b,-,h0,-⟩ | ⟨b,s,n,r,-,h0,hr,hq⟩
 ·rw [show flook X.D.files (manf nm)=some h.bm from hs.man] at h0;cases h0
 ·rw [hbind] at h0;cases h0
 rw [hbind] at h0;cases h0;obtain ⟨j,h1,h2,h3,h4,h5,h6,h7⟩:=zgq hs hn h16 hnd hr;rcases hq with ⟨h8,-⟩ | ⟨L1,en,h8,h9,h10⟩
 ·rw [h7] at h8;cases h8
 rw [h7] at h8;cases h8;have hmm:=hs.m1;obtain ⟨en,hen⟩:∃ en,(enc (h.rs.take j)).length=en:=⟨_,rfl⟩
 rw [hen] at h5 h6 h9 h10;have h9':askO [if h.q=en then nop else cuO (sgf nm h.m) en,syO (sgf nm h.m),sdO] X e Y:=h9;have hla:=hs.lastAt;have cutI:∀ {e Z},(if h.q=en then nop else cuO (sgf nm h.m) en) X e Z -> In nm Z P /\ Sm X Z /\ (e=0 -> Shape nm Z.dir Z.fc (h.trim j)):=fun {e Z} hc=>by
  by_cases he:h.q=en
  ·rw [if_pos he] at hc;obtain ⟨rfl,rfl⟩:=hc;exact ⟨hi,Sm.refl _,fun _=>hs.uncut h1 h2 (by rw [hen,h4,he])⟩
  ·
   rw [if_neg he] at hc;obtain ⟨s1,⟨e0,hf⟩ | ⟨rfl,b,hb,-,hf⟩⟩:=z3a hc
   ·exact ⟨hi.same s1 hf,s1,fun e1=>absurd e1 e0⟩
   ·
    obtain rfl:b=h.b:=Option.some.inj (hb.symm.trans hla);refine ⟨hi.write s1 hf fun q f hq hsh=>?_,s1,fun _=>?_⟩
    ·
     obtain ⟨i,i1,i2,i3⟩:=hsh.cutAny h.b;rw [h5] at i3;rcases i3 with i3 | ⟨i4,i3⟩
     ·exact ⟨q,hq,i3⟩
     ·exact ⟨_,hP q i hq i1 i2 i4,i3⟩
    ·rw [s1.dir,hf,<- hen];exact hs.cut h1 h2 (by rw [h4,hen];exact h6)
 have fin:∀ (hI:In nm Y P) (hL:e=0 -> LI nm L Y { h.trim j with du:=j } /\ L.synced=L.recs.length /\ L.most=most),_:=fun hI hL=>(⟨h,j,hPh,hs,h1,h2,h3,hI,⟨en,h4,hen.symm,h6,hla,h9'⟩,hL⟩:∃ h j,P h /\ Shape nm X.dir X.fc h /\ h.du <= j /\ j <= h.rs.length /\ (h.q=(enc h.rs).length -> j=h.rs.length) /\ In nm Y P /\
   (∃ en,(X.fc h.b).b.length=h.q /\ en=(enc (h.rs.take j)).length /\ en <= h.q /\ X.dir (sgf nm h.m)=some h.b /\ askO [if h.q=en then nop else cuO (sgf nm h.m) en,syO (sgf nm h.m),sdO] X e Y) /\
   (e=0 -> LI nm L Y { h.trim j with du:=j } /\ L.synced=L.recs.length /\ L.most=most))
 rcases zj h9' with ⟨e0,g1⟩ | ⟨Z1,g1,k1⟩
 ·exact fin (cutI g1).1 (fun e1=>absurd e1 e0)
 obtain ⟨i1,s1,sh1⟩:=cutI g1;have sh1:=sh1 rfl;have d1:Z1.dir (sgf nm h.m)=some h.b:=by rw [s1.dir];exact hla
 have syI:∀ {e Z},syO (sgf nm h.m) Z1 e Z -> In nm Z P /\ Sm Z1 Z /\ (e=0 -> Shape nm Z.dir Z.fc { h.trim j with du:=j }):=fun {e Z} hc=>by
  obtain ⟨s2,⟨e0,hf⟩ | ⟨rfl,b,hb,hf⟩⟩:=z0b hc
  ·exact ⟨i1.same s2 hf,s2,fun e1=>absurd e1 e0⟩
  ·
   obtain rfl:b=h.b:=Option.some.inj (hb.symm.trans d1);refine ⟨i1.write s2 hf fun q f hq hsh=>⟨q,hq,hsh.syncAny _⟩,s2,fun _=>?_⟩;rw [s2.dir,hf];have:=sh1.synced rfl;have e3:(h.trim j).rs.length=j:=by show (h.rs.take j).length=j;rw [List.length_take];omega
   rw [e3] at this;exact this
 rcases zj k1 with ⟨e0,g2⟩ | ⟨Z2,g2,k2⟩
 ·exact fin (syI g2).1 (fun e1=>absurd e1 e0)
 obtain ⟨i2,s2,sh2⟩:=syI g2;have sh2:=sh2 rfl;have g3:=z04 k2;obtain ⟨f3,⟨e0,s3⟩ | ⟨e0,a1,a2,a3,a4⟩⟩:=z0h g3
 ·exact fin (i2.same s3 f3) (fun e1=>absurd e1 e0)
 subst e0;have d3:Y.dir=Z2.dir:=by unfold Ds.dir;rw [a1]
 have w3:Wf Y:=by unfold Wf;rw [a3];intro s hs;cases hs
 refine fin ⟨w3,fun f hf=>?_⟩ fun _=>⟨?_,?_,?_⟩
 ·rw [z3z g3 hf,f3];exact i2.live
 ·
  have e3:(h.rs.take j).length=j:=by rw [List.length_take];omega
  subst h10;refine { inn:=⟨w3,fun f hf=>⟨_,rfl,by rw [z3z g3 hf,f3];exact sh2⟩⟩,full:=rfl,name:=rfl,nob:=rfl,first:=rfl,seg:=rfl,segs:=rfl,size:=hen.symm,recs:=rfl,syn:=?_,snap:=?_ }
  ·show (h.closed ++ h.rs.take j).length <= h.closed.length + j;rw [List.length_append,e3];exact Nat.le_refl _
  ·
   show (h.sn=none /\ h.sn.isSome=false /\ h.sn.getD []=[]) \/ ∃ x,h.sn=some x /\ h.sn.isSome=true /\ h.sn.getD []=x;cases h.sn with
   | none=>exact .inl ⟨rfl,rfl,rfl⟩
   | some x=>exact .inr ⟨x,rfl,rfl,rfl⟩
 ·subst h10;rfl
 ·subst h10;rfl
end Go.Log
end
section
namespace Go.Log
open Go.Lk Go.RowKit Go.Vfs
variable {W0 w w' w2:World} {l d:Nat} {L L':Lg} {X Y:Ds} {O O' S N:Nat -> Prop}
structure DO (W0 w:World) (d:Nat) (X:Ds) (O:Nat -> Prop):Prop where
 ex:∃ F R,DiskAt w d F R X.D X.fc /\ (∀ k,O k -> k < w.heap.size /\ ¬ F k /\ ¬ R k) /\ ∀ k,F k -> W0.heap.size <= k
 k:Keeps Nb W0 w
 v:Vars W0
 six:6 <= W0.heap.size
structure LS (W0 w:World) (l d:Nat) (L:Lg) (X:Ds) (O:Nat -> Prop):Prop where
 ex:∃ Fd Rd FL RL,LgAt w l d Fd Rd FL RL L X /\ (∀ k,O k -> k < w.heap.size /\ ¬ Fd k /\ ¬ Rd k /\ ¬ FL k /\ ¬ RL k) /\ (∀ k,Fd k -> W0.heap.size <= k) /\ ∀ k,FL k -> W0.heap.size <= k
 k:Keeps Nb W0 w
 v:Vars W0
 six:6 <= W0.heap.size
def Oth (W0:World) (O:Nat -> Prop):Nat -> Prop:=fun k=>W0.heap.size <= k /\ ¬ O k
theorem DO.vars (h:DO W0 w d X O):Vars w:=h.v.nb h.k
theorem LS.vars (h:LS W0 w l d L X O):Vars w:=h.v.nb h.k
theorem DO.nb (h:DO W0 w d X O) (hk:Keeps Nb w w'):DO W0 w' d X O:=by
 obtain ⟨⟨F,R,h1,h2,h3⟩,h4,h5,h6⟩:=h;exact ⟨⟨F,R,h1.nb hk,fun k e=>⟨Nat.lt_of_lt_of_le (h2 k e).1 hk.size,(h2 k e).2⟩,h3⟩,h4.trans_nb hk,h5,h6⟩
theorem LS.nb (h:LS W0 w l d L X O) (hk:Keeps Nb w w'):LS W0 w' l d L X O:=by
 obtain ⟨⟨Fd,Rd,FL,RL,h1,h2,h3,h3'⟩,h4,h5,h6⟩:=h;exact ⟨⟨Fd,Rd,FL,RL,h1.nb hk,fun k e=>⟨Nat.lt_of_lt_of_le (h2 k e).1 hk.size,(h2 k e).2⟩,h3,h3'⟩,h4.trans_nb hk,h5,h6⟩
theorem LS.mono (h:LS W0 w l d L X O) (hO:∀ k,O' k -> O k):LS W0 w l d L X O':=by
 obtain ⟨⟨Fd,Rd,FL,RL,h1,h2,h3,h3'⟩,h4,h5,h6⟩:=h;exact ⟨⟨Fd,Rd,FL,RL,h1,fun k e=>h2 k (hO k e),h3,h3'⟩,h4,h5,h6⟩
theorem DO.add (h:DO W0 w d X O) (hk:Keeps Nb w w') (hN:∀ k,N k -> w.heap.size <= k /\ k < w'.heap.size):DO W0 w' d X fun k=>O k \/ N k:=by
 obtain ⟨⟨F,R,h1,h2,h3⟩,h4,h5,h6⟩:=h;refine ⟨⟨F,R,h1.nb hk,fun k e=>?_,h3⟩,h4.trans_nb hk,h5,h6⟩;rcases e with e | e
 ·exact ⟨Nat.lt_of_lt_of_le (h2 k e).1 hk.size,(h2 k e).2⟩
 ·have:=hN k e;exact ⟨this.2,fun f=>by have:=h1.ltF k f;omega,fun f=>by have:=h1.ltR k f;omega⟩
theorem LS.add (h:LS W0 w l d L X O) (hk:Keeps Nb w w') (hN:∀ k,N k -> w.heap.size <= k /\ k < w'.heap.size):LS W0 w' l d L X fun k=>O k \/ N k:=by
 obtain ⟨⟨Fd,Rd,FL,RL,h1,h2,h3,h3'⟩,h4,h5,h6⟩:=h;refine ⟨⟨Fd,Rd,FL,RL,h1.nb hk,fun k e=>?_,h3,h3'⟩,h4.trans_nb hk,h5,h6⟩;rcases e with e | e
 ·exact ⟨Nat.lt_of_lt_of_le (h2 k e).1 hk.size,(h2 k e).2⟩
 ·have:=hN k e;exact ⟨this.2,fun f=>by have:=h1.disk.ltF k f;omega,fun f=>by have:=h1.disk.ltR k f;omega,fun f=>by have:=h1.ltF k f;omega,fun f=>by have:=h1.ltR k f;omega⟩
theorem LS.disk (h:LS W0 w l d L X O):DO W0 w d X O:=by
 obtain ⟨⟨Fd,Rd,FL,RL,h1,h2,h3,h3'⟩,h4,h5,h6⟩:=h;exact ⟨⟨Fd,Rd,h1.disk,fun k e=>⟨(h2 k e).1,(h2 k e).2.1,(h2 k e).2.2.1⟩,h3⟩,h4,h5,h6⟩
theorem DO.now (h:DO W0 w d X O) {F R:Nat -> Prop} (h1:∀ k,O k -> k < w.heap.size /\ ¬ F k /\ ¬ R k) (h2:∀ k,F k -> W0.heap.size <= k) (hn:Now w w' d F R Y.D Y.fc):DO W0 w' d Y O /\ Keeps (Oth W0 O) w w':=by
 obtain ⟨F',R',n1,n2,n3,n4⟩:=hn;have z0:=h.k.size;have z:=n4.size;refine ⟨⟨⟨F',R',n1,fun k e=>?_,fun k f=>(n2 k f).elim (h2 k) (fun _=>by omega)⟩,h.k.trans n4 (fun j hj e=>by have:=h2 j e;omega),h.v,h.six⟩,n4.mono fun k _ f=>⟨h2 k f,fun e=>(h1 k e).2.1 f⟩⟩;have:=h1 k e;exact ⟨by omega,fun f=>(n2 k f).elim this.2.1 (fun _=>by omega),fun f=>(n3 k f).elim this.2.2 (fun _=>by omega)⟩
theorem LS.now (h:LS W0 w l d L X O) {Fd Rd FL RL:Nat -> Prop} (h1:∀ k,O k -> k < w.heap.size /\ ¬ Fd k /\ ¬ Rd k /\ ¬ FL k /\ ¬ RL k) (h2:∀ k,Fd k -> W0.heap.size <= k) (h3:∀ k,FL k -> W0.heap.size <= k) (hn:LNow w w' l d Fd Rd FL RL L' Y):LS W0 w' l d L' Y O /\ Keeps (Oth W0 O) w w':=by
 obtain ⟨Fd',Rd',FL',RL',n1,n2,n3,n4,n5,n6⟩:=hn;have z0:=h.k.size;have z:=n6.size;refine ⟨⟨⟨Fd',Rd',FL',RL',n1,fun k e=>?_,fun k f=>(n2 k f).elim (h2 k) (fun _=>by omega),fun k f=>(n4 k f).elim (h3 k) (fun _=>by omega)⟩,h.k.trans n6 (fun j hj e=>e.elim (fun e=>by have:=h2 j e;omega) (fun e=>by have:=h3 j e;omega)),h.v,h.six⟩,n6.mono fun k _ f=>⟨f.elim (h2 k) (h3 k),fun e=>f.elim (h1 k e).2.1 (h1 k e).2.2.2.1⟩⟩;have:=h1 k e;exact ⟨by omega,fun f=>(n2 k f).elim this.2.1 (fun _=>by omega),fun f=>(n3 k f).elim this.2.2.1 (fun _=>by omega),fun f=>(n4 k f).elim this.2.2.2.1 (fun _=>by omega),fun f=>(n5 k f).elim this.2.2.2.2 (fun _=>by omega)⟩
end Go.Log
namespace Go.Proofs.YtpjomdmjohjheaaGreatDoor
open Go.RowKit Go.Lk Go.Vfs Go.Log
variable {W0 w w' w2:World} {l d:Nat} {L L':Lg} {X Y:Ds} {O O' S N:Nat -> Prop}
def LsD (W0:World) (l d:Nat) (O:Nat -> Prop) (L:Lg) (X:Ds) (k:Int) (r:Lg -> Ds -> Int -> Lg -> Ds -> Prop) (w:World) (e:Ending) (w':World):Prop :=
 ∃ er L' Y,e=.returned (.int .i64 er) /\ LS W0 w' l d L' Y O /\ r L X er L' Y /\ pot Y <= pot X + k /\ Keeps (Oth W0 O) w w'
theorem zad (h:LS W0 w l d L X O) (hp:pot X + 1 <= 999999):Calls Tryz.prog 22 #[.pointer (some ⟨l,0,none⟩)] w (LsD W0 l d O L X 1 synR w):=by
 obtain ⟨Fd,Rd,FL,RL,h1,h2,h3,h4⟩:=h.ex;refine (zef l d Fd Rd FL RL L X w h1 h.vars hp).mono ?_;rintro e w' ⟨er,L',Y,rfl,hn,hr,hp'⟩;obtain ⟨a,b⟩:=h.now h2 h3 h4 hn;exact ⟨er,L',Y,rfl,a,hr,hp',b⟩
def Own (W0:World) (O:Nat -> Prop):Nat -> Prop:=fun k=>k < W0.heap.size \/ O k
theorem z7p (h:LS W0 w l d L X O) {Fd Rd FL RL:Nat -> Prop} (h1:∀ k,O k -> k < w.heap.size /\ ¬ Fd k /\ ¬ Rd k /\ ¬ FL k /\ ¬ RL k) (h2:∀ k,Fd k -> W0.heap.size <= k) (h3:∀ k,FL k -> W0.heap.size <= k) {v:Value} {bs:List Nat} (hb:Bytes w (Own W0 O) v bs):BytesO v bs w Fd FL:=by
 refine Bytes.mono hb fun k e=>?_;have z:=h.k.size;rcases e with e | e
 ·exact ⟨by omega,fun f=>by have:=h2 k f;omega,fun f=>by have:=h3 k f;omega⟩
 ·exact ⟨(h1 k e).1,(h1 k e).2.1,(h1 k e).2.2.2.1⟩
theorem z4t (h:LS W0 w l d L X O) {v:Value} {bs:List Nat} (hb:Bytes w (Own W0 O) v bs) (hp:pot X + 6 <= 999999) (hsg:L.segments < 1000000) (hrc:L.recs.length < 4000000000000) (hsz:L.size <= 16777216) :
  Calls Tryz.prog 21 #[.pointer (some ⟨l,0,none⟩),v] w (LsD W0 l d O L X 6 (fun L X e L' Y=>appR L bs X e L' Y) w):=by
 obtain ⟨Fd,Rd,FL,RL,h1,h2,h3,h4⟩:=h.ex;refine (zc8 l d Fd Rd FL RL L X v bs w h1 h.vars (z7p h h2 h3 h4 hb) hp hsg hrc hsz).mono ?_;rintro e w' ⟨er,L',Y,rfl,hn,hr,hp'⟩;obtain ⟨a,b⟩:=h.now h2 h3 h4 hn;exact ⟨er,L',Y,rfl,a,hr,hp',b⟩
theorem zg7 (h:LS W0 w l d L X O) {v:Value} {bs:List Nat} (hb:Bytes w (Own W0 O) v bs) (hp:pot X + 19 <= 999999) :
  Calls Tryz.prog 23 #[.pointer (some ⟨l,0,none⟩),v] w (LsD W0 l d O L X 19 (fun L X e L' Y=>turnR L bs X e L' Y) w):=by
 obtain ⟨Fd,Rd,FL,RL,h1,h2,h3,h4⟩:=h.ex;refine (zha l d Fd Rd FL RL L X v bs w h1 h.vars (z7p h h2 h3 h4 hb) hp).mono ?_;rintro e w' ⟨er,L',Y,rfl,hn,hr,hp'⟩;obtain ⟨a,b⟩:=h.now h2 h3 h4 hn;exact ⟨er,L',Y,rfl,a,hr,hp',b⟩
theorem z7c (h:DO W0 w d X O) (nm:ByteArray) (m:Nat) (hm1:mnB nm=true) (h16:nm.size <= 16) (hs1:1 <= m) (hs2:m <= 1048576) (hp:pot X + 12 <= 999999) :
  Calls Tryz.prog 19 #[.pointer (some ⟨d,0,none⟩),.string nm,.int .i64 m] w fun e w'=>∃ er L Y,openR nm m X er L Y /\ pot Y <= pot X + 12 /\ Keeps (Oth W0 O) w w' /\
   ((er=0 /\ ∃ l,e=.returned (.tuple #[.pointer (some ⟨l,0,none⟩),.int .i64 0]) /\ LS W0 w' l d L Y O) \/ (er ≠ 0 /\ e=.returned (.tuple #[.pointer none,.int .i64 er]) /\ DO W0 w' d Y O)):=by
 obtain ⟨F,R,h1,h2,h3⟩:=h.ex;have h6:=h.six;refine (zge d F R X nm m w h1 h.vars (fun k f=>by have:=h3 k f;omega) hm1 h16 hs1 hs2 hp).mono ?_;rintro e w' ⟨er,L,Y,hr,hp',⟨h0,l,Fd',Rd',FL,RL,rfl,g1,g2,g3,g4,g5,g6⟩ | ⟨h0,rfl,hn⟩⟩
 ·have z0:=h.k.size;have z:=g6.size;refine ⟨er,L,Y,hr,hp',g6.mono fun k _ f=>⟨h3 k f,fun e=>(h2 k e).2.1 f⟩,.inl ⟨h0,l,rfl,⟨⟨Fd',Rd',FL,RL,g1,fun k e=>?_,fun k f=>(g2 k f).elim (h3 k) (fun _=>by omega),fun k f=>by have:=g4 k f;omega⟩,h.k.trans g6 (fun j hj e=>by have:=h3 j e;omega),h.v,h.six⟩⟩⟩;have:=h2 k e;exact ⟨by omega,fun f=>(g2 k f).elim this.2.1 (fun _=>by omega),fun f=>(g3 k f).elim this.2.2 (fun _=>by omega),fun f=>by have:=g4 k f;omega,fun f=>by have:=g5 k f;omega⟩
 ·obtain ⟨a,b⟩:=h.now h2 h3 hn;exact ⟨er,L,Y,hr,hp',b,.inr ⟨h0,rfl,a⟩⟩
theorem ls_len (h:LS W0 w l d L X O):Calls Tryz.prog 30 #[.pointer (some ⟨l,0,none⟩)] w fun e w'=>e=.returned (.int .i64 (L.recs.length:Nat)) /\ w=w':=by
 obtain ⟨Fd,Rd,FL,RL,h1,-⟩:=h.ex;obtain ⟨sv,lv,vs,q1,-,q3,-⟩:=h1.ex;obtain ⟨-,-,la,lc,rfl,-⟩:=id q3;exact len_at q1
theorem zct (h:LS W0 w l d L X O):Calls Tryz.prog 20 #[.pointer (some ⟨l,0,none⟩)] w fun e w'=>e=.returned (.int .i64 (L.segment:Nat)) /\ w=w':=by
 obtain ⟨Fd,Rd,FL,RL,h1,-⟩:=h.ex;obtain ⟨sv,lv,hc⟩:=h1.cells;exact zbr (hc w (Keeps.refl _ _))
theorem zg6 (h:LS W0 w l d L X O):Calls Tryz.prog 29 #[.pointer (some ⟨l,0,none⟩)] w fun e w'=>∃ v,e=.returned (.tuple #[v,.bool L.has]) /\ Bytes w' (SinceB w w') v (if L.has=true then L.snap else []) /\ Keeps Nb w w':=by
 obtain ⟨Fd,Rd,FL,RL,h1,-⟩:=h.ex;exact z9w h1
theorem zg5 (h:LS W0 w l d L X O) {wa:Option Addr} {wc:Nat} {vs:List Value} (hw:RowS w (fun k=>k < w.heap.size) (fun _=>False) 22 1 (.slice wa L.recs.length wc) L.recs.length vs) (hb:BytesL w (fun k=>k < w.heap.size) vs L.recs) :
  Calls Tryz.prog 34 #[.pointer (some ⟨l,0,none⟩),.slice wa L.recs.length wc,.int .i64 0] w fun e w'=>e=.returned (.bool true) /\ Keeps Nb w w':=by
 obtain ⟨Fd,Rd,FL,RL,h1,-⟩:=h.ex;refine zgd _ _ wa wc vs w hw hb h1.nums.recs h1.nums.nrec fun w1 k1=>?_;refine (zbo l d Fd Rd FL RL L X w1 (h1.nb k1)).mono ?_;rintro e w' ⟨g,rfl,g1,g2,g3,g4⟩;exact ⟨g,_,rfl,g1,g2,fun k e=>e.elim (fun e=>.inl (h1.ltF k e)) fun e=>e.elim (fun e=>.inl (h1.ltR k e)) .inr,g3,g4⟩
end Go.Proofs.YtpjomdmjohjheaaGreatDoor
end
section
namespace Go.Log
open Go.Lk Go.RowKit Go.Vfs
def RB (w:World) (R:Nat -> Prop) (v:Value) (ls:List (List Nat)):Prop :=
 ∃ a c vs,v=.slice a ls.length c /\ ls.length <= c /\ c <= maxLen /\ Has w a vs /\ (∀ b off,a=some ⟨b,off,none⟩ -> vs ≠ [] -> R b) /\ BytesL w R vs ls
theorem RB.keeps {w w':World} {R S:Nat -> Prop} {v:Value} {ls:List (List Nat)} (h:RB w R v ls) (hk:Keeps S w w') (hn:∀ k,R k -> ¬ S k):RB w' R v ls:=by
 obtain ⟨a,c,vs,h1,h2,h3,h4,h5,h6⟩:=h;exact ⟨a,c,vs,h1,h2,h3,h4.keeps hk (fun b off e hz=>hn b (h5 b off e hz)),h5,h6.keeps hk hn⟩
theorem RB.of {w:World} {F R R':Nat -> Prop} {v:Value} {ls:List (List Nat)} {vs:List Value} (h:RowS w F (fun _=>False) 22 1 v ls.length vs) (hb:BytesL w R vs ls) (h1:∀ k,F k -> R' k) (h2:∀ k,R k -> R' k):RB w R' v ls:=by
 obtain ⟨-,-,a,c,e1,e2,e3,e4,e5,-⟩:=h;exact ⟨a,c,vs,e1,e2,e3,e4,fun b off e hz=>(e5 b off e hz).1.elim (h1 b) (fun e=>e.elim),hb.mono h2⟩
theorem RB.get {w:World} {R:Nat -> Prop} {a:Option Addr} {n c:Nat} {ls:List (List Nat)} (h:RB w R (.slice a n c) ls) {i:Nat} {x:List Nat} (hx:ls[i]?=some x) :
  ∃ b off ax cx,a=some ⟨b,off,none⟩ /\ R b /\ w.cell? ⟨b,off + i,none⟩=some (.slice ax x.length cx) /\ Bytes w R (.slice ax x.length cx) x:=by
 obtain ⟨a',c',vs,e,-,-,h4,h5,h6⟩:=h;cases e;have hi:=(List.getElem?_eq_some_iff.1 hx).1;obtain ⟨v,hv⟩:∃ v,vs[i]?=some v:=⟨_,List.getElem?_eq_getElem (by rw [h6.1];exact hi)⟩
 have hb:=h6.2 i v x hv hx;have hne:vs ≠ []:=by rintro rfl;cases hv
 obtain ⟨ax,cx,rfl,-⟩:=id hb;rcases h4 with h | ⟨b,off,rfl,hc⟩
 ·exact absurd h hne
 ·exact ⟨b,off,ax,cx,rfl,h5 b off rfl hne,hc i _ hv,hb⟩
end Go.Log
namespace Go.Proofs.YtpjomdmjohjheaaGreatDoor
open Go.RowKit Go.Lk Go.Vfs Go.Log
theorem ba_tl {a b:ByteArray} (h:a.toList=b.toList):a=b:=by
 rw [ByteArray.toList_eq,ByteArray.toList_eq] at h;exact z2f h
def BoolD (w:World) (p:Prop) (e:Ending) (w':World):Prop:=∃ r,e=.returned (.bool r) /\ (p -> r=true) /\ Keeps Nb w w'
theorem zgz (v1 v2:Value) (l1 l2:List (List Nat)) (R:Nat -> Prop) (w:World) (h1:RB w R v1 l1) (h2:RB w R v2 l2) :
  Calls Tryz.prog 16 #[v1,v2] w (BoolD w (l1=l2)):=by
 have H1:=qq h1;have H2:=qq h2;obtain ⟨a1,c1,vs1,rfl,hc1,hm1,-⟩:=id h1;obtain ⟨a2,c2,vs2,rfl,hc2,hm2,-⟩:=id h2;obtain ⟨n1,hn1⟩:∃ n,l1.length=n:=⟨_,rfl⟩
 obtain ⟨n2,hn2⟩:∃ n,l2.length=n:=⟨_,rfl⟩
 have N1:=qq hn1;have N2:=qq hn2;rw [hn1] at hc1 H1 ⊢;rw [hn2] at hc2 H2 ⊢;unfold maxLen at hm1 hm2;clear h1 h2 hn1 hn2;go_enter Tryz.func16,Tryz.ntmps16;by_cases hnn:n1=n2
 ·
  subst hnn;go_wp2
  go_loopw [5,6] (fun sv kv wr=>∃ (k:Nat) (r:Bool),k <= n1 /\ sv=.bool r /\ kv=.int .i64 k /\ Hid (l1=l2 -> r=true) /\ Keeps Nb w wr) (fun sv kv _=>n1 - (intOf kv).toNat)
  case atStart=>exact ⟨0,true,Nat.zero_le _,by simp,rfl,qq (fun _=>rfl),Keeps.refl _ _⟩
  case round =>
   obtain ⟨k,r,hk,rfl,rfl,HRR,kw⟩:=hrel;have KW:=qq kw;clear kw;cases r with
   | false =>
    go_wp2;go_ret;exact ⟨false,rfl,HRR.out,KW.out⟩
   | true =>
    by_cases hlt:k < n1
    ·
     have i1:(k:Int) < (n1:Int):=by omega
     obtain ⟨x,hx⟩:∃ x,l1[k]?=some x:=⟨_,List.getElem?_eq_getElem (by rw [N1.out];exact hlt)⟩
     obtain ⟨y,hy⟩:∃ y,l2[k]?=some y:=⟨_,List.getElem?_eq_getElem (by rw [N2.out];exact hlt)⟩
     obtain ⟨b1,o1,ax,cx,rfl,-,q1,q2⟩:=(H1.out.keeps KW.out (fun _ _ e=>e)).get hx;obtain ⟨b2,o2,ay,cy,rfl,-,q3,q4⟩:=(H2.out.keeps KW.out (fun _ _ e=>e)).get hy;have t1:∀ u:Sub wr,u.wd.cell? ⟨b1,o1 + k,none⟩=some (.slice ax x.length cx):=fun u=>(u.k.cell (lt_of_cell q1) (fun e=>e)).trans q1;have t2:∀ u:Sub wr,u.wd.cell? ⟨b2,o2 + k,none⟩=some (.slice ay y.length cy):=fun u=>(u.k.cell (lt_of_cell q3) (fun e=>e)).trans q3;have HX:Hid (∀ u:Sub wr,Has u.wd ax (x.map fun z=>.int .u8 (z:Nat))):=qq fun u=>by
      obtain ⟨a',c',e,_,_,hr,_⟩:=q2;cases e;exact (hr.nb u.k).has
     have HY:Hid (∀ u:Sub wr,Has u.wd ay (y.map fun z=>.int .u8 (z:Nat))):=qq fun u=>by
      obtain ⟨a',c',e,_,_,hr,_⟩:=q4;cases e;exact (hr.nb u.k).has
     have HXY:Hid (l1=l2 -> x=y):=qq fun e=>by rw [e,hy] at hx;exact (Option.some.inj hx).symm
     clear q1 q2 q3 q4 hx hy;go_wp2;refine z2q (by kernel_rfl) (by kernel_rfl) ?_
     repeat (first | go_big_quiet_skip | (with_reducible refine stopq (op:=.convert 22 9 _) ?_) | go_big_quiet_step (fail))
     refine za (z5q (v:=.string (bstr x)) rfl (by rintro _ ⟨u,rfl⟩;exact z1j Tryz.underlying22 Tryz.underlying5 Tryz.underlying9 (by rfl) (HX.out u) rfl) ?_);simp only [Nat.reduceAdd,qn]
     repeat (first | go_big_quiet_skip | (with_reducible refine stopq (op:=.convert 22 9 _) ?_) | go_big_quiet_step (fail))
     refine za (z5q (v:=.string (bstr y)) rfl (by rintro _ ⟨u,rfl⟩;exact z1j Tryz.underlying22 Tryz.underlying5 Tryz.underlying9 (by rfl) (HY.out u) rfl) ?_);simp only [Nat.reduceAdd,qn]
     repeat (first | go_big_quiet_skip | (with_reducible refine stopq (op:=.convert 22 9 _) ?_) | go_big_quiet_step (fail))
     refine wpQuiet_nil ?_;rintro w3 ⟨u3,hu3⟩;have K3:Hid (Keeps Nb w w3):=qq (KW.out.trans_nb (hu3 ▸ u3.k));clear hu3 u3 t1 t2;go_wp2;go_roundw
     case rel=>exact ⟨k + 1,_,by omega,rfl,by go_num,qq (fun e=>by rw [HXY.out e];simp [z2c]),K3.out⟩
     case measure=>simp [intOf];omega
    ·go_wp2;go_ret;exact ⟨true,rfl,fun _=>rfl,KW.out⟩
 ·
  have t0:((n1:Int) == (n2:Int))=false:=by rw [beq_eq_false_iff_ne];omega
  have HNE:Hid (l1=l2 -> False):=qq fun e=>hnn (by rw [<- N1.out,<- N2.out,e]);go_wp2
  go_loopw [5,6] (fun sv kv wr=>sv=.bool false /\ wr=w) (fun sv kv _=>0)
  case atStart=>exact ⟨by simp [hnn],rfl⟩
  case round =>
   obtain ⟨rfl,rfl⟩:=hrel;go_wp2;go_ret;exact ⟨false,rfl,fun e=>(HNE.out e).elim,Keeps.refl _ _⟩
structure Ks where
 s:ByteArray
 has:Bool
 all:List (List Nat)
 sure:Int
end Go.Proofs.YtpjomdmjohjheaaGreatDoor
end
section
namespace Go.Proofs.YtpjomdmjohjheaaGreatDoor
open Go.RowKit Go.Lk Go.Crc Go.Vfs Go.Log
theorem bit_at (r b:Nat) (w:World) (hr:r < 2 ^ 32) (hb:b < 2) :
  Calls Tryz.prog 162 #[.int .u32 r,.int .u32 b] w fun e w'=>e=.returned (.int .u32 (stp (r ^^^ b):Nat)) /\ w=w':=by
 have HB:=qq (zfm hr hb);by_cases h:r % 2=b
 ·
  have h1:((r:Int) % 2 != (b:Int))=false:=by rw [bne_eq_false_iff_eq];omega
  have H:=qq h;clear h;go_enter Tryz.func162,Tryz.ntmps162;go_wp2;go_ret;refine ⟨z34 ?_,rfl⟩;rw [<- HB.out,if_pos H.out];omega
 ·
  have h1:((r:Int) % 2 != (b:Int))=true:=by rw [bne_iff_ne];omega
  have H:=qq h;clear h;go_enter Tryz.func162,Tryz.ntmps162;go_wp2;go_ret;refine ⟨z34 ?_,rfl⟩;rw [<- HB.out,if_neg H.out,<- xor32 (by omega) P_lt];congr 1
theorem In_at (r x:Nat) (w:World) (hr:r < 2 ^ 32) (hx:x < 256) :
  Calls Tryz.prog 145 #[.int .u32 r,.int .u8 x] w fun e w'=>e=.returned (.int .u32 (inn r x:Nat)) /\ w=w':=by
 go_enter Tryz.func145,Tryz.ntmps145;go_wp2
 go_loop [0,5] (fun y i=>∃ k:Nat,k <= 8 /\ i=.int .i64 k /\ y=.int .u32 (stps k (r ^^^ x) ^^^ (x / 2 ^ k):Nat)) (fun _ i=>8 - (intOf i).toNat)
 case atStart=>exact ⟨0,by omega,rfl,by rw [show stps 0 (r ^^^ x)=r ^^^ x from rfl,Nat.pow_zero,Nat.div_one,z73]⟩
 case round =>
  obtain ⟨k,hk,rfl,rfl⟩:=hrel;have hlt:stps k (r ^^^ x) ^^^ (x / 2 ^ k) < 2 ^ 32:=Nat.xor_lt_two_pow (z5o k (Nat.xor_lt_two_pow hr (by omega))) (Nat.lt_of_le_of_lt (Nat.div_le_self _ _) (by omega));by_cases h:k < 8
  ·
   have HS:=qq (ze8 (r:=r) (x:=x) h);generalize stps k (r ^^^ x) ^^^ (x / 2 ^ k)=y at *;have hb2:x / 2 ^ k % 2 < 2:=Nat.mod_lt _ (by decide);go_wp2_with fail;rw [show ((x:Int) / 2 ^ k % 2)=((x / 2 ^ k % 2:Nat):Int) by push_cast;rfl];refine (bit_at _ _ _ hlt hb2).mono ?_;rintro e w' ⟨rfl,rfl⟩;go_wp2;go_round
   case rel=>exact ⟨k + 1,by omega,by go_num,by rw [HS.out]⟩
   case measure=>simp [intOf];omega
  ·
   obtain rfl:k=8:=by omega
   go_wp2;go_ret;exact ⟨z34 (by rw [in_end hx]),rfl⟩
theorem zbp (s n cap:Nat) (a:Option Addr) (l:List Nat) (w:World) (hs:s < 2 ^ 32) (hn:n=l.length) (hl:ReadsN .u8 w a l) (hb:Go.Crc.Bytes l) (hm:l.length <= 2000000) :
  Calls Tryz.prog 107 #[.int .u32 s,.slice a n cap] w fun e w'=>e=.returned (.int .u32 (mor s l:Nat)) /\ w=w':=by
 subst hn;go_enter Tryz.func107,Tryz.ntmps107;go_wp2
 go_loop [5,6] (fun x i=>∃ k:Nat,k <= l.length /\ i=.int .i64 k /\ x=.int .u32 (inns (cpl s) (l.take k):Nat)) (fun _ i=>l.length - (intOf i).toNat)
 case atStart=>exact ⟨0,by omega,rfl,z1o (by show _=((4294967295 - s:Nat):Int);omega)⟩
 case round =>
  obtain ⟨k,hk,rfl,rfl⟩:=hrel;have hr':=z7a (zcf s) (hb.take k);by_cases hlt:k < l.length
  ·
   rcases hl with rfl | ⟨b,off,rfl,hc⟩
   ·simp at hlt
   have hck:=hc k hlt;have hx:ntn l k < 256:=hb _ (z1x hlt);have HS:Hid (inns (cpl s) (l.take (k + 1))=inn (inns (cpl s) (l.take k)) (ntn l k)):=by show _=_;rw [z2y hlt,z3p];rfl
   clear hc;generalize inns (cpl s) (l.take k)=x at *;generalize ntn l k=c at *;go_wp2_with fail;refine (In_at _ _ _ hr' hx).mono ?_;rintro e w' ⟨rfl,rfl⟩;go_wp2;go_round
   case rel=>exact ⟨k + 1,by omega,by go_num,by rw [HS.out]⟩
   case measure=>simp [intOf];omega
  ·rw [List.take_of_length_le (by omega)] at hr' ⊢;have HM:Hid (mor s l=cpl (inns (cpl s) l)):=rfl;generalize inns (cpl s) l=x at *;go_wp2;go_ret;exact ⟨z34 (by rw [HM.out];show _=((4294967295 - x:Nat):Int);omega),rfl⟩
theorem zda (n cap:Nat) (a:Option Addr) (l:List Nat) (w:World) (hn:n=l.length) (hl:ReadsN .u8 w a l) (hb:Go.Crc.Bytes l) (hm:l.length <= 2000000) :
  Calls Tryz.prog 47 #[.slice a n cap] w fun e w'=>e=.returned (.int .u32 (mor 0 l:Nat)) /\ w=w':=by
 have C:=qq (zbp 0 n cap a l w (by decide) hn hl hb hm);clear hn hl;go_enter Tryz.func47,Tryz.ntmps47;go_wp2_with fail;refine C.out.mono ?_;rintro e w' ⟨rfl,rfl⟩;go_wp2;go_ret;exact ⟨rfl,rfl⟩
theorem zd4 (k:Nat) (h:k <= 6):256 ^ k <= 281474976710656:=Nat.le_trans (Nat.pow_le_pow_right (by decide) h) (by decide)
theorem z94 (n:Nat) (w:World) (hn:n <= 6):Calls Tryz.prog 106 #[.int .i64 n] w fun e w'=>e=.returned (.int .u64 (256 ^ n:Nat)) /\ w=w':=by
 go_enter Tryz.func106,Tryz.ntmps106;go_wp2
 go_loop [3,4] (fun p i=>∃ k:Nat,k <= n /\ i=.int .i64 k /\ p=.int .u64 (256 ^ k:Nat)) (fun _ i=>n - (intOf i).toNat)
 case atStart=>exact ⟨0,Nat.zero_le _,rfl,rfl⟩
 case round =>
  obtain ⟨k,hk,rfl,rfl⟩:=hrel;have hp6:=zd4 k (by omega);have HS:Hid (256 ^ (k + 1)=256 ^ k * 256):=qq (Nat.pow_succ _ _);by_cases hlt:k < n
  ·
   obtain ⟨q,hq⟩:∃ q,256 ^ k=q:=⟨_,rfl⟩
   rw [hq] at hp6 HS ⊢;clear hq;go_wp2;go_round
   case rel=>exact ⟨k + 1,by omega,by go_num,by rw [HS.out];exact z1o (by omega)⟩
   case measure=>simp [intOf];omega
  ·
   obtain rfl:k=n:=by omega
   obtain ⟨q,hq⟩:∃ q,256 ^ k=q:=⟨_,rfl⟩
   have HQ:=qq hq;rw [hq] at hp6 ⊢;clear hq;go_wp2;go_ret;exact ⟨z34 (by rw [<- HQ.out];first | rfl | (push_cast;rfl)),rfl⟩
theorem zcc:∀ (k n j:Nat),j < k -> ntn (be k n) j=n / 256 ^ (k - 1 - j) % 256
 | 0,_,_,h=>by omega
 | k + 1,n,0,_=>by unfold be;simp [ntn]
 | k + 1,n,j + 1,h=>by
  have:=zcc k n j (by omega);unfold be;rw [show k + 1 - 1 - (j + 1)=k - 1 - j by omega,<- this];simp [ntn]
theorem z86 {w:World} {F R:Nat -> Prop} {v:Value} {n:Nat} {l:List Nat} (h:RowS w F R 5 1 v n (l.map fun x=>Value.int .u8 (x:Nat))) (hl:∀ z ∈ l,z < 256):Bytes w (fun k=>(F k \/ R k) /\ IsT w 5 k) v l:=by
 obtain ⟨h1,h2,a,c,rfl,h4,h5,h6,h7,h8⟩:=h;simp only [List.length_map,Nat.mul_one] at h1;subst h1;refine ⟨a,c,rfl,h4,h5,?_,hl,fun b off e hz=>h7 b off e (by simpa using hz)⟩;rcases h6 with h | ⟨b,off,rfl,hc⟩
 ·exact .inl (by simpa using h)
 ·exact .inr ⟨b,off,rfl,fun i hi=>by rw [hc i _ (by rw [List.getElem?_map,List.getElem?_eq_getElem hi];rfl),z0o hi]⟩
theorem zao (n:Nat) (hn:n < 4294967296) (w:World):Calls Tryz.prog 46 #[.int .u64 n,.int .i64 4] w fun e w'=>∃ v,e=.returned v /\ Bytes w' (SinceB w w') v (be 4 n) /\ Keeps Nb w w':=by
 have HBT:Hid (∀ x ∈ be 4 n,x < 256):=qq (z18 4 n);have HBL:Hid ((be 4 n).length=4):=qq (zu 4 n);go_enter Tryz.func46,Tryz.ntmps46;go_wp2
 go_loopw [5,6] (fun v i wr=>∃ j:Nat,j <= 4 /\ i=.int .i64 (3 - (j:Int)) /\ RowS wr (Since w wr) (fun _=>False) 5 1 v j (((be 4 n).take j).map fun x=>Value.int .u8 (x:Nat)) /\ Keeps Nb w wr) (fun _ i _=>(intOf i + 1).toNat)
 case atStart=>exact ⟨0,by omega,rfl,RowS.nil _ _ _ _ _,Keeps.refl _ _⟩
 case round =>
  obtain ⟨j,hj,rfl,hr,kr⟩:=hrel;have HR:=qq hr;have KR:=qq kr;obtain ⟨-,-,va,vc,rfl,hv1,hv2,-⟩:=id hr;have hvm:j <= vc /\ vc <= 9223372036854775807:=by unfold maxLen at hv2;exact ⟨hv1,hv2⟩
  clear hr kr hv1 hv2;by_cases hlt:j < 4
  ·
   obtain ⟨k,hk⟩:∃ k,3 - j=k:=⟨_,rfl⟩
   rw [show (3 - (j:Int))=(k:Int) by omega];have HB:Hid (n / 256 ^ k % 256=ntn (be 4 n) j):=qq (by rw [zcc 4 n j hlt,show 4 - 1 - j=k by omega]);have PW:=qq (z94 k wr (by omega));obtain ⟨q,hq⟩:∃ q,256 ^ k=q:=⟨_,rfl⟩
   have hq1:1 <= q:=by rw [<- hq];exact Nat.pow_pos (by decide)
   have hq2:q <= 281474976710656:=by rw [<- hq];exact zd4 k (by omega)
   have hkj:k + j=3:=by omega
   rw [hq] at HB PW;obtain ⟨z,hz⟩:∃ z,ntn (be 4 n) j=z:=⟨_,rfl⟩
   have hz2:z < 256:=by rw [<- hz];exact HBT.out _ (z1x (by rw [HBL.out];exact hlt))
   have HZ:=qq hz;obtain ⟨m,hm⟩:∃ m,n / q=m:=⟨_,rfl⟩
   have hmn:m <= n:=by rw [<- hm];exact Nat.div_le_self _ _
   have hdz:(n:Int) / (q:Int)=(m:Int):=by rw [<- hm];push_cast;rfl
   have htm:(m:Int).tmod 256=(z:Int):=by rw [<- hz,<- HB.out,hm,Int.tmod_eq_emod_of_nonneg (by omega)];omega
   have hq0:¬ (q:Int)=0:=by omega
   have HKJ:=qq hkj;have hk3:k <= 3:=by omega
   clear hk hq hz hkj hm;go_wp2_with fail;refine PW.out.mono ?_;rintro _ _ ⟨rfl,rfl⟩;go_wp2_with (first | go_skip | (with_reducible refine zm ?_) | (with_reducible refine z0t ?_) | fail)
   refine za (zh rfl (zl el31 [.int .u8 z] rfl (by simp [List.range'_succ];first | done | rfl) (by simp [Value.cells]) (by simp)) ?_);rintro _ w5 ⟨g,rfl,n5⟩;simp only [Nat.reduceAdd,qn];have HR5:=HR.out.keeps n5.k (fun _ _ _ e=>e);have HH:=zo n5.blk;have K5:=qq (KR.out.trans_nb n5.k);have G5:Hid (wr.heap.size <= g /\ g < w5.heap.size):=qq ⟨n5.ge,n5.lt⟩;have ZZ:Hid (wr.heap.size <= w5.heap.size):=qq n5.k.size;clear n5;go_wp2_with (first | go_skip | (with_reducible refine zm ?_) | (with_reducible refine z0t ?_) | fail)
   refine za (zh rfl (z15 (news:=[.int .u8 (z:Nat)]) el31 HR5 (by rfl) (by rfl) HH rfl (by intro u hu;rw [List.mem_singleton.1 hu];rfl) (by omega) (by unfold maxLen;omega) (by omega)) ?_);rintro v6 w6 ⟨hr6,S6,k6,hS6⟩;simp only [Nat.reduceAdd,qn]
   have F:Hid (RowS w6 (Since w w6) (fun _=>False) 5 1 v6 (j + 1) (((be 4 n).take (j + 1)).map fun x=>Value.int .u8 (x:Nat)) /\ Keeps Nb w w6):=qq (by
    have z0:=KR.out.size;have z5:=ZZ.out;have z6:=k6.size;refine ⟨?_,K5.out.trans k6 (fun i hi e=>by have h:=(hS6 i e).1;unfold Since at h;omega)⟩;rw [z2y (by rw [HBL.out];exact hlt),List.map_append,HZ.out]
    exact hr6.mono (fun k hk=>by unfold Since at hk ⊢;rcases hk with hk | hk <;> omega) (fun _ h=>h))
   obtain ⟨-,-,a6,c6,rfl,-⟩:=id hr6;clear hr6 k6 hS6 HR5 HH;go_wp2;go_roundw
   case rel=>exact ⟨j + 1,by omega,z1o (by have:=HKJ.out;omega),F.out.1,F.out.2⟩
   case measure=>simp [intOf]
  ·
   obtain rfl:j=4:=by omega
   go_wp2;go_ret;refine ⟨_,rfl,?_,KR.out⟩;have h:=HR.out;rw [List.take_of_length_le (by rw [HBL.out];exact Nat.le_refl _)] at h;exact (z86 h HBT.out).mono fun k e=>⟨e.1.elim id fun f=>f.elim,e.2⟩
theorem zei (l:List Nat) (x:Nat):num (l ++ [x])=256 * num l + x:=by unfold num;rw [List.foldl_append];rfl
theorem zgt (a:Option Addr) (c:Nat) (l:List Nat) (w:World) (hl:ReadsN .u8 w a l) (h4:l.length=4) (hc:4 <= c) (hb:∀ x ∈ l,x < 256) :
  Calls Tryz.prog 45 #[.slice a 4 c] w fun e w'=>e=.returned (.int .u64 (num l:Nat)) /\ Drew w w':=by
 have HL:=qq hl;have H4:=qq h4;have HB:=qq hb;clear hl h4 hb;go_enter Tryz.func45,Tryz.ntmps45;go_wp2
 go_loopw [3,4] (fun s i wr=>∃ k:Nat,k <= 4 /\ i=.int .i64 k /\ s=.int .u64 (num (l.take k) * 256 ^ (4 - k):Nat) /\ Drew w wr) (fun _ i _=>4 - (intOf i).toNat)
 case atStart=>exact ⟨0,by omega,rfl,by simp [num],Drew.refl _⟩
 case round =>
  obtain ⟨k,hk,rfl,rfl,hd⟩:=hrel;have hn:num (l.take k) * 256 ^ (4 - k) < 4294967296:=by
   have h1:=z3y (l:=l.take k) (fun x hx=>HB.out x (List.mem_of_mem_take hx));rw [List.length_take,H4.out,Nat.min_eq_left hk] at h1;have h2:256 ^ k * 256 ^ (4 - k)=4294967296:=by rw [<- Nat.pow_add,show k + (4 - k)=4 by omega]
   rw [<- h2];exact Nat.mul_lt_mul_of_pos_right h1 (Nat.pow_pos (by decide))
  by_cases hlt:k < 4
  ·
   obtain ⟨b,off,rfl,hcell⟩:∃ b off,a=some ⟨b,off,none⟩ /\ wr.cell? ⟨b,off + k,none⟩=some (.int .u8 (ntn l k:Nat)):=by
    rcases HL.out with h | ⟨b,off,e,hc⟩
    ·have:=H4.out;rw [h] at this;cases this
    ·exact ⟨b,off,e,(hd.cell _).trans (hc k (by rw [H4.out];exact hlt))⟩
   obtain ⟨j,hj⟩:∃ j,3 - k=j:=⟨_,rfl⟩
   have hkj:k + j=3:=by omega
   have hx:ntn l k < 256:=HB.out _ (z1x (by rw [H4.out];exact hlt))
   have HS:Hid (num (l.take (k + 1)) * 256 ^ (4 - (k + 1))=num (l.take k) * 256 ^ (4 - k) + ntn l k * 256 ^ j):=qq (by
    rw [z2y (by rw [H4.out];exact hlt),zei,show 4 - (k + 1)=j by omega,show 4 - k=j + 1 by omega,Nat.pow_succ,Nat.add_mul]
    rw [Nat.mul_comm 256 (num _),Nat.mul_assoc,Nat.mul_comm 256])
   have hj2:(3:Int) - (k:Int)=(j:Int):=by omega
   have C:=qq (fun d:Nat=>z94 j (wr.drewN d) (by omega));have hq2:256 ^ j <= 16777216:=Nat.le_trans (Nat.pow_le_pow_right (by decide) (show j <= 3 by omega)) (by decide);have hs2:ntn l k * 256 ^ j < 4294967296:=Nat.lt_of_lt_of_le (Nat.mul_lt_mul_of_pos_right hx (Nat.pow_pos (by decide))) (by omega);have HKJ:=qq hkj;generalize num (l.take k) * 256 ^ (4 - k)=s0 at *;generalize ntn l k=x0 at *;generalize 256 ^ j=q0 at *;have hmul:(x0:Int) * (q0:Int)=((x0 * q0:Nat):Int):=by push_cast;rfl
   generalize x0 * q0=m0 at *;clear hj hkj;go_wp2
   go_quiet ((go_at_call 106;exact zbl (C.out _)))
   go_wp2;go_roundw
   case rel=>exact ⟨k + 1,by omega,by go_num,by rw [HS.out];exact z1o (by omega),hd.drewN _⟩
   case measure=>simp [intOf];omega
  ·
   obtain rfl:k=4:=by omega
   have HE:Hid (num (l.take 4) * 256 ^ (4 - 4)=num l):=qq (by rw [List.take_of_length_le (by rw [H4.out];exact Nat.le_refl _)];simp);rw [HE.out] at hn ⊢;go_wp2;go_ret;exact ⟨rfl,hd⟩
theorem z2g (l:List Nat):(bstr l).data.toList=l.map fun x=>UInt8.ofNat x:=by
 unfold bstr;rw [strOfNums_data,List.map_map];rfl
theorem z5u (l:List Nat):(bstr l).size=l.length:=by unfold bstr;rw [strOfNums_size,List.length_map]
theorem zdq (a b:List Nat):bstr a ++ bstr b=bstr (a ++ b):=z2f (by rw [z00,z2g,z2g,z2g,List.map_append])
theorem zdr {a b:List Nat} (ha:∀ x ∈ a,x < 256) (hb:∀ x ∈ b,x < 256) (h:bstr a=bstr b):a=b:=by
 have h1:=congrArg (fun s:ByteArray=>s.data.toList.map UInt8.toNat) h;simp only [z2g,List.map_map] at h1;have key:∀ l:List Nat,(∀ x ∈ l,x < 256) -> l.map (UInt8.toNat ∘ fun x=>UInt8.ofNat x)=l:=fun l hl=>by
  conv=>rhs;rw [<- List.map_id l]
  refine List.map_congr_left fun x hx=>?_;simp only [Function.comp,id,UInt8.toNat_ofNat'];have:=hl x hx;omega
 rw [key a ha,key b hb] at h1;exact h1
def IsStrB (w:World) (l:List Nat) (v:Value) (w':World):Prop:=∃ c,v=.slice (some ⟨w.heap.size,0,none⟩) l.length c /\ Bytes w' (SinceB w w') v l /\ Keeps Nb w w'
theorem zgp {w:World} {dst:Option Tmp} {x:Operand} {src t ty:TypeId} {pos:String} {aft:Array Edge} {gd:Option (Nat × Bool)} {a:Act} {l:List Nat} (hs:Tryz.prog.underlying src=some .string) (hd:Tryz.prog.underlying t=some (.slice 5)) (hx:a.eval x=.string (bstr l)) (hl:∀ z ∈ l,z < 256) (hm:l.length <= maxLen) :
  ∃ v w',(execOp a.eval ⟨dst,.convert src t x,ty,pos,aft,gd⟩).run Tryz.prog w=.ok (.value v) w' /\ IsStrB w l v w':=by
 have h:=Lib.run_convert_string_bytes (P:=Tryz.prog) w src t 5 (bstr l) hs hd Tryz.underlying5;rw [z5u] at h;have hg:=grownCap_ge w l.length 0 5;have hg2:=grownCap_le_maxLen w l.length 0 5 hm;have k:Keeps Nb w (Lib.bytesWorld w 5 (bstr l)):=⟨rfl,rfl,rfl,by rw [Lib.bytesWorld_size];omega,fun k hk _=>Lib.bytesWorld_at_old w 5 (bstr l) k hk⟩
 refine ⟨_,_,by unfold execOp;simp only [hx,Sem.run_bind,h,Result.andThen_ok,Sem.run_pure],_,rfl,⟨_,_,rfl,hg,hg2,.inr ⟨_,0,rfl,fun i hi=>?_⟩,hl,fun b off e _=>?_⟩,k⟩
 ·rw [Nat.zero_add,Lib.bytesWorld_cell w 5 (bstr l) i (by rw [z5u];exact hi),z2g];have:=hl _ (z1x hi);rw [z0o hi] at this ⊢;simp [List.getD_eq_getElem?_getD,List.getElem?_eq_getElem hi,Nat.mod_eq_of_lt this]
 ·cases e;exact ⟨⟨Nat.le_refl _,by rw [Lib.bytesWorld_size];omega⟩,_,_,Lib.bytesWorld_at_new w 5 (bstr l)⟩
theorem zer (a:Option Addr) (n c:Nat) (ls:List (List Nat)) (R:Nat -> Prop) (w:World) (h:RB w R (.slice a n c) ls) (hn:ls.length=n) (h9:n <= 1000) (hm:ls.flatten.length <= 100000000) :
  Calls Tryz.prog 48 #[.slice a n c] w fun e w'=>∃ v,e=.returned v /\ Bytes w' (SinceB w w') v ls.flatten /\ Keeps Nb w w':=by
 have H:=qq h;have HN:=qq hn;have HM:=qq hm;have hcm:n <= c /\ c <= 9223372036854775807:=by obtain ⟨a',c',vs,e,h1,h2,-⟩:=h;cases e;unfold maxLen at h2;rw [hn] at h1;exact ⟨h1,h2⟩
 have HBY:Hid (∀ z ∈ ls.flatten,z < 256):=qq fun z hz=>by
  obtain ⟨x,hx,hzx⟩:=List.mem_flatten.1 hz;obtain ⟨i,hi⟩:=List.getElem?_of_mem hx;obtain ⟨_,_,_,_,_,_,_,q2⟩:=h.get hi;obtain ⟨_,_,_,_,_,_,hz,_⟩:=q2;exact hz z hzx
 clear h hn hm;go_enter Tryz.func48,Tryz.ntmps48;go_wp2
 go_loop [3,4] (fun s i=>∃ k:Nat,k <= n /\ i=.int .i64 k /\ s=.string (bstr (ls.take k).flatten)) (fun _ i=>n - (intOf i).toNat)
 case atStart=>exact ⟨0,Nat.zero_le _,rfl,rfl⟩
 case round =>
  obtain ⟨k,hk,rfl,rfl⟩:=hrel;by_cases hlt:k < n
  ·
   have i1:(k:Int) < (n:Int):=by omega
   obtain ⟨x,hx⟩:∃ x,ls[k]?=some x:=⟨_,List.getElem?_eq_getElem (by rw [HN.out];exact hlt)⟩
   obtain ⟨b1,o1,ax,cx,rfl,-,q1,q2⟩:=H.out.get hx;have HH:Hid (Has w ax (x.map fun z=>.int .u8 (z:Nat))):=qq (by obtain ⟨a',c',e,_,_,hr,_⟩:=q2;cases e;exact hr.has)
   have HS:Hid (bstr (ls.take k).flatten ++ bstr x=bstr (ls.take (k + 1)).flatten):=qq (by
    rw [zdq,List.take_succ_eq_append_getElem (List.getElem?_eq_some_iff.1 hx).1,(List.getElem?_eq_some_iff.1 hx).2,List.flatten_append];simp)
   have HZ:Hid ((bstr (ls.take k).flatten).size + (bstr x).size <= 100000000):=qq (by
    have h1:=congrArg ByteArray.size HS.out;rw [ByteArray.size_append,z5u ((ls.take (k + 1)).flatten)] at h1;have h2:(ls.take (k + 1)).flatten.length <= ls.flatten.length:=by
     conv=>rhs;rw [<- List.take_append_drop (k + 1) ls,List.flatten_append,List.length_append]
     omega
    have:=HM.out;omega)
   obtain ⟨s0,hs0⟩:∃ s,bstr (ls.take k).flatten=s:=⟨_,rfl⟩
   obtain ⟨x0,hx0⟩:∃ s,bstr x=s:=⟨_,rfl⟩
   obtain ⟨xn,hxn⟩:∃ m,x.length=m:=⟨_,rfl⟩
   have HX0:=qq hx0;have HXN:=qq hxn;rw [hs0,hx0] at HS HZ;rw [hs0];rw [hxn] at q1;have hz1:=HZ.out;clear hx q2 hs0 hx0 hxn;go_wp2_with (first | go_skip | (with_reducible refine zx (s:=22) ?_) | fail)
   refine za (zv (v:=.string x0) rfl (by rw [<- HX0.out];exact z1j Tryz.underlying22 Tryz.underlying5 Tryz.underlying9 (by rfl) HH.out HXN.out) ?_);simp only [Nat.reduceAdd,qn];go_wp2;go_round
   case rel=>exact ⟨k + 1,by omega,by go_num,by rw [<- HS.out]⟩
   case measure=>simp [intOf];omega
  ·
   obtain rfl:k=n:=by omega
   have ht:ls.take k=ls:=List.take_of_length_le (by rw [HN.out];exact Nat.le_refl _);rw [ht];clear ht;go_wp2_with (first | go_skip | (with_reducible refine zx (s:=9) ?_) | fail)
   refine za (zh rfl (zgp Tryz.underlying9 Tryz.underlying22 (by rfl) HBY.out (by have:=HM.out;unfold maxLen;omega)) ?_);rintro _ w2 ⟨cc,rfl,hb,k2⟩;simp only [Nat.reduceAdd,qn];have F:=qq (And.intro hb k2);clear hb k2;go_wp2;go_ret;exact ⟨_,rfl,F.out.1,F.out.2⟩
theorem zcg {l:List Nat} (h:∀ x ∈ l,x < 256):Go.Crc.Bytes l:=h
theorem z6s (v:Value) (b:List Nat) (R:Nat -> Prop) (w:World) (h:Bytes w R v b) (hl:b.length <= 100000):Calls Tryz.prog 14 #[v] w fun e w'=>∃ v',e=.returned v' /\ Bytes w' (SinceB w w') v' (recd b) /\ Keeps Nb w w':=by
 obtain ⟨a,c,rfl,hc1,hc2,-⟩:=id h;have HB:=qq h;obtain ⟨bn,hbn⟩:∃ n,b.length=n:=⟨_,rfl⟩
 have HBN:=qq hbn;have hcm:bn <= c /\ c <= 9223372036854775807:=by unfold maxLen at hc2;omega
 have HZ:Hid (∀ z ∈ b,z < 256):=qq (by obtain ⟨_,_,_,_,_,_,hz,_⟩:=h;exact hz);rw [hbn] at hl ⊢;have P1:=qq (zao bn (by omega) w);have B4:Hid ((be 4 bn).length=4 /\ ∀ x ∈ be 4 bn,x < 256):=qq ⟨zu 4 bn,z18 4 bn⟩;clear h hbn hc1 hc2;go_enter Tryz.func14,Tryz.ntmps14;go_wp2_with fail;refine P1.out.mono ?_;rintro _ w1 ⟨v1,rfl,hb1,k1⟩;have HB1:=qq hb1;have K1:=qq k1;obtain ⟨a1,c1,rfl,hc1,hc2,hh1⟩:=hb1.rows;rw [B4.out.1] at hc1 ⊢;have hcm1:4 <= c1 /\ c1 <= 9223372036854775807:=by unfold maxLen at hc2;omega
 have HH1:=qq hh1;clear hb1 k1 P1 hc1 hc2 hh1;go_wp2_with (first | go_skip | (with_reducible refine zm ?_) | (with_reducible refine z0t ?_) | fail)
 refine za (zh rfl (z15 (n:=0) (xs:=[]) (news:=(be 4 bn).map fun x=>.int .u8 (x:Nat)) el31 (RowS.nil w1 (fun _=>False) (fun _=>False) 5 1) (by rfl) (by rfl) HH1.out (by rw [List.length_map,B4.out.1]) (by intro u hu;obtain ⟨x,-,rfl⟩:=List.mem_map.1 hu;rfl) (by omega) (by unfold maxLen;omega) (by omega)) ?_);rintro v2 w2 ⟨hr2,S2,k2,hS2⟩;simp only [Nat.reduceAdd,qn];have HR2:=qq hr2;have K2:Hid (Keeps Nb w1 w2):=qq (k2.mono fun i hi e=>by rcases (hS2 i e).1 with h | h <;> omega);obtain ⟨-,-,a2,c2,rfl,hc1,hc2,-⟩:=id hr2;have hcm2:4 <= c2 /\ c2 <= 9223372036854775807:=by unfold maxLen at hc2;omega
 have HHB:Hid (Has w2 a (b.map fun x=>.int .u8 (x:Nat))):=qq (by
  obtain ⟨a',c',e,_,_,hr,_⟩:=(HB.out.keeps K1.out (fun _ _ e=>e)).keeps K2.out (fun _ _ e=>e)
  cases e;exact hr.has)
 clear hr2 k2 hS2 hc1 hc2;go_wp2_with (first | go_skip | (with_reducible refine zm ?_) | (with_reducible refine z0t ?_) | fail)
 refine za (zh rfl (re_push' (n:=4) (news:=b.map fun x=>.int .u8 (x:Nat)) el31 HR2.out (by rfl) (by rfl) HHB.out (by rw [List.length_map,HBN.out];omega) (by intro u hu;obtain ⟨x,-,rfl⟩:=List.mem_map.1 hu;rfl) (by unfold maxLen;omega) (by omega)) ?_);rintro v3 w3 ⟨hr3,S3,k3,hS3⟩;simp only [Nat.reduceAdd,qn];have K3:Hid (Keeps Nb w1 w3):=qq (K2.out.trans k3 fun i hi e=>by have:=K2.out.size;rcases (hS3 i e).1 with (h | h) | h <;> omega);have HR3:Hid (Bytes w3 (fun _=>True) v3 (be 4 bn ++ b)):=qq ((z86 (l:=be 4 bn ++ b) (by rw [List.map_append];exact hr3) (fun z hz=>(List.mem_append.1 hz).elim (B4.out.2 z) (HZ.out z))).mono fun _ _=>trivial);have hln:(be 4 bn ++ b).length=4 + bn:=by rw [List.length_append,B4.out.1,HBN.out]
 obtain ⟨a3,c3,e3,hc1,hc2,hrd,hz3,-⟩:=id HR3.out;have SM:=qq (zda (4 + bn) c3 a3 (be 4 bn ++ b) w3 hln.symm hrd (zcg hz3) (by omega));have hcm3:4 + bn <= c3 /\ c3 <= 9223372036854775807:=by unfold maxLen at hc2;omega
 rw [hln] at e3;subst e3;obtain ⟨cs,hcs⟩:∃ n,Go.Crc.mor 0 (be 4 bn ++ b)=n:=⟨_,rfl⟩
 have hcl:cs < 4294967296:=by rw [<- hcs];exact z3v _
 have HCS:Hid (csum (be 4 bn ++ b)=cs):=qq hcs;rw [hcs] at SM;clear hr3 k3 hS3 hc1 hc2 hrd hz3 hln hcs HR2 HHB;go_wp2_with fail;refine SM.out.mono ?_;rintro _ _ ⟨rfl,rfl⟩;have P2:=qq (zao cs (by omega) w3);go_wp2_with fail;refine P2.out.mono ?_;rintro _ w4 ⟨v4,rfl,hb4,k4⟩;have HB4:=qq hb4;have K4:=qq (K3.out.trans_nb k4);obtain ⟨a4,c4,rfl,hc1,hc2,-⟩:=hb4.rows;have hl4:(be 4 cs).length=4:=zu 4 cs;rw [hl4] at hc1 ⊢;have hcm4:4 <= c4 /\ c4 <= 9223372036854775807:=by unfold maxLen at hc2;omega
 clear hb4 k4 P2 hc1 hc2 hl4 SM;go_wp2_with (first | go_skip | (with_reducible refine zm ?_) | (with_reducible refine z0t ?_) | fail)
 refine za (zh rfl (zl el27 [.slice a1 4 c1,.slice a4 4 c4,.slice a bn c] rfl (by simp [List.range'_succ];first | done | rfl | exact ⟨rfl,rfl⟩ | exact ⟨rfl,rfl,rfl⟩) (by simp [Value.cells]) (by simp)) ?_);rintro _ w5 ⟨g5,rfl,n5⟩;simp only [Nat.reduceAdd,qn];have K5:Hid (Keeps Nb w w5):=qq ((K1.out.trans_nb K4.out).trans_nb n5.k);have hrb:RB w5 (fun _=>True) (.slice (some ⟨g5,0,none⟩) 3 3) [be 4 bn,be 4 cs,b]:=by
  refine ⟨some ⟨g5,0,none⟩,3,[.slice a1 4 c1,.slice a4 4 c4,.slice a bn c],rfl,Nat.le_refl _,by unfold maxLen;decide,zo n5.blk,fun _ _ _ _=>trivial,.cons ?_ (.cons ?_ (.cons ?_ (.nil _ _)))⟩
  ·have:=((HB1.out.keeps K4.out (fun _ _ e=>e)).keeps n5.k (fun _ _ e=>e)).mono (R':=fun _=>True) fun _ _=>trivial;rw [B4.out.1] at this;exact this
  ·have:=(HB4.out.keeps n5.k (fun _ _ e=>e)).mono (R':=fun _=>True) fun _ _=>trivial;rw [zu] at this;exact this
  ·have:=(((HB.out.keeps K1.out (fun _ _ e=>e)).keeps K4.out (fun _ _ e=>e)).keeps n5.k (fun _ _ e=>e)).mono (R':=fun _=>True) fun _ _=>trivial;rw [HBN.out] at this;exact this
 have JN:=qq (zer (some ⟨g5,0,none⟩) 3 3 _ _ w5 hrb rfl (by omega) (by simp [zu,HBN.out];omega));clear n5 hrb;go_wp2_with fail;refine JN.out.mono ?_;rintro _ w6 ⟨v6,rfl,hb6,k6⟩;have e:([be 4 bn,be 4 cs,b]:List (List Nat)).flatten=recd b:=by
  unfold recd;rw [HBN.out,HCS.out];simp
 rw [e] at hb6;obtain ⟨a6,c6,e6,-⟩:=id hb6;rw [zw,HBN.out] at e6;subst e6;have F:Hid (Bytes w6 (SinceB w w6) (.slice a6 (8 + bn) c6) (recd b) /\ Keeps Nb w w6):=qq ⟨hb6.mono fun k hk=>⟨⟨by have:=hk.1.1;have:=K5.out.size;omega,hk.1.2⟩,hk.2⟩,K5.out.trans_nb k6⟩;clear hb6 k6 JN e;go_wp2;go_ret;exact ⟨_,rfl,F.out.1,F.out.2⟩
end Go.Proofs.YtpjomdmjohjheaaGreatDoor
end
section
namespace Go.Log
open Go.Lk Go.RowKit Go.Vfs
variable {all:List Nat} {p n:Nat} {l:List (List Nat)}
structure RW (all:List Nat) (p:Nat) (l:List (List Nat)):Prop where
 le:p <= all.length
 ex:∃ i f,(items (all.length + 1) 0 all).drop i=items f p (all.drop p) /\ all.length - p < f /\ goodI (items (all.length + 1) 0 all) i /\ endI (items (all.length + 1) 0 all) i=(p:Int) /\ ((items (all.length + 1) 0 all).take i).map Prod.snd=l
theorem zex (all:List Nat):RW all 0 []:=⟨Nat.zero_le _,0,all.length + 1,by simp,by omega,(fun q hq=>by simp at hq),rfl,rfl⟩
theorem rw_len (h:RW all p l):l.length * 8 <= all.length + 8:=by
 obtain ⟨hle,i,f,h1,h2,h3,h4,h5⟩:=h;have h6:=z2j (all.length + 1) 0 all;rw [<- h5,List.length_map,List.length_take];omega
theorem rw_end {i:Nat} {its:List (Int × List Nat)} (h0:its.drop i=[]) (hg:goodI its i) (he:endI its i=(p:Int)) (hm:(its.take i).map Prod.snd=l):wholeI its=(l,p,true):=by
 have hle:its.length <= i:=List.drop_eq_nil_iff.1 h0;have ht:its.take i=its:=List.take_of_length_le hle;have hg2:goodI its its.length:=fun q hq=>hg q (by rw [ht];rwa [List.take_length] at hq);rw [z70 hg2];have e2:endI its its.length=(p:Int):=by rw [<- he];unfold endI;rw [ht,List.take_length]
 rw [e2,<- hm,ht];simp
theorem zaq (h:RW all p l) (hd:all.length - p < 8 \/ (8 <= all.length - p /\ all.length - p - 8 < num ((all.drop p).take 4))):whole all=(l,p,true):=by
 obtain ⟨hle,i,f,h1,h2,h3,h4,h5⟩:=h;obtain ⟨f,rfl⟩:∃ g,f=g + 1:=⟨f - 1,by omega⟩
 refine rw_end (h1.trans ?_) h3 h4 h5;unfold items;rw [List.length_drop];rcases hd with hd | ⟨hd,hn⟩
 ·rw [if_pos hd]
 ·rw [if_neg (by omega),if_pos hn]
theorem zfk {a b:Nat} (ha:a < 4294967296) (hb:b < 4294967296) (h:be 4 a=be 4 b):a=b:=by
 have h1:=z3x 4 a;rw [h,z3x,Nat.mod_eq_of_lt (by omega),Nat.mod_eq_of_lt (by omega)] at h1;exact h1.symm
theorem zar {r:List Nat} (hb:∀ x ∈ r,x < 256) (h8:8 <= r.length) (hn:num (r.take 4) <= r.length - 8) :
  (recd ((r.drop 8).take (num (r.take 4)))=r.take (8 + num (r.take 4))) ↔ csum (r.take 4 ++ (r.drop 8).take (num (r.take 4)))=num ((r.drop 4).take 4):=by
 obtain ⟨n,hnn⟩:∃ n,num (r.take 4)=n:=⟨_,rfl⟩
 rw [hnn] at hn ⊢;have b4:be 4 n=r.take 4:=by
  have:=zcd (l:=r.take 4) (fun x hx=>hb x (List.mem_of_mem_take hx));rw [List.length_take,Nat.min_eq_left (by omega),hnn] at this;exact this
 have c4:be 4 (num ((r.drop 4).take 4))=(r.drop 4).take 4:=by
  have:=zcd (l:=(r.drop 4).take 4) (fun x hx=>hb x (List.mem_of_mem_drop (List.mem_of_mem_take hx)));rw [List.length_take,List.length_drop,Nat.min_eq_left (by omega)] at this;exact this
 have cl:num ((r.drop 4).take 4) < 4294967296:=by
  have:=z3y (l:=(r.drop 4).take 4) (fun x hx=>hb x (List.mem_of_mem_drop (List.mem_of_mem_take hx)));rw [List.length_take,List.length_drop,Nat.min_eq_left (by omega)] at this;omega
 have xl:((r.drop 8).take n).length=n:=by rw [List.length_take,List.length_drop];omega
 have e:r.take (8 + n)=r.take 4 ++ ((r.drop 4).take 4 ++ (r.drop 8).take n):=by
  rw [show 8 + n=4 + (4 + n) by omega,List.take_add,List.take_add,List.drop_drop]
 unfold recd;rw [xl,e,b4];constructor
 ·intro h;have h1:=List.append_cancel_left h;have h2:=(List.append_inj h1 (by rw [zu,List.length_take,List.length_drop];omega)).1;rw [<- c4] at h2;exact zfk (z3v _) cl h2
 ·intro h;rw [h,c4]
theorem rw_bad (h:RW all p l) (hb:∀ x ∈ all,x < 256) (h8:8 <= all.length - p) (hn:num ((all.drop p).take 4)=n) (hle:n <= all.length - p - 8) (ht:mxr < n \/ recd (((all.drop p).drop 8).take n) ≠ (all.drop p).take (8 + n)):whole all=(l,p,false):=by
 have hd:=zar (r:=all.drop p) (fun x hx=>hb x (List.mem_of_mem_drop hx)) (by rw [List.length_drop];exact h8) (by rw [List.length_drop,hn];exact hle);obtain ⟨hle',i,f,h1,h2,h3,h4,h5⟩:=h;obtain ⟨f,rfl⟩:∃ g,f=g + 1:=⟨f - 1,by omega⟩
 have h1':(items (all.length + 1) 0 all).drop i=[(-1,[])]:=h1.trans (by rw [items,List.length_drop,if_neg (by omega),hn,if_neg (by omega),if_pos (ht.imp id fun g e=>g (by rw [hn] at hd;exact hd.2 e))]);replace h1:=h1';have h6:(items (all.length + 1) 0 all)[i]?=some (-1,[]):=by
  have:=congrArg (fun q:List (Int × List Nat)=>q[0]?) h1;simpa [List.getElem?_drop] using this
 have:=z71 h3 h6 (by decide);unfold whole;rw [this,h5,h4];rfl
theorem zgy (h:RW all p l) (hb:∀ x ∈ all,x < 256) (h8:8 <= all.length - p) (hn:num ((all.drop p).take 4)=n) (hle:n <= all.length - p - 8) (hm:n <= mxr) (ht:recd (((all.drop p).drop 8).take n)=(all.drop p).take (8 + n)):RW all (p + 8 + n) (l ++ [((all.drop p).drop 8).take n]):=by
 have hd:=zar (r:=all.drop p) (fun x hx=>hb x (List.mem_of_mem_drop hx)) (by rw [List.length_drop];exact h8) (by rw [List.length_drop,hn];exact hle);rw [hn] at hd;obtain ⟨hle',i,f,h1,h2,h3,h4,h5⟩:=h;obtain ⟨f,rfl⟩:∃ g,f=g + 1:=⟨f - 1,by omega⟩
 have hno:¬ (mxr < n \/ csum ((all.drop p).take 4 ++ ((all.drop p).drop 8).take n) ≠ num (((all.drop p).drop 4).take 4)):=fun g=>g.elim (fun g=>by omega) (fun g=>g (hd.1 ht));have h1':(items (all.length + 1) 0 all).drop i=(((p + 8 + n:Nat):Int),((all.drop p).drop 8).take n) :: items f (p + 8 + n) (all.drop (p + (8 + n))):=h1.trans (by rw [items,List.length_drop,if_neg (by omega),hn,if_neg (by omega),if_neg hno];simp only [List.drop_drop]);replace h1:=h1';have h6:(items (all.length + 1) 0 all)[i]?=some (((p + 8 + n:Nat):Int),((all.drop p).drop 8).take n):=by
  have:=congrArg (fun q:List (Int × List Nat)=>q[0]?) h1;simpa [List.getElem?_drop] using this
 refine ⟨by omega,i + 1,f,?_,by omega,z6f h6 h3 (by show (0:Int) <= _;omega),z7r h6,by rw [z7y h6,h5]⟩;have h7:=congrArg (List.drop 1) h1;rw [List.drop_drop,List.drop_succ_cons,List.drop_zero] at h7;rw [h7]
 congr 1
 rw [show p + (8 + n)=p + 8 + n by omega]
end Go.Log
namespace Go.Proofs.YtpjomdmjohjheaaGreatDoor
open Go.RowKit Go.Lk Go.Vfs Go.Log
theorem zbu {P:Program} {ops:Array Oper} {rest:List Oper} {dst:Option Tmp} {x:Operand} {lo hi mx:Option Operand} {t ty:TypeId} {pos:String} {aft:Array Edge} {gd:Option (Nat × Bool)} {a:Act} {w:World} {Q:Exit -> Act -> World -> Prop}
  (h:At (wpList P ops Q (⟨dst,.slice t x lo hi mx,ty,pos,aft,gd⟩ :: rest) a w)):wpList P ops Q (⟨dst,.slice t x lo hi mx,ty,pos,aft,gd⟩ :: rest) a w:=h
theorem tl_ne {x y:ByteArray} {r:Bool} (h:(x != y)=r):(x.toList == y.toList)=!r:=by
 subst h;unfold bne;rw [z2c,Bool.not_not];by_cases e:x=y
 ·subst e;simp
 ·have:¬ x.toList=y.toList:=fun h=>e (ba_tl h);simp [e,this]
def RWholeD (b:List Nat) (w:World) (e:Ending) (w':World):Prop :=
 ∃ lv,e=.returned (.tuple #[lv,.int .i64 ((whole b).2.1:Nat),.bool (whole b).2.2]) /\ RB w' (fun _=>True) lv (whole b).1 /\ Keeps Nb w w'
theorem z4d {b:List Nat} {w wr:World} {p n:Nat} {r:Bool} {l:List (List Nat)} {vs:List Value} {la:Option Addr} {lc:Nat} (hw:whole b=(l,p,r)) (hn:l.length=n) (hr:RowS wr (Since w wr) (fun _=>False) 22 1 (.slice la n lc) n vs) (hb:BytesL wr (fun k=>k < w.heap.size) vs l) (hk:Keeps Nb w wr):RWholeD b w (.returned (.tuple #[.slice la n lc,.int .i64 (p:Nat),.bool r])) wr:=by
 refine ⟨_,by rw [hw],?_,hk⟩;rw [hw];subst hn;exact RB.of hr hb (fun _ _=>trivial) (fun _ _=>trivial)
theorem zdf (v:Value) (b:List Nat) (R:Nat -> Prop) (w:World) (h:Bytes w R v b) (hR:∀ k,R k -> k < w.heap.size) (hl:b.length <= 20000):Calls Tryz.prog 13 #[v] w (RWholeD b w):=by
 obtain ⟨a,c,rfl,hc1,hc2,hrd,hz,hrb⟩:=id h;have HRB:Hid (∀ b9 off,a=some ⟨b9,off,none⟩ -> b ≠ [] -> b9 < w.heap.size):=qq fun b9 off e hne=>hR _ (hrb b9 off e hne);have HB:=qq h;have HRD:=qq hrd;have HZ:=qq hz;obtain ⟨bn,hbn⟩:∃ n,b.length=n:=⟨_,rfl⟩
 have HBN:=qq hbn;have hcm:bn <= c /\ c <= 9223372036854775807:=by unfold maxLen at hc2;omega
 rw [hbn] at hl ⊢;clear h hbn hc1 hc2 hrd hz hrb hR;go_enter Tryz.func13,Tryz.ntmps13;go_wp2
 go_loopw [5,6] (fun lv i wr=>∃ (p:Nat) (l:List (List Nat)) (vs:List Value),RW b p l /\ i=.int .i64 p /\ RowS wr (Since w wr) (fun _=>False) 22 1 lv l.length vs /\ BytesL wr (fun k=>k < w.heap.size) vs l /\ Keeps Nb w wr) (fun _ i _=>bn - (intOf i).toNat)
 case atStart=>exact ⟨0,[],[],zex b,rfl,RowS.nil _ _ _ _ _,BytesL.nil _ _,Keeps.refl _ _⟩
 case round =>
  obtain ⟨p,l,vs,hrw,rfl,hr,hb,kr⟩:=hrel;obtain ⟨n0,hn0⟩:∃ n,l.length=n:=⟨_,rfl⟩
  have HN0:=qq hn0;rw [hn0] at hr;obtain ⟨-,-,la,lc,rfl,hl1,hl2,-⟩:=id hr;have hlm:n0 <= lc /\ lc <= 9223372036854775807:=by unfold maxLen at hl2;exact ⟨hl1,hl2⟩
  have HRW:=qq hrw;have HR:=qq hr;have HBL:=qq hb;have KR:=qq kr;have hpb:p <= bn:=by rw [<- HBN.out];exact hrw.le
  clear hrw hr hb kr hl1 hl2 hn0;by_cases h8:p + 8 <= bn
  ·
   obtain ⟨b9,o9,rfl⟩:∃ b off,a=some ⟨b,off,none⟩:=by
    rcases HRD.out with h | ⟨b,off,h,-⟩
    ·exfalso;have:=HBN.out;rw [h] at this;simp at this;omega
    ·exact ⟨b,off,h⟩
   have i1:(p:Int) + 8 <= (bn:Int):=by omega
   have i2:p + 4 <= c:=by omega
   have hcp:¬ c=p:=by omega
   have RDp:=qq ((HRD.out.nb KR.out).drop p);have GT:=qq (zgt (some ⟨b9,o9 + p,none⟩) (c - p) ((b.drop p).take 4) wr (RDp.out.take 4) (by rw [List.length_take,List.length_drop,HBN.out];omega) (by omega) (fun x hx=>HZ.out x (List.mem_of_mem_drop (List.mem_of_mem_take hx))));obtain ⟨n,hn⟩:∃ n,num ((b.drop p).take 4)=n:=⟨_,rfl⟩
   have hn32:n < 4294967296:=by
    have:=z3y (l:=(b.drop p).take 4) (fun x hx=>HZ.out x (List.mem_of_mem_drop (List.mem_of_mem_take hx)));rw [List.length_take,List.length_drop,HBN.out,hn,Nat.min_eq_left (by omega)] at this;omega
   have HNN:=qq hn;rw [hn] at GT;clear hn;go_wp2_with fail;refine GT.out.mono ?_;rintro _ w1 ⟨rfl,hd⟩;have K1:Hid (Keeps Nb wr w1):=qq hd.keeps;have KW1:Hid (Keeps Nb w w1):=qq (KR.out.trans_nb K1.out);clear hd GT;by_cases hle:n <= bn - p - 8
   ·
    have t1:¬ ((n:Int) > (bn:Int) - (p:Int) - 8):=by omega
    have t2:decide ((n:Int) > (bn:Int) - (p:Int) - 8)=false:=by simp;omega
    obtain ⟨x,hx⟩:∃ x,((b.drop p).drop 8).take n=x:=⟨_,rfl⟩
    have hxl:x.length=n:=by rw [<- hx,List.length_take,List.length_drop,List.length_drop,HBN.out];omega
    obtain ⟨y,hy⟩:∃ y,(b.drop p).take (8 + n)=y:=⟨_,rfl⟩
    have hyl:y.length=8 + n:=by rw [<- hy,List.length_take,List.length_drop,HBN.out];omega
    have HX:=qq hx;have HY:=qq hy;have HXL:=qq hxl;have HYL:=qq hyl;have RX:Hid (ReadsN .u8 w1 (some ⟨b9,o9 + (p + 8),none⟩) x):=qq (by rw [<- hx,List.drop_drop];exact ((HRD.out.nb KW1.out).drop (p + 8)).take n);have RY:Hid (ReadsN .u8 w1 (some ⟨b9,o9 + p,none⟩) y):=qq (by rw [<- hy];exact ((HRD.out.nb KW1.out).drop p).take (8 + n));have BX:Hid (Bytes w1 (fun k=>k < w.heap.size) (.slice (some ⟨b9,o9 + (p + 8),none⟩) n (c - (p + 8))) x):=qq ⟨_,_,by rw [hxl],by omega,by unfold maxLen;omega,RX.out,(fun z hz=>by rw [<- hx] at hz;exact HZ.out z (List.mem_of_mem_drop (List.mem_of_mem_drop (List.mem_of_mem_take hz)))),fun b' off' e hne=>by cases e;exact HRB.out _ _ rfl (fun e=>by have:=HBN.out;rw [e] at this;simp at this;omega)⟩;clear hx hy hxl hyl;obtain ⟨j,hj⟩:∃ j,p + 8=j:=⟨_,rfl⟩
    obtain ⟨q,hq⟩:∃ q,j + n=q:=⟨_,rfl⟩
    have HJ:Hid (p + 8=j /\ j + n=q):=qq ⟨hj,hq⟩;have hqc:q <= c:=by omega
    have hjq:j <= q:=by omega
    have hpq:p <= q:=by omega
    have iw8:IntKind.i64.wrap ((p:Int) + 8)=(j:Int):=by rw [IntWalk.i64_in _ (by omega)];omega
    have iwq:IntKind.i64.wrap ((j:Int) + (n:Int))=(q:Int):=by rw [IntWalk.i64_in _ (by omega)];omega
    have hqj:q - j=n:=by omega
    have hqp:q - p=8 + n:=by omega
    have hn20:¬ (n:Int) > 1048576:=by omega
    rw [hj] at RX BX;obtain ⟨ax,cx,hcase,hbx⟩:∃ ax cx,((c=j /\ n=0 /\ ax=⟨b9,o9,none⟩ /\ cx=0) \/ (¬ c=j /\ ax=⟨b9,o9 + j,none⟩ /\ cx=c - j)) /\ Bytes w1 (fun k=>k < w.heap.size) (.slice (some ax) n cx) x:=by
     by_cases hcj:c=j
     ·
      have hn0:n=0:=by omega
      have hx0:x=[]:=List.length_eq_zero_iff.1 (by rw [HXL.out];exact hn0);exact ⟨_,_,.inl ⟨hcj,hn0,rfl,rfl⟩,⟨_,_,by rw [hx0,hn0];rfl,by rw [hx0];exact Nat.le_refl _,by unfold maxLen;omega,.inl hx0,(fun z hz=>by rw [hx0] at hz;cases hz),fun _ _ _ hne=>absurd hx0 hne⟩⟩
     ·exact ⟨_,_,.inr ⟨hcj,rfl,rfl⟩,BX.out⟩
    have HCASE:=qq hcase;replace BX:=qq hbx;clear hcase hbx;have RC:=qq (fun (u:World) (k:Keeps Nb w1 u)=>z6s (.slice (some ax) n cx) x _ u (BX.out.keeps k (fun _ _ e=>e)) (by rw [HXL.out];omega));clear hj hq h8 i1 i2;go_wp2;refine WT.region (fun u=>Has u (some ⟨b9,o9 + p,none⟩) (y.map fun z=>Value.int .u8 (z:Nat))) 23 23 [0,1,2,3,4,5,6,7,8,9,10,13,14,15,16,17,18,19,20,11,12,21,22] (by kernel_rfl) rfl ?_;have kd:Keeps Nb w1 w1.drew:=(Keeps.refl Nb w1).drew;have HS:Hid ((fun u:World=>Has u (some ⟨b9,o9 + p,none⟩) (y.map fun z=>Value.int .u8 (z:Nat))) w1.drew):=qq ((RY.out.nb kd).has);refine WT.t 0 (v:=_) (y:=by rintro w C1;go_simp;with_reducible rfl) (s:=HS.out) (h:=?_);refine WT.t 1 (v:=.bool false) (y:=by rintro w C1;go_simp;first | done | omega | simp;omega) (s:=HS.out) (h:=?_);refine WT.t 2 (v:=_) (y:=by rintro w C1;go_simp;with_reducible rfl) (s:=HS.out) (h:=?_);refine WT.t 3 (v:=_) (y:=by rintro w C1;go_simp;with_reducible rfl) (s:=HS.out) (h:=?_);refine WT.t 4 (v:=_) (y:=by rintro w C1;go_simp;with_reducible rfl) (s:=HS.out) (h:=?_);refine WT.t 5 (v:=.int .i64 ((j:Nat):Int)) (y:=by rintro w C1;go_simp;first | done | exact iw8 | rw [iw8] | simp [iw8]) (s:=HS.out) (h:=?_);refine WT.t 6 (v:=_) (y:=by rintro w C1;go_simp;with_reducible rfl) (s:=HS.out) (h:=?_);refine WT.t 7 (v:=.int .i64 ((j:Nat):Int)) (y:=by rintro w C1;go_simp;first | done | exact iw8 | rw [iw8] | simp [iw8]) (s:=HS.out) (h:=?_);refine WT.t 8 (v:=_) (y:=by rintro w C1;go_simp;with_reducible rfl) (s:=HS.out) (h:=?_);refine WT.t 9 (v:=.int .i64 ((q:Nat):Int)) (y:=by rintro w C1;go_simp;first | done | exact iwq | rw [iwq] | simp [iwq]) (s:=HS.out) (h:=?_);refine WT.t 10 (v:=.slice (some ax) n cx) (y:=by rintro w C1;rcases HCASE.out with ⟨e1,e2,rfl,rfl⟩ | ⟨e1,rfl,rfl⟩ <;> (go_simp;first | done | rfl | (intro h;exfalso;omega))) (s:=HS.out) (h:=?_);refine WT.t 13 (v:=_) (y:=by rintro w C1;go_simp;with_reducible rfl) (s:=HS.out) (h:=?_);refine WT.t 14 (v:=_) (y:=by rintro w C1;go_simp;with_reducible rfl) (s:=HS.out) (h:=?_);refine WT.t 15 (v:=_) (y:=by rintro w C1;go_simp;with_reducible rfl) (s:=HS.out) (h:=?_);refine WT.t 16 (v:=.int .i64 ((j:Nat):Int)) (y:=by rintro w C1;go_simp;first | done | exact iw8 | rw [iw8] | simp [iw8]) (s:=HS.out) (h:=?_);refine WT.t 17 (v:=_) (y:=by rintro w C1;go_simp;with_reducible rfl) (s:=HS.out) (h:=?_);refine WT.t 18 (v:=.int .i64 ((q:Nat):Int)) (y:=by rintro w C1;go_simp;first | done | exact iwq | rw [iwq] | simp [iwq]) (s:=HS.out) (h:=?_);refine WT.t 19 (v:=.slice (some ⟨b9,o9 + p,none⟩) (8 + n) (c - p)) (y:=by rintro w C1;go_simp;first | done | rfl | (intro h;exact absurd h hcp)) (s:=HS.out) (h:=?_);refine WT.t 20 (v:=.string (bstr y)) (y:=by rintro w C1;exact z1j Tryz.underlying22 Tryz.underlying5 Tryz.underlying9 (by rfl) C1 HYL.out) (s:=HS.out) (h:=?_);refine WT.call 11 (by simp only [qi];rfl) (by kernel_rfl) (by rfl) (by go_simp;first | done | rfl | exact ⟨⟨rfl,rfl⟩,rfl⟩ | exact ⟨⟨rfl,rfl,rfl⟩,rfl⟩) (RC.out _ kd) ?_;rintro _ w2 ⟨v2,rfl,hb2,k2⟩;have K2:Hid (Keeps Nb w1 w2):=qq (kd.trans_nb k2);replace HS:Hid ((fun u:World=>Has u (some ⟨b9,o9 + p,none⟩) (y.map fun z=>Value.int .u8 (z:Nat))) w2):=qq ((RY.out.nb K2.out).has);obtain ⟨a2,c2,rfl,-,-,hr2,-⟩:=id hb2;obtain ⟨rl,hrl⟩:∃ m,(recd x).length=m:=⟨_,rfl⟩
    have HRL:=qq hrl;have HH2:Hid (Has w2 a2 ((recd x).map fun z=>Value.int .u8 (z:Nat))):=qq hr2.has;rw [hrl];clear hb2 k2 kd hr2 hrl RC;refine ⟨_,rfl,HS.out,?_⟩;simp only [Nat.reduceAdd,qn];refine WT.only 12 (v:=.string (bstr (recd x))) (by simp only [qi];rfl) (by kernel_rfl) (by rfl) (z1j Tryz.underlying22 Tryz.underlying5 Tryz.underlying9 (by rfl) HH2.out HRL.out) HS.out ?_;simp only [Nat.reduceAdd,qn];obtain ⟨r,hr⟩:∃ r,(bstr (recd x) != bstr y)=r:=⟨_,rfl⟩
    have HRR:=qq hr;refine WT.t 21 (v:=.bool r) (y:=by rintro w C1;go_simp;first | done | exact tl_ne hr) (s:=HS.out) (h:=?_);refine WT.t 22 (v:=.bool r) (y:=by rintro w C1;go_simp;first | done | rfl | (cases r <;> rfl)) (s:=HS.out) (h:=?_);refine WT.stop (by kernel_rfl) (WP.done (by kernel_rfl) ?_);have KW2:Hid (Keeps Nb wr w2):=qq (K1.out.trans_nb K2.out);have HR2:Hid (RowS w2 (Since w w2) (fun _=>False) 22 1 (.slice la n0 lc) n0 vs):=qq ((HR.out.keeps KW2.out (fun _ _ _ e=>e)).mono (fun k e=>⟨e.1,Nat.lt_of_lt_of_le e.2 KW2.out.size⟩) (fun _ e=>e));have HBL2:=qq (HBL.out.keeps KW2.out (fun _ _ e=>e));have KA2:=qq (KW1.out.trans_nb K2.out);clear HS hr HH2 HR HBL KW1;cases r with
    | true =>
     have hne:recd x ≠ y:=fun e=>by have:=HRR.out;rw [e,zh6 rfl] at this;cases this
     have F:Hid (RWholeD b w (.returned (.tuple #[.slice la n0 lc,.int .i64 (p:Nat),.bool false])) w2):=qq (z4d (rw_bad HRW.out HZ.out (by rw [HBN.out];have:=HJ.out;omega) HNN.out (by rw [HBN.out];exact hle) (.inr (by rw [HX.out,HY.out];exact hne))) HN0.out HR2.out HBL2.out KA2.out);clear hne;go_wp2
     go_ret3
     exact F.out
    | false =>
     have heq:recd x=y:=by
      refine zdr (zbn (fun z hz=>by rw [<- HX.out] at hz;exact HZ.out z (List.mem_of_mem_drop (List.mem_of_mem_drop (List.mem_of_mem_take hz))))) (fun z hz=>by rw [<- HY.out] at hz;exact HZ.out z (List.mem_of_mem_drop (List.mem_of_mem_take hz))) ?_;have:=HRR.out;unfold bne at this;rw [z2c] at this;simpa using this
     have NW:Hid (RW b q (l ++ [x])):=qq (by
      have h:=zgy HRW.out HZ.out (by rw [HBN.out];have:=HJ.out;omega) HNN.out (by rw [HBN.out];exact hle) (by unfold mxr;omega) (by rw [HX.out,HY.out];exact heq);rw [HX.out,show p + 8 + n=q by have:=HJ.out;omega] at h
      exact h)
     clear heq;go_wp2_with (first | go_skip | (with_reducible refine zbu ?_) | (with_reducible refine zm ?_) | (with_reducible refine z0t ?_) | fail)
     refine za (zv (v:=.slice (some ax) n cx) rfl (by rcases HCASE.out with ⟨e1,e2,rfl,rfl⟩ | ⟨e1,rfl,rfl⟩ <;> (go_simp;first | done | rfl | (rw [if_pos (by omega)]))) ?_);simp only [Nat.reduceAdd,qn];go_wp2_with (first | go_skip | (with_reducible refine zm ?_) | (with_reducible refine z0t ?_) | fail)
     refine za (zh rfl (zl el27 [.slice (some ax) n cx] rfl (by simp [List.range'_succ];first | done | rfl) (by simp [Value.cells]) (by simp)) ?_);rintro _ w3 ⟨g3,rfl,n3⟩;simp only [Nat.reduceAdd,qn];have HR3:=HR2.out.keeps n3.k (fun _ _ _ e=>e);have HH3:=zo n3.blk;have K3:=qq (KA2.out.trans_nb n3.k);have BX3:=qq ((BX.out.keeps K2.out (fun _ _ e=>e)).keeps n3.k (fun _ _ e=>e));have HBL3:=qq (HBL2.out.keeps n3.k (fun _ _ e=>e));have ZZ:Hid (w2.heap.size <= w3.heap.size):=qq n3.k.size;have hnb:n0 <= 20000:=by
      have:=rw_len HRW.out;rw [HN0.out,HBN.out] at this;omega
     clear n3;go_wp2_with (first | go_skip | (with_reducible refine zm ?_) | (with_reducible refine z0t ?_) | fail)
     refine za (zh rfl (z15 (news:=[.slice (some ax) n cx]) el27 HR3 (by rfl) (by rfl) HH3 rfl (by intro u hu;rw [List.mem_singleton.1 hu];rfl) (by omega) (by unfold maxLen;omega) (by omega)) ?_);rintro v6 w6 ⟨hr6,S6,k6,hS6⟩;simp only [Nat.reduceAdd,qn];have hE:∀ k,S6 k -> w.heap.size <= k /\ IsT w3 22 k:=fun k e=>by
      exact ⟨(hS6 k e).1.1,(hS6 k e).2⟩
     have F:Hid (RowS w6 (Since w w6) (fun _=>False) 22 1 v6 (l ++ [x]).length (vs ++ [.slice (some ax) n cx]) /\ BytesL w6 (fun k=>k < w.heap.size) (vs ++ [.slice (some ax) n cx]) (l ++ [x]) /\ Keeps Nb w w6):=qq (by
      have z2:=KA2.out.size;have z3:=ZZ.out;have z6:=k6.size;refine ⟨?_,(HBL3.out.keeps k6 (fun k hk e=>by have:=(hE k e).1;omega)).append (.cons (BX3.out.keeps k6 (fun k hk e=>by have:=(hE k e).1;omega)) (.nil _ _)),K3.out.trans k6 (fun i hi e=>by have:=(hE i e).1;omega)⟩;have e1:(l ++ [x]).length=n0 + 1:=by rw [List.length_append,HN0.out];rfl
      rw [e1]
      exact hr6.mono (fun k hk=>by unfold Since at hk ⊢;rcases hk with hk | hk <;> omega) (fun _ h=>h))
     obtain ⟨-,-,a6,c6,rfl,-⟩:=id hr6;clear hr6 k6 hS6 HR3 HH3 hE;go_wp2;go_roundw
     case rel=>exact ⟨q,l ++ [x],_,NW.out,rfl,F.out.1,F.out.2.1,F.out.2.2⟩
     case measure=>have:=HJ.out;simp [intOf];omega
   ·
    have t2:(n:Int) > (bn:Int) - (p:Int) - 8:=by omega
    have F:Hid (RWholeD b w (.returned (.tuple #[.slice la n0 lc,.int .i64 (p:Nat),.bool true])) w1):=qq (z4d (zaq HRW.out (.inr ⟨by rw [HBN.out];omega,by rw [HBN.out,HNN.out];omega⟩)) HN0.out ((HR.out.keeps K1.out (fun _ _ _ e=>e)).mono (fun k e=>⟨e.1,Nat.lt_of_lt_of_le e.2 K1.out.size⟩) (fun _ e=>e)) (HBL.out.keeps K1.out (fun _ _ e=>e)) KW1.out);go_wp2
    go_ret3
    exact F.out
  ·
   have i1:¬ ((p:Int) + 8 <= (bn:Int)):=by omega
   have F:Hid (RWholeD b w (.returned (.tuple #[.slice la n0 lc,.int .i64 (p:Nat),.bool true])) wr):=qq (z4d (zaq HRW.out (.inl (by rw [HBN.out];omega))) HN0.out HR.out HBL.out KR.out);go_wp2
   go_ret3
   exact F.out
end Go.Proofs.YtpjomdmjohjheaaGreatDoor
end
section
namespace Go.Log
open Go.Vfs
variable {nm:ByteArray} {X Y Z:Ds} {e:Int} {s t:ByteArray} {n k m:Nat} {bs:List Nat}
structure Fau (D:Dk):Prop where
 dead:D.dead=false
 fuse:D.fuse < 0
theorem zce (D:Dk):(chg D).1.fe=D.fe \/ (chg D).1.fe=0:=by
 unfold chg;simp only;split
 ·exact .inr rfl
 ·
  split
  ·left;simp only;split <;> rfl
  ·left;simp only;split <;> rfl
theorem za2 {D:Dk} (h:Fau D):Fau (chg D).1 /\ ((chg D).2.2 ≠ 0 -> (chg D).1.fe=0) /\ (D.fe=0 -> (chg D).2.2=0 /\ (chg D).1.fe=0):=by
 obtain ⟨h1,h2⟩:=h;have f1:¬ 0 < D.fuse:=by omega
 have f0:¬ D.fuse=0:=by omega
 unfold chg;simp only [if_neg f1];split
 ·rename_i hf;exact ⟨⟨h1,h2⟩,fun _=>rfl,fun h0=>absurd h0 hf.1⟩
 ·
  by_cases h0:D.fe=0
  ·
   try rw [if_neg f0]
   exact ⟨by simp only;split <;> exact ⟨h1,h2⟩,fun h=>absurd rfl h,fun _=>⟨rfl,by simp only;split <;> exact h0⟩⟩
  ·
   try rw [if_neg f0]
   exact ⟨by simp only;split <;> exact ⟨h1,h2⟩,fun h=>absurd rfl h,fun h=>absurd h h0⟩
structure FR (X:Ds) (e:Int) (Y:Ds):Prop where
 fau:Fau Y.D
 met:e ≠ 0 -> Y.D.fe=0
 calm:X.D.fe=0 -> e=0 /\ Y.D.fe=0
 fe:Y.D.fe=X.D.fe \/ Y.D.fe=0
theorem FR.trans (h1:FR X 0 Z) (h2:FR Z e Y):FR X e Y:=⟨h2.fau,h2.met,fun h=>h2.calm (h1.calm h).2,h2.fe.elim (fun e=>e ▸ h1.fe) .inr⟩
theorem FR.refl (h:Fau X.D):FR X 0 X:=⟨h,fun h=>absurd rfl h,fun h=>⟨rfl,h⟩,.inl rfl⟩
theorem FR.chg (h:Fau X.D) (hd:Y.D=(chg X.D).1) (he:e=(chg X.D).2.2):FR X e Y:=by
 obtain ⟨a,b,c⟩:=za2 h;subst he;exact ⟨hd ▸ a,fun h=>hd ▸ b h,fun h=>⟨(c h).1,hd ▸ (c h).2⟩,hd ▸ zce X.D⟩
theorem FR.chg' (h:Fau X.D) {D':Dk} (hY:Y.D.dead=D'.dead /\ Y.D.fuse=D'.fuse /\ Y.D.fe=D'.fe) (hd:D'=(Go.Vfs.chg X.D).1) (he:e=(Go.Vfs.chg X.D).2.2):FR X e Y:=by
 obtain ⟨a,b,c⟩:=za2 h;obtain ⟨y1,y2,y3⟩:=hY;subst he hd;exact ⟨⟨by rw [y1];exact a.dead,by rw [y2];exact a.fuse⟩,fun h=>by rw [y3];exact b h,fun h=>⟨(c h).1,by rw [y3];exact (c h).2⟩,by rw [y3];exact zce X.D⟩
theorem z47 (h:Fau X.D) (h1:mnB s=true) (h2:X.dir s=none) (h3:X.D.files.length < 64) (hr:mkO s X e Y):FR X e Y:=by
 obtain ⟨n,-,hr⟩:=hr;rcases hr with ⟨g,-⟩ | ⟨-,⟨b,g⟩,-⟩ | ⟨-,-,g,-⟩ | ⟨-,-,-,g,-⟩ | ⟨-,-,-,-,h0,⟨-,b,-,hd,-⟩ | ⟨-,hd,-⟩⟩
 ·rw [h1] at g;cases g
 ·rw [show flook X.D.files s=none from h2] at g;cases g
 ·omega
 ·rw [h.dead] at g;cases g
 ·exact FR.chg' h (by rw [hd];exact ⟨rfl,rfl,rfl⟩) rfl h0
 ·exact FR.chg h hd h0
theorem zba {b:Nat} (h:Fau X.D) (h1:mnB s=true) (h2:X.dir s=some b) (h3:(bs.length:Int) <= X.D.cap - (tot X.D.files X.fc:Nat)) (hr:apO s bs X e Y):FR X e Y:=by
 have h2:flook X.D.files s=some b:=h2;rcases hr with ⟨g,-⟩ | ⟨-,g,-⟩ | ⟨b',-,hl,⟨g,-⟩ | ⟨-,g,-⟩ | ⟨-,-,h0,hd,-⟩⟩
 ·rw [h1] at g;cases g
 ·rw [h2] at g;cases g
 ·omega
 ·rw [h.dead] at g;cases g
 ·exact FR.chg h hd h0
theorem z3i {b:Nat} (h:Fau X.D) (h1:mnB s=true) (h2:X.dir s=some b) (hr:syO s X e Y):FR X e Y:=by
 have h2:flook X.D.files s=some b:=h2;rcases hr with ⟨g,-⟩ | ⟨-,g,-⟩ | ⟨b',-,hl,⟨g,-⟩ | ⟨-,h0,hd,-⟩⟩
 ·rw [h1] at g;cases g
 ·rw [h2] at g;cases g
 ·rw [h.dead] at g;cases g
 ·exact FR.chg h hd h0
theorem fr_cu {b:Nat} (h:Fau X.D) (h1:mnB s=true) (h2:X.dir s=some b) (h3:k <= (X.fc b).b.length) (hr:cuO s k X e Y):FR X e Y:=by
 have h2:flook X.D.files s=some b:=h2;rcases hr with ⟨g,-⟩ | ⟨-,g,-⟩ | ⟨-,-,g,-⟩ | ⟨b',-,-,hl,⟨g,-⟩ | ⟨-,g,-⟩ | ⟨-,-,h0,hd,-⟩⟩
 ·omega
 ·rw [h1] at g;cases g
 ·rw [h2] at g;cases g
 ·rw [h2] at hl;cases hl;omega
 ·rw [h.dead] at g;cases g
 ·exact FR.chg h hd h0
theorem zfa {b:Nat} (h:Fau X.D) (h1:mnB s=true) (h1':mnB t=true) (h2:X.dir s=some b) (hr:rnO s t X e Y):FR X e Y:=by
 have h2:flook X.D.files s=some b:=h2;obtain ⟨hr,-⟩:=hr;rcases hr with ⟨g,-⟩ | ⟨-,g,-⟩ | ⟨-,-,g,-⟩ | ⟨b',-,-,hl,⟨g,-⟩ | ⟨-,h0,hd⟩⟩
 ·rw [h1'] at g;cases g
 ·rw [h1] at g;cases g
 ·rw [h2] at g;cases g
 ·rw [h.dead] at g;cases g
 ·refine FR.chg' h (D':=(chg X.D).1) ?_ rfl h0;rw [hd];split <;> exact ⟨rfl,rfl,rfl⟩
theorem zbb {b:Nat} (h:Fau X.D) (h1:mnB s=true) (h2:X.dir s=some b) (hr:rmO s X e Y):FR X e Y:=by
 have h2:flook X.D.files s=some b:=h2;obtain ⟨hr,-⟩:=hr;rcases hr with ⟨g,-⟩ | ⟨-,g,-⟩ | ⟨b',-,hl,⟨g,-⟩ | ⟨-,h0,hd⟩⟩
 ·rw [h1] at g;cases g
 ·rw [h2] at g;cases g
 ·rw [h.dead] at g;cases g
 ·refine FR.chg' h (D':=(chg X.D).1) ?_ rfl h0;rw [hd];split <;> exact ⟨rfl,rfl,rfl⟩
theorem zgu (h1:mnB s=true) (h2:X.dir s=none) (hr:rmO s X e Y):e=6 /\ Y=X:=by
 have h2:flook X.D.files s=none:=h2;obtain ⟨hr,hf⟩:=hr;rcases hr with ⟨g,-⟩ | ⟨-,-,h0,hd⟩ | ⟨b',-,g,-⟩
 ·rw [h1] at g;cases g
 ·exact ⟨h0,by cases X;cases Y;simp_all⟩
 ·rw [h2] at g;cases g
theorem zcn (h:Fau X.D) (h6:X.D.fe ≠ 6) (h1:mnB s=true) (hr:rmnO s X e Y):FR X e Y /\ (e=0 -> Y.dir s=none):=by
 obtain ⟨e1,hr,he⟩:=hr;cases hd:X.dir s with
 | none =>
  obtain ⟨rfl,rfl⟩:=zgu h1 hd hr;subst he;exact ⟨FR.refl h,fun _=>hd⟩
 | some b =>
  have hf:=zbb h h1 hd hr;have ne6:e1 ≠ 6:=by
   intro e6;subst e6;obtain ⟨hr,-⟩:=hr;rcases hr with ⟨-,g,-⟩ | ⟨-,g,-⟩ | ⟨b',-,hl,⟨g,-⟩ | ⟨-,h0,-⟩⟩
   ·omega
   ·rw [show flook X.D.files s=some b from hd] at g;cases g
   ·rw [h.dead] at g;cases g
   ·
    unfold chg at h0;simp only at h0;split at h0
    ·exact h6 h0.symm
    ·rw [if_neg (by have:=h.fuse;omega)] at h0;cases h0
  rw [if_neg ne6] at he;subst he;refine ⟨hf,fun e0=>?_⟩;obtain ⟨-,⟨g,-⟩ | ⟨-,b',-,hd'⟩⟩:=z1k hr
  ·exact absurd e0 g
  ·unfold Ds.dir;rw [hd'.files,z0i];exact if_pos rfl
theorem z6d (h:Fau X.D) (hr:sdO X e Y):FR X e Y:=by
 obtain ⟨hr,-⟩:=hr;rcases hr with ⟨g,-⟩ | ⟨-,h0,hd⟩
 ·rw [h.dead] at g;cases g
 ·refine FR.chg' h (D':=(chg X.D).1) ?_ rfl h0;rw [hd];split <;> exact ⟨rfl,rfl,rfl⟩
structure Bd (n t:Nat) (X:Ds):Prop where
 nf:X.D.files.length <= n
 nt:tot X.D.files X.fc <= t
 key:(X.D.files.map Prod.fst).Nodup
 blk:(X.D.files.map Prod.snd).Nodup
theorem Bd.mono {n t n' t':Nat} (h:Bd n t X) (h1:n <= n') (h2:t <= t'):Bd n' t' X:=⟨Nat.le_trans h.nf h1,Nat.le_trans h.nt h2,h.key,h.blk⟩
theorem z0u (p:ByteArray × Nat) (l:List (ByteArray × Nat)) (fc:Nat -> Fl):tot (p :: l) fc=(fc p.2).b.length + tot l fc:=by simp [tot]
theorem zdl {l:List (ByteArray × Nat)} {fc fc':Nat -> Fl} (h:∀ p ∈ l,(fc' p.2).b.length=(fc p.2).b.length):tot l fc'=tot l fc:=by
 unfold tot;rw [List.map_congr_left h]
theorem zh9 {l:List (ByteArray × Nat)} {fc:Nat -> Fl} {b:Nat} {x:Fl} (hn:(l.map Prod.snd).Nodup) {j:Nat} (hx:x.b.length <= (fc b).b.length + j):tot l (setf fc b x) <= tot l fc + j:=by
 induction l with
 | nil=>simp [tot]
 | cons p l ih =>
  rw [List.map_cons,List.nodup_cons] at hn;rw [z0u,z0u];by_cases e:p.2=b
  ·
   have:tot l (setf fc b x)=tot l fc:=zdl fun q hq=>by
    rw [z0f];exact fun e2=>hn.1 (by rw [e,<- e2];exact List.mem_map.2 ⟨q,hq,rfl⟩)
   rw [this,e,z0e];omega
  ·rw [z0f _ _ e];have:=ih hn.2;omega
theorem z6z (a b:List (ByteArray × Nat)) (fc:Nat -> Fl):tot (a ++ b) fc=tot a fc + tot b fc:=by simp [tot]
theorem zb4 {l:List (ByteArray × Nat)} (fc:Nat -> Fl) (s:ByteArray):tot (fdel l s) fc <= tot l fc:=by
 unfold fdel
 induction l with
 | nil=>simp
 | cons p l ih =>
  rw [List.filter_cons];split
  ·rw [z0u,z0u];omega
  ·rw [z0u];omega
theorem z9c {l:List (ByteArray × Nat)} {b:Nat} (fc:Nat -> Fl) (s:ByteArray) (h:flook l s=some b):tot (fdel l s) fc + (fc b).b.length <= tot l fc:=by
 induction l with
 | nil=>cases h
 | cons p l ih =>
  rw [z08] at h;by_cases e:p.1=s
  ·
   rw [if_pos e] at h;cases h;have h1:fdel (p :: l) s=fdel l s:=by unfold fdel;rw [List.filter_cons,if_neg (by simpa using e)]
   have:=zb4 (l:=l) fc s;rw [h1,z0u];omega
  ·
   rw [if_neg e] at h;have h1:fdel (p :: l) s=p :: fdel l s:=by unfold fdel;rw [List.filter_cons,if_pos (by simpa using e)]
   rw [h1,z0u,z0u];have:=ih h;omega
theorem zh8 {l:List (ByteArray × Nat)} (fc:Nat -> Fl) (s:ByteArray) (b:Nat) (hk:(l.map Prod.fst).Nodup):tot (l.map fun p=>if p.1=s then (s,b) else p) fc <= tot l fc + (fc b).b.length:=by
 induction l with
 | nil=>simp [tot]
 | cons p l ih =>
  rw [List.map_cons,List.nodup_cons] at hk;rw [List.map_cons,z0u,z0u];by_cases e:p.1=s
  ·
   have:(l.map fun p=>if p.1=s then (s,b) else p)=l:=by
    conv=>rhs;rw [<- List.map_id l]
    exact List.map_congr_left fun q hq=>if_neg fun e2=>hk.1 (by rw [e,<- e2];exact List.mem_map.2 ⟨q,hq,rfl⟩)
   rw [if_pos e,this];simp only;omega
  ·rw [if_neg e];have:=ih hk.2;omega
theorem zeq (l:List (ByteArray × Nat)) (s:ByteArray) (b:Nat):(l.map fun p=>if p.1=s then (s,b) else p).map Prod.fst=l.map Prod.fst:=by
 rw [List.map_map];refine List.map_congr_left fun p hp=>?_;simp only [Function.comp];split
 ·rename_i e;exact e.symm
 ·rfl
theorem zbq {l:List (ByteArray × Nat)} {s:ByteArray} {b:Nat} (hk:(l.map Prod.fst).Nodup) (hb:(l.map Prod.snd).Nodup) (hn:b ∉ l.map Prod.snd):((l.map fun p=>if p.1=s then (s,b) else p).map Prod.snd).Nodup:=by
 induction l with
 | nil=>simp
 | cons p l ih =>
  rw [List.map_cons,List.nodup_cons] at hk hb;rw [List.map_cons,List.mem_cons,not_or] at hn;rw [List.map_cons,List.map_cons,List.nodup_cons];by_cases e:p.1=s
  ·
   have:(l.map fun p=>if p.1=s then (s,b) else p)=l:=by
    conv=>rhs;rw [<- List.map_id l]
    exact List.map_congr_left fun q hq=>if_neg fun e2=>hk.1 (by rw [e,<- e2];exact List.mem_map.2 ⟨q,hq,rfl⟩)
   rw [this,if_pos e];exact ⟨hn.2,hb.2⟩
  ·
   rw [if_neg e];refine ⟨fun h=>?_,ih hk.2 hb.2 hn.2⟩;rw [List.map_map] at h;obtain ⟨q,hq,e2⟩:=List.mem_map.1 h;simp only [Function.comp] at e2;split at e2
   ·exact hn.1 e2
   ·exact hb.1 (e2 ▸ List.mem_map.2 ⟨q,hq,rfl⟩)
theorem zfg {l:List (ByteArray × Nat)} {t:ByteArray} (h:¬ (l.any fun p=>decide (p.1=t))=true):t ∉ l.map Prod.fst:=by
 intro hm;obtain ⟨p,hp,e⟩:=List.mem_map.1 hm;exact h (List.any_eq_true.2 ⟨p,hp,by simpa using e⟩)
theorem bd_put {l:List (ByteArray × Nat)} {t:ByteArray} {b:Nat} (hk:(l.map Prod.fst).Nodup) (hb:(l.map Prod.snd).Nodup) (hn:b ∉ l.map Prod.snd) (fc:Nat -> Fl) :
  ((fput l t b).map Prod.fst).Nodup /\ ((fput l t b).map Prod.snd).Nodup /\ tot (fput l t b) fc <= tot l fc + (fc b).b.length:=by
 unfold fput;split
 ·exact ⟨by rw [zeq];exact hk,zbq hk hb hn,zh8 fc t b hk⟩
 ·
  rename_i h;refine ⟨?_,?_,?_⟩
  ·rw [List.map_append,List.nodup_append];exact ⟨hk,by simp,fun a ha c hc e=>zfg h (by simp at hc;rw [<- hc,<- e];exact ha)⟩
  ·rw [List.map_append,List.nodup_append];exact ⟨hb,by simp,fun a ha c hc e=>hn (by simp at hc;rw [<- hc,<- e];exact ha)⟩
  ·rw [z6z];simp [tot]
theorem Bd.sm {n t:Nat} (h:Bd n t X) (hs:Sm X Y) (hf:Y.fc=X.fc):Bd n t Y:=by
 obtain ⟨h1,h2,h3,h4⟩:=h;exact ⟨by rw [hs.files];exact h1,by rw [hs.files,hf];exact h2,by rw [hs.files];exact h3,by rw [hs.files];exact h4⟩
theorem Bd.set {n t j b:Nat} {x:Fl} (h:Bd n t X) (hs:Sm X Y) (hf:Y.fc=setf X.fc b x) (hx:x.b.length <= (X.fc b).b.length + j):Bd n (t + j) Y:=by
 obtain ⟨h1,h2,h3,h4⟩:=h;exact ⟨by rw [hs.files];exact h1,by rw [hs.files,hf];have:=zh9 h4 hx (fc:=X.fc);omega,by rw [hs.files];exact h3,by rw [hs.files];exact h4⟩
theorem bd_mk {n t:Nat} (h:Bd n t X) (hr:mkO s X e Y):Bd (n + 1) t Y:=by
 rcases z0g hr with ⟨-,h1,h2⟩ | ⟨-,hn,-,b,hb,hd,hf⟩
 ·exact (h.sm h1 h2).mono (by omega) (Nat.le_refl _)
 ·
  have hbn:b ∉ X.D.files.map Prod.snd:=fun hm=>by
   obtain ⟨p,hp,e⟩:=List.mem_map.1 hm;exact hb b (.inl ⟨p,hp,e⟩) rfl
  have hkn:s ∉ X.D.files.map Prod.fst:=fun hm=>by
   obtain ⟨c,hc⟩:=z1c hm;rw [show flook X.D.files s=none from hn] at hc;cases hc
  obtain ⟨h1,h2,h3,h4⟩:=h;have ht:tot X.D.files Y.fc=tot X.D.files X.fc:=zdl fun p hp=>by
   rw [hf];simp only;rw [if_neg fun e:p.2=b=>hbn (e ▸ List.mem_map.2 ⟨p,hp,rfl⟩)]
  refine ⟨by rw [hd.files,List.length_append];simpa using h1,?_,?_,?_⟩
  ·
   rw [hd.files,z6z,ht];have:(Y.fc b).b.length=0:=by rw [hf];simp
   simp only [tot,List.map_cons,List.map_nil,List.sum_cons,List.sum_nil] at h2 ⊢;omega
  ·rw [hd.files,List.map_append,List.nodup_append];exact ⟨h3,by simp,fun a ha c hc e=>hkn (by simp at hc;rw [<- hc,<- e];exact ha)⟩
  ·rw [hd.files,List.map_append,List.nodup_append];exact ⟨h4,by simp,fun a ha c hc e=>hbn (by simp at hc;rw [<- hc,<- e];exact ha)⟩
theorem bd_ap {n t:Nat} (h:Bd n t X) (hr:apO s bs X e Y):Bd n (t + bs.length) Y:=by
 obtain ⟨h1,⟨-,h2⟩ | ⟨b,k,-,hk,-,hf⟩⟩:=z0k hr
 ·exact (h.sm h1 h2).mono (Nat.le_refl _) (by omega)
 ·exact h.set h1 hf (by simp only [List.length_append,List.length_take];omega)
theorem bd_sy {n t:Nat} (h:Bd n t X) (hr:syO s X e Y):Bd n t Y:=by
 obtain ⟨h1,⟨-,h2⟩ | ⟨-,b,-,hf⟩⟩:=z0b hr
 ·exact h.sm h1 h2
 ·exact h.set h1 hf (j:=0) (by simp)
theorem bd_cu {n t:Nat} (h:Bd n t X) (hr:cuO s k X e Y):Bd n t Y:=by
 obtain ⟨h1,⟨-,h2⟩ | ⟨-,b,-,-,hf⟩⟩:=z3a hr
 ·exact h.sm h1 h2
 ·exact h.set h1 hf (j:=0) (by simp only [List.length_take];omega)
theorem bd_rm {n t:Nat} (h:Bd n t X) (hr:rmO s X e Y):Bd n t Y:=by
 obtain ⟨hf,⟨-,h1,-⟩ | ⟨-,b,-,hd⟩⟩:=z1k hr
 ·exact h.sm h1 hf
 ·obtain ⟨h1,h2,h3,h4⟩:=h;have hsub:(fdel X.D.files s).Sublist X.D.files:=List.filter_sublist;exact ⟨by rw [hd.files];exact Nat.le_trans hsub.length_le h1,by rw [hd.files,hf];exact Nat.le_trans (zb4 _ _) h2,by rw [hd.files];exact h3.sublist (hsub.map _),by rw [hd.files];exact h4.sublist (hsub.map _)⟩
theorem bd_rn {n k:Nat} (h:Bd n k X) (hr:rnO s t X e Y):Bd n k Y:=by
 obtain ⟨hf,⟨-,h1⟩ | ⟨-,b,hb,hd⟩⟩:=z2a hr
 ·exact h.sm h1 hf
 ·
  obtain ⟨h1,h2,h3,h4⟩:=h;have hb:flook X.D.files s=some b:=hb;have hsub:(fdel X.D.files s).Sublist X.D.files:=List.filter_sublist;have hk:=h3.sublist (hsub.map Prod.fst);have hbk:=h4.sublist (hsub.map Prod.snd);have hn:b ∉ (fdel X.D.files s).map Prod.snd:=fun hm=>by
   obtain ⟨p,hp,e⟩:=List.mem_map.1 hm;obtain ⟨hp1,hp2⟩:=List.mem_filter.1 hp;have hps:p.1 ≠ s:=by simpa using hp2
   have h5:=zq hb;have:p=(s,b):=by
    have h6:=h4;rw [List.Nodup,List.pairwise_map] at h6;obtain ⟨i,hi,hpi⟩:=List.getElem_of_mem hp1;obtain ⟨j,hj,hpj⟩:=List.getElem_of_mem h5;rcases Nat.lt_trichotomy i j with hij | hij | hij
    ·exact absurd (by rw [hpi,hpj];exact e) (List.pairwise_iff_getElem.1 h6 i j hi hj hij)
    ·subst hij;rw [<- hpi,hpj]
    ·exact absurd (by rw [hpi,hpj];exact e.symm) (List.pairwise_iff_getElem.1 h6 j i hj hi hij)
   exact hps (by rw [this])
  obtain ⟨g1,g2,g3⟩:=bd_put (t:=t) hk hbk hn Y.fc;have g4:=z9c X.fc s hb;refine ⟨?_,?_,by rw [hd.files];exact g1,by rw [hd.files];exact g2⟩
  ·rw [hd.files];exact Nat.le_trans (z7j hb t) h1
  ·rw [hd.files];rw [hf] at g3 ⊢;omega
theorem bd_sd {n t:Nat} (h:Bd n t X) (hr:sdO X e Y):Bd n t Y:=by
 obtain ⟨hf,⟨-,h1⟩ | ⟨-,h1,-⟩⟩:=z0h hr
 ·exact h.sm h1 hf
 ·obtain ⟨g1,g2,g3,g4⟩:=h;exact ⟨by rw [h1];exact g1,by rw [h1,hf];exact g2,by rw [h1];exact g3,by rw [h1];exact g4⟩
theorem cap_mk (hr:mkO s X e Y):Y.D.cap=X.D.cap:=by
 rcases z0g hr with ⟨-,h1,-⟩ | ⟨-,-,-,b,-,hd,-⟩
 ·exact h1.cap
 ·exact hd.cap
end Go.Log
end
section
namespace Go.Log
open Go.Vfs
variable {nm:ByteArray} {X Y Z:Ds} {e:Int} {s t:ByteArray} {n k m q:Nat} {x:List Nat} {A:ByteArray -> Prop} {g:Sh} {L L':Lg}
def AllN (A:ByteArray -> Prop) (X:Ds):Prop:=∀ t b,X.dir t=some b -> A t
structure Qt (n q:Nat) (A:ByteArray -> Prop) (c:Int) (X:Ds):Prop where
 bd:Bd n q X
 al:AllN A X
 cap:X.D.cap=c
variable {c:Int}
theorem Qt.mono {n' q':Nat} {A':ByteArray -> Prop} (h:Qt n q A c X) (h1:n <= n') (h2:q <= q') (h3:∀ t,A t -> A' t):Qt n' q' A' c X:=⟨h.bd.mono h1 h2,fun t b hb=>h3 t (h.al t b hb),h.cap⟩
theorem Qt.sm (h:AllN A X) (hs:Sm X Y):AllN A Y:=fun t b hb=>h t b (by rw [<- hs.dir];exact hb)
theorem z2o (h:Qt n q A c X) (hA:A s) (hr:mkO s X e Y):Qt (n + 1) q A c Y:=by
 refine ⟨bd_mk h.bd hr,?_,(cap_mk hr).trans h.cap⟩;rcases z0g hr with ⟨-,h1,-⟩ | ⟨-,hn,-,b,-,hd,-⟩
 ·exact Qt.sm h.al h1
 ·
  intro t b' hb;have hb:(Dir.put X.dir s b) t=some b':=by rw [show Y.dir=Dir.put X.dir s b by unfold Ds.dir;rw [hd.files,z0d hn]] at hb;exact hb
  unfold Dir.put at hb;split at hb
  ·rename_i e1;rw [e1];exact hA
  ·exact h.al t b' hb
theorem zbj (h:Qt n q A c X) (hr:apO s x X e Y):Qt n (q + x.length) A c Y:=⟨bd_ap h.bd hr,Qt.sm h.al (z0k hr).1,(z0k hr).1.cap.trans h.cap⟩
theorem z2p (h:Qt n q A c X) (hr:syO s X e Y):Qt n q A c Y:=⟨bd_sy h.bd hr,Qt.sm h.al (z0b hr).1,(z0b hr).1.cap.trans h.cap⟩
theorem qt_cu (h:Qt n q A c X) (hr:cuO s k X e Y):Qt n q A c Y:=⟨bd_cu h.bd hr,Qt.sm h.al (z3a hr).1,(z3a hr).1.cap.trans h.cap⟩
theorem al_del (h:AllN A X) (hd:Y.dir=Dir.del X.dir s):AllN A Y:=fun t b hb=>by
 rw [hd] at hb;unfold Dir.del at hb;split at hb
 ·cases hb
 ·exact h t b hb
theorem zbk (h:Qt n q A c X) (hr:rmO s X e Y):Qt n q A c Y:=by
 refine ⟨bd_rm h.bd hr,?_,?_⟩
 ·
  obtain ⟨-,⟨-,h1,-⟩ | ⟨-,b,-,hd⟩⟩:=z1k hr
  ·exact Qt.sm h.al h1
  ·exact al_del h.al (by unfold Ds.dir;rw [hd.files,z0i])
 ·
  obtain ⟨-,⟨-,h1,-⟩ | ⟨-,b,-,hd⟩⟩:=z1k hr
  ·exact h1.cap.trans h.cap
  ·exact hd.cap.trans h.cap
theorem z95 (h:Qt n q A c X) (hr:rmnO s X e Y):Qt n q A c Y:=by
 obtain ⟨e1,hr,-⟩:=hr;exact zbk h hr
theorem zfd (h:Qt n q A c X) (hA:A t) (hr:rnO s t X e Y):Qt n q A c Y:=by
 refine ⟨bd_rn h.bd hr,?_,?_⟩
 ·
  obtain ⟨-,⟨-,h1⟩ | ⟨-,b,-,hd⟩⟩:=z2a hr
  ·exact Qt.sm h.al h1
  ·
   intro u b' hb;have hb:(Dir.put (Dir.del X.dir s) t b) u=some b':=by rw [show Y.dir=Dir.put (Dir.del X.dir s) t b by unfold Ds.dir;rw [hd.files,z2i,z0i]] at hb;exact hb
   unfold Dir.put Dir.del at hb;split at hb
   ·rename_i e1;rw [e1];exact hA
   ·
    split at hb
    ·cases hb
    ·exact h.al u b' hb
 ·
  obtain ⟨-,⟨-,h1⟩ | ⟨-,b,-,hd⟩⟩:=z2a hr
  ·exact h1.cap.trans h.cap
  ·exact hd.cap.trans h.cap
theorem z6o (h:Qt n q A c X) (hr:sdO X e Y):Qt n q A c Y:=by
 refine ⟨bd_sd h.bd hr,?_,?_⟩
 ·
  obtain ⟨-,⟨-,h1⟩ | ⟨-,h1,-⟩⟩:=z0h hr
  ·exact Qt.sm h.al h1
  ·exact fun t b hb=>h.al t b (by unfold Ds.dir at hb ⊢;rw [<- h1];exact hb)
 ·
  obtain ⟨-,⟨-,h1⟩ | ⟨-,-,-,-,h1⟩⟩:=z0h hr
  ·exact h1.cap.trans h.cap
  ·exact h1.trans h.cap
theorem z52 (h:Qt n q A c X) (hA:A s) (hr:putO s x X e Y):Qt (n + 1) (q + (8 + x.length)) A c Y:=by
 rcases zj hr with ⟨-,h1⟩ | ⟨Z1,h1,hr⟩
 ·exact (z2o h hA h1).mono (Nat.le_refl _) (by omega) (fun _ e=>e)
 have q1:=z2o h hA h1;rcases zj hr with ⟨-,h1⟩ | ⟨Z2,h1,hr⟩
 ·have:=zbj q1 h1;rw [zw] at this;exact this
 have q2:=zbj q1 h1;rw [zw] at q2;exact z2p q2 (z04 hr)
theorem z6c (hF:Fau X.D) (h:Qt n q A c X) (hA:A s) (hm:mnB s=true) (h0:X.dir s=none) (hn:n < 64) (hq:((q + (8 + x.length):Nat):Int) <= c) (hr:putO s x X e Y):FR X e Y:=by
 have hl:X.D.files.length < 64:=by have:=h.bd.nf;omega
 rcases zj hr with ⟨-,h1⟩ | ⟨Z1,h1,hr⟩
 ·exact z47 hF hm h0 hl h1
 have f1:=z47 hF hm h0 hl h1;have q1:=z2o h hA h1;rcases z0g h1 with ⟨h2,-⟩ | ⟨-,-,-,b,-,hd,-⟩
 ·exact absurd rfl h2
 have d1:Z1.dir s=some b:=by
  have:Z1.dir=Dir.put X.dir s b:=by unfold Ds.dir;rw [hd.files,z0d h0]
  rw [this];exact if_pos rfl
 have hroom:((recd x).length:Int) <= Z1.D.cap - (tot Z1.D.files Z1.fc:Nat):=by
  rw [zw,q1.cap];have:=q1.bd.nt;omega
 clear h1 hd;rcases zj hr with ⟨-,h1⟩ | ⟨Z2,h1,hr⟩
 ·exact f1.trans (zba f1.fau hm d1 hroom h1)
 have f2:=f1.trans (zba f1.fau hm d1 hroom h1);have d2:Z2.dir s=some b:=by rw [(z0k h1).1.dir];exact d1
 exact f2.trans (z3i f2.fau hm d2 (z04 hr))
theorem z6n (h:Qt n q A c X) (hA1:A (newf nm)) (hA2:A (manf nm)) (hr:manO nm m k X e Y):Qt (n + 1) (q + 24) A c Y:=by
 rcases zj hr with ⟨-,h1⟩ | ⟨Z1,h1,hr⟩
 ·exact (z95 h h1).mono (by omega) (by omega) (fun _ e=>e)
 have q1:=z95 h h1;rcases zj hr with ⟨-,h1⟩ | ⟨Z2,h1,hr⟩
 ·have:=z52 q1 hA1 h1;rw [z1v] at this;exact this
 have q2:=z52 q1 hA1 h1;rw [z1v] at q2;rcases zj hr with ⟨-,h1⟩ | ⟨Z3,h1,hr⟩
 ·exact z6o q2 h1
 have q3:=z6o q2 h1;rcases zj hr with ⟨-,h1⟩ | ⟨Z4,h1,hr⟩
 ·exact zfd q3 hA2 h1
 exact z6o (zfd q3 hA2 h1) (z04 hr)
theorem z7g (hr:putO s x X 0 Y):X.dir s=none /\ ∃ b,Y.dir=Dir.put X.dir s b /\ (∀ t c,X.dir t=some c -> c ≠ b) /\ Y.fc b=⟨recd x,(recd x).length⟩ /\ (∀ c,c ≠ b -> Y.fc c=X.fc c):=by
 rcases zj hr with ⟨h0,-⟩ | ⟨Z1,h1,hr⟩
 ·exact absurd rfl h0
 rcases z0g h1 with ⟨h2,-⟩ | ⟨-,hn,-,b,hb,hd,hf⟩
 ·exact absurd rfl h2
 have d1:Z1.dir=Dir.put X.dir s b:=by unfold Ds.dir;rw [hd.files,z0d hn]
 have d1s:Z1.dir s=some b:=by rw [d1];exact if_pos rfl
 rcases zj hr with ⟨h0,-⟩ | ⟨Z2,h2,hr⟩
 ·exact absurd rfl h0
 obtain ⟨s2,⟨h3,-⟩ | ⟨b',k,h3,-,hk,h4⟩⟩:=z0k h2
 ·exact absurd rfl h3
 obtain rfl:b'=b:=Option.some.inj (h3.symm.trans d1s);have d2s:Z2.dir s=some b':=by rw [s2.dir];exact d1s
 obtain ⟨s3,⟨h5,-⟩ | ⟨-,b,h5,h6⟩⟩:=z0b (z04 hr)
 ·exact absurd rfl h5
 obtain rfl:b=b':=Option.some.inj (h5.symm.trans d2s);refine ⟨hn,b,s3.dir.trans (s2.dir.trans d1),fun t c ht=>hb c (.inl ⟨_,zq ht,rfl⟩),?_,fun c hc=>?_⟩
 ·rw [h6,z0e,h4,z0e,hf,hk rfl,List.take_length];simp
 ·rw [h6,z0f _ _ hc,h4,z0f _ _ hc,hf];exact if_neg hc
theorem z8r (hF:Fau X.D) (h6:X.D.fe ≠ 6) (h:Qt n q A c X) (hA1:A (newf nm)) (hm1:mnB (newf nm)=true) (hm2:mnB (manf nm)=true) (hn:n < 64) (hq:((q + 24:Nat):Int) <= c) (hr:manO nm m k X e Y):FR X e Y:=by
 rcases zj hr with ⟨-,h1⟩ | ⟨Z1,h1,hr⟩
 ·exact (zcn hF h6 hm1 h1).1
 obtain ⟨f1,d1⟩:=zcn hF h6 hm1 h1;have q1:=z95 h h1;rcases zj hr with ⟨-,h1⟩ | ⟨Z2,h1,hr⟩
 ·exact f1.trans (z6c f1.fau q1 hA1 hm1 (d1 rfl) hn (by rw [z1v];exact hq) h1)
 have f2:=f1.trans (z6c f1.fau q1 hA1 hm1 (d1 rfl) hn (by rw [z1v];exact hq) h1);obtain ⟨-,b,d2,-⟩:=z7g h1;rcases zj hr with ⟨-,h1⟩ | ⟨Z3,h1,hr⟩
 ·exact f2.trans (z6d f2.fau h1)
 have f3:=f2.trans (z6d f2.fau h1);have d3:Z3.dir (newf nm)=some b:=by
  obtain ⟨-,⟨g,-⟩ | ⟨-,g,-⟩⟩:=z0h h1
  ·exact absurd rfl g
  ·
   have:Z3.dir=Z2.dir:=by unfold Ds.dir;rw [g]
   rw [this,d2];exact if_pos rfl
 rcases zj hr with ⟨-,h1⟩ | ⟨Z4,h1,hr⟩
 ·exact f3.trans (zfa f3.fau hm1 hm2 d3 h1)
 have f4:=f3.trans (zfa f3.fau hm1 hm2 d3 h1);exact f4.trans (z6d f4.fau (z04 hr))
theorem man_ok (hw:Wf X) (hr:manO nm m k X 0 Y):Wf Y /\ ∃ b,(∀ t c,t ≠ newf nm -> X.dir t=some c -> c ≠ b) /\ Y.dir=manD nm X.dir b /\ Y.fc b=⟨recd (mrec m k),(recd (mrec m k)).length⟩ /\ (∀ c,c ≠ b -> Y.fc c=X.fc c) /\ (∀ f,Rch Y f -> f=Y.dir) /\ Y.D.steps=[] /\ Y.D.lasting=Y.D.files:=by
 rcases zj hr with ⟨h0,-⟩ | ⟨Z1,h1,hr⟩
 ·exact absurd rfl h0
 obtain ⟨f1,d1⟩:=z56 h1;have d1:=zan d1;rcases zj hr with ⟨h0,-⟩ | ⟨Z2,h2,hr⟩
 ·exact absurd rfl h0
 obtain ⟨hn,b,d2,hb,f2,f2'⟩:=z7g h2;rcases zj hr with ⟨h0,-⟩ | ⟨Z3,h3,hr⟩
 ·exact absurd rfl h0
 obtain ⟨f3,⟨h0,-⟩ | ⟨-,g1,g2,g3,-⟩⟩:=z0h h3
 ·exact absurd rfl h0
 rcases zj hr with ⟨h0,-⟩ | ⟨Z4,h4,hr⟩
 ·exact absurd rfl h0
 obtain ⟨f4,⟨h0,-⟩ | ⟨-,b',hb4,hd⟩⟩:=z2a h4
 ·exact absurd rfl h0
 have h5:=z04 hr;obtain ⟨f5,⟨h0,-⟩ | ⟨-,k1,k2,k3,-⟩⟩:=z0h h5
 ·exact absurd rfl h0
 have d1':∀ t,t ≠ newf nm -> Z1.dir t=X.dir t:=fun t ht=>by
  rcases d1 with d1 | d1
  ·rw [d1]
  ·rw [d1];exact if_neg ht
 have d3:Z3.dir=Dir.put Z1.dir (newf nm) b:=by rw [<- d2];unfold Ds.dir;rw [g1]
 have eb:b'=b:=Option.some.inj (hb4.symm.trans (by rw [d3];exact if_pos rfl));subst eb;have d5:Y.dir=manD nm X.dir b':=by
  have h6:Y.dir=Dir.put (Dir.del Z3.dir (newf nm)) (manf nm) b':=by unfold Ds.dir;rw [k1,hd.files,z2i,z0i]
  rw [h6,d3];funext t;show (if t=manf nm then some b' else if t=newf nm then none else if t=newf nm then some b' else Z1.dir t)=if t=manf nm then some b' else if t=newf nm then none else X.dir t
  by_cases e1:t=manf nm
  ·rw [if_pos e1,if_pos e1]
  ·
   rw [if_neg e1,if_neg e1];by_cases e2:t=newf nm
   ·rw [if_pos e2,if_pos e2]
   ·rw [if_neg e2,if_neg e2,if_neg e2,d1' t e2]
 refine ⟨(by unfold Wf;rw [k3];intro s hs;cases hs),b',fun t c ht hc=>hb t c (by rw [d1' t ht];exact hc),d5,by rw [f5,f4,f3];exact f2,fun c hc=>by rw [f5,f4,f3,f2' c hc,f1],fun f hf=>?_,k3,by rw [k2,k1]⟩;rw [z3z h5 hf];unfold Ds.dir;rw [k1]
end Go.Log
end
section
namespace Go.Log
open Go.Vfs
variable {nm:ByteArray} {X Y Z:Ds} {e:Int} {s t:ByteArray} {n k m q:Nat} {x:List Nat} {A:ByteArray -> Prop} {g:Sh} {L L':Lg} {c:Int} {P:Sh -> Prop}
theorem qt_app (h:Qt n q A c X) (hA:nx L.name X < mxn -> A (sgf L.name (nx L.name X + 1))) (hr:appR L x X e L' Y):Qt (n + 1) (q + (8 + x.length)) A c Y:=by
 rcases hr with ⟨-,-,-,rfl⟩ | ⟨-,e1,Z,h1,h2⟩
 ·exact h.mono (by omega) (by omega) (fun _ e=>e)
 have q1:=zbj h h1;rw [zw] at q1;rcases h2 with ⟨-,-,-,rfl⟩ | ⟨-,-,-,-,rfl⟩ | ⟨-,-,h2,-⟩
 ·exact q1.mono (by omega) (Nat.le_refl _) (fun _ e=>e)
 ·exact q1.mono (by omega) (Nat.le_refl _) (fun _ e=>e)
 rcases zj h2 with ⟨-,h3⟩ | ⟨Z1,h3,h2⟩
 ·exact (z2p q1 h3).mono (by omega) (Nat.le_refl _) (fun _ e=>e)
 have q2:=z2p q1 h3;rcases zj h2 with ⟨-,-,h4⟩ | ⟨Z2,⟨h4,h4'⟩,h2'⟩
 ·subst h4;exact q2.mono (by omega) (Nat.le_refl _) (fun _ e=>e)
 clear h2;subst h4';have nz:nx L.name Z=nx L.name X:=z5i (z0k h1).1;have hlt:nx L.name X < mxn:=by
  rw [<- nz];have h4:(0:Int)=nxE L.name Z:=h4;unfold nxE at h4;split at h4
  ·cases h4
  ·omega
 have ha:=hA hlt;rw [<- nz] at ha;rcases zj h2' with ⟨-,h5⟩ | ⟨Z3,h5,h2⟩
 ·exact z2o q2 ha h5
 ·exact z6o (z2o q2 ha h5) (z04 h2)
theorem qt_syn (h:Qt n q A c X) (hr:synR L X e L' Y):Qt n q A c Y:=by
 rcases hr with ⟨-,-,-,rfl⟩ | ⟨-,h1,-⟩
 ·exact h
 ·exact z2p h h1
theorem zem (h:Qt n q A c X) {l:List ByteArray} (hr:askO (l.map rmO) X e Y):Qt n q A c Y:=by
 induction l generalizing X with
 | nil=>obtain ⟨-,rfl⟩:=hr;exact h
 | cons t l ih =>
  rcases zj (o:=rmO t) (l:=l.map rmO) hr with ⟨-,h1⟩ | ⟨Z,h1,h2⟩
  ·exact zbk h h1
  ·exact ih (zbk h h1) h2
structure TN (nm:ByteArray) (A:ByteArray -> Prop) (k:Nat):Prop where
 new:A (newf nm)
 man:A (manf nm)
 snap:A (snf nm (k + 1))
 seg:A (sgf nm (k + 2))
theorem zgm (h:Qt n q A c X) (hA:nx L.name X + 1 < mxn -> TN L.name A (nx L.name X)) (hr:turnR L x X e L' Y):Qt (n + 3) (q + (8 + x.length) + 24) A c Y:=by
 rcases hr with ⟨-,-,-,rfl⟩ | ⟨-,h1,-⟩
 ·exact h.mono (by omega) (by omega) (fun _ e=>e)
 rcases zj h1 with ⟨-,h2⟩ | ⟨Z1,h2,h1⟩
 ·exact (z2p h h2).mono (by omega) (by omega) (fun _ e=>e)
 have q1:=z2p h h2;rcases zj h1 with ⟨-,-,h3⟩ | ⟨Z2,⟨h3,h3'⟩,h1'⟩
 ·subst h3;exact q1.mono (by omega) (by omega) (fun _ e=>e)
 clear h1;subst h3'
 have ha:=hA (by
  have h3:(0:Int)=turnE L.name X:=h3;unfold turnE at h3;split at h3
  ·cases h3
  ·omega)
 rcases zj h1' with ⟨-,h4⟩ | ⟨Z3,h4,h1⟩
 ·exact (z52 q1 ha.snap h4).mono (by omega) (by omega) (fun _ e=>e)
 have q3:=z52 q1 ha.snap h4;rcases zj h1 with ⟨-,h5⟩ | ⟨Z4,h5,h1⟩
 ·exact (z2o q3 ha.seg h5).mono (by omega) (by omega) (fun _ e=>e)
 have q4:=z2o q3 ha.seg h5;rcases zj h1 with ⟨-,h6⟩ | ⟨Z5,h6,h1⟩
 ·exact z6n q4 ha.new ha.man h6
 have q5:=z6n q4 ha.new ha.man h6;obtain ⟨ns,-,hw⟩:=z04 h1;exact zem q5 hw
theorem zf9 {f:Int} (hF:Fau X.D) (hf:f=0) (hr:erO f X e Y):FR X e Y:=by
 obtain ⟨rfl,rfl⟩:=hr;subst hf;exact FR.refl hF
theorem fr_app (hn:mnB nm=true) (h16:nm.size <= 16) (h:LI nm L X g) (hx:Recs [x]) (hF:Fau X.D) (hq:Qt n q A c X) (hn64:n < 64) (hc:((q + (8 + x.length):Nat):Int) <= c) (hnx:nx nm X < mxn) (hr:appR L x X e L' Y):FR X e Y:=by
 have hxl:x.length <= mxr:=(hx x (by simp)).1;rcases hr with ⟨h0,-⟩ | ⟨-,e1,Z,h1,h2⟩
 ·exact absurd (h.may hxl) h0
 have hmm:=h.shape.m1;have hmg:mnB (sgf nm g.m)=true:=z0n hn h16 hmm.2;rw [h.atseg] at h1;have f1:=zba hF hmg h.shape.lastAt (by rw [zw,hq.cap];have:=hq.bd.nt;omega) h1;rcases h2 with ⟨h0,rfl,-,rfl⟩ | ⟨rfl,-,rfl,-,rfl⟩ | ⟨rfl,-,h2,-⟩
 ·exact f1
 ·exact f1
 have s1:=(z0k h1).1;have d1:Z.dir (sgf nm g.m)=some g.b:=by rw [s1.dir];exact h.shape.lastAt
 have e1:Lg.seg { L with recs:=L.recs ++ [x],size:=L.size + (8 + x.length) }=sgf nm g.m:=h.atseg;have e2:({ L with recs:=L.recs ++ [x],size:=L.size + (8 + x.length) }:Lg).name=nm:=h.name;rw [e1,e2] at h2;rcases zj h2 with ⟨-,h3⟩ | ⟨Z1,h3,h2⟩
 ·exact f1.trans (z3i f1.fau hmg d1 h3)
 have f2:=f1.trans (z3i f1.fau hmg d1 h3);have s2:=(z0b h3).1;have n1:nx nm Z=nx nm X:=z5i s1;have n2:nx nm Z1=nx nm X:=(z5i s2).trans n1;have hE:nxE nm Z=0:=by unfold nxE;rw [if_neg (by omega)]
 rcases zj h2 with ⟨-,h4⟩ | ⟨Z2,h4,h2'⟩
 ·exact f2.trans (zf9 f2.fau hE h4)
 clear h2;obtain ⟨-,rfl⟩:=h4;have hno:=z4c (nm:=nm) (X:=Z2) (k:=nx nm Z + 1) (by omega) (by omega);have hlen:Z2.D.files.length < 64:=by rw [s2.files,s1.files];have:=hq.bd.nf;omega
 have hmk:mnB (sgf nm (nx nm Z + 1))=true:=z0n hn h16 (by omega);rcases zj h2' with ⟨-,h5⟩ | ⟨Z3,h5,h2⟩
 ·exact f2.trans (z47 f2.fau hmk hno.1 hlen h5)
 have f3:=f2.trans (z47 f2.fau hmk hno.1 hlen h5);exact f3.trans (z6d f3.fau (z04 h2))
theorem fr_syn (hn:mnB nm=true) (h16:nm.size <= 16) (h:LI nm L X g) (hF:Fau X.D) (hr:synR L X e L' Y):FR X e Y:=by
 rcases hr with ⟨h0,-⟩ | ⟨-,h1,-⟩
 ·exact absurd (h.may (Nat.zero_le _)) h0
 ·rw [h.atseg] at h1;exact z3i hF (z0n hn h16 h.shape.m1.2) h.shape.lastAt h1
theorem ze5 (hm:∀ t b,X.dir t=some b -> mnB t=true) (hF:Fau X.D) {l:List ByteArray} (hl:∀ t ∈ l,∃ b,X.dir t=some b) (hnd:l.Nodup) (hr:askO (l.map rmO) X e Y):FR X e Y:=by
 induction l generalizing X with
 | nil=>obtain ⟨rfl,rfl⟩:=hr;exact FR.refl hF
 | cons t l ih =>
  obtain ⟨b,hb⟩:=hl t (by simp);rw [List.nodup_cons] at hnd;rcases zj (o:=rmO t) (l:=l.map rmO) hr with ⟨-,h1⟩ | ⟨Z,h1,h2⟩
  ·exact zbb hF (hm t b hb) hb h1
  ·
   have f1:=zbb hF (hm t b hb) hb h1;obtain ⟨-,⟨g,-⟩ | ⟨-,b',-,hd⟩⟩:=z1k h1
   ·exact absurd rfl g
   have dz:Z.dir=Dir.del X.dir t:=by unfold Ds.dir;rw [hd.files,z0i]
   refine f1.trans (ih (fun u c hc=>?_) f1.fau (fun u hu=>?_) hnd.2 h2)
   ·
    rw [dz] at hc;unfold Dir.del at hc;split at hc
    ·cases hc
    ·exact hm u c hc
   ·obtain ⟨c,hc⟩:=hl u (by simp [hu]);exact ⟨c,by rw [dz];exact (if_neg fun e:u=t=>hnd.1 (e ▸ hu)).trans hc⟩
theorem zfy (hn:mnB nm=true) (h16:nm.size <= 16) (h:LI nm L X g) (hx:Recs [x]) (hF:Fau X.D) (h6:X.D.fe ≠ 6) (hmn:∀ t,A t -> mnB t=true) (hA:TN nm A (nx nm X)) (hq:Qt n q A c X) (hn64:n + 2 < 64) (hc:((q + (8 + x.length) + 24:Nat):Int) <= c) (hnx:nx nm X + 1 < mxn) (hr:turnR L x X e L' Y):FR X e Y:=by
 have hxl:x.length <= mxr:=(hx x (by simp)).1;rcases hr with ⟨h0,-⟩ | ⟨-,h1,-⟩
 ·exact absurd (h.may hxl) h0
 rw [h.atseg] at h1;obtain rfl:nm=L.name:=h.name.symm;have f6:∀ {Z},FR X 0 Z -> Z.D.fe ≠ 6:=fun h=>h.fe.elim (fun e=>e ▸ h6) (fun e=>by rw [e];decide);rcases zj h1 with ⟨-,h2⟩ | ⟨Z1,h2,h1⟩
 ·exact z3i hF (z0n hn h16 h.shape.m1.2) h.shape.lastAt h2
 have f1:=z3i hF (z0n hn h16 h.shape.m1.2) h.shape.lastAt h2;have q1:=z2p hq h2;have n1:nx L.name Z1=nx L.name X:=z5i (z0b h2).1;have hE:turnE L.name X=0:=by unfold turnE;rw [if_neg (by omega)]
 rcases zj h1 with ⟨-,h3⟩ | ⟨Z2,h3,h1'⟩
 ·exact f1.trans (zf9 f1.fau hE h3)
 clear h1;obtain ⟨-,rfl⟩:=h3;have hms:mnB (snf L.name (nx L.name X + 1))=true:=z5h hn h16 (by omega);have hno:=z4c (nm:=L.name) (X:=Z2) (k:=nx L.name X + 1) (by omega) (by omega);rcases zj h1' with ⟨-,h4⟩ | ⟨Z3,h4,h1⟩
 ·exact f1.trans (z6c f1.fau q1 hA.snap hms hno.2 (by omega) (by omega) h4)
 have f3:=f1.trans (z6c f1.fau q1 hA.snap hms hno.2 (by omega) (by omega) h4);have q3:=z52 q1 hA.snap h4;obtain ⟨-,b1,d3,-⟩:=z7g h4;have hno3:Z3.dir (sgf L.name (nx L.name X + 2))=none:=by
  rw [d3];show (if _=_ then _ else Z2.dir _)=_;rw [if_neg (z2v L.name (by omega) (by omega))];exact (z4c (nm:=L.name) (by omega) (by omega)).1
 have hmg:mnB (sgf L.name (nx L.name X + 2))=true:=z0n hn h16 (by omega);have hl3:Z3.D.files.length < 64:=by have:=q3.bd.nf;omega
 rcases zj h1 with ⟨-,h5⟩ | ⟨Z4,h5,h1⟩
 ·exact f3.trans (z47 f3.fau hmg hno3 hl3 h5)
 have f4:=f3.trans (z47 f3.fau hmg hno3 hl3 h5);have q4:=z2o q3 hA.seg h5;rcases zj h1 with ⟨-,h6'⟩ | ⟨Z5,h6',h1⟩
 ·exact f4.trans (z8r f4.fau (f6 f4) q4 hA.new (z5g hn h16) (z2z hn h16) (by omega) (by omega) h6')
 have f5:=f4.trans (z8r f4.fau (f6 f4) q4 hA.new (z5g hn h16) (z2z hn h16) (by omega) (by omega) h6');have q5:=z6n q4 hA.new hA.man h6';obtain ⟨ns,hp,hw⟩:=z04 h1;refine f5.trans (ze5 (fun t b hb=>hmn t (q5.al t b hb)) f5.fau (fun t ht=>?_) ?_ hw)
 ·have h7:=hp.mem_iff.1 (List.mem_filter.1 ht).1;exact z1c h7
 ·exact (hp.nodup_iff.2 q5.bd.key).sublist List.filter_sublist
theorem zfx (hn:mnB nm=true) (h16:nm.size <= 16) (hF:Fau X.D) {b en m k:Nat} (hmm:m <= mxn) (hd:X.dir (sgf nm m)=some b) (hl:(X.fc b).b.length=k) (hen:en <= k) (hr:askO [if k=en then nop else cuO (sgf nm m) en,syO (sgf nm m),sdO] X e Y):FR X e Y:=by
 have hmg:mnB (sgf nm m)=true:=z0n hn h16 hmm;have cutF:∀ {e Z},(if k=en then nop else cuO (sgf nm m) en) X e Z -> FR X e Z /\ Sm X Z:=fun {e Z} hc=>by
  by_cases he:k=en
  ·rw [if_pos he] at hc;obtain ⟨rfl,rfl⟩:=hc;exact ⟨FR.refl hF,Sm.refl _⟩
  ·rw [if_neg he] at hc;exact ⟨fr_cu hF hmg hd (by omega) hc,(z3a hc).1⟩
 rcases zj hr with ⟨-,h1⟩ | ⟨Z1,h1,hr⟩
 ·exact (cutF h1).1
 obtain ⟨f1,s1⟩:=cutF h1;have d1:Z1.dir (sgf nm m)=some b:=by rw [s1.dir];exact hd
 rcases zj hr with ⟨-,h2⟩ | ⟨Z2,h2,hr⟩
 ·exact f1.trans (z3i f1.fau hmg d1 h2)
 have f2:=f1.trans (z3i f1.fau hmg d1 h2);exact f2.trans (z6d f2.fau (z04 hr))
theorem zgl {en m k:Nat} (h:Qt n q A c X) (hr:askO [if k=en then nop else cuO (sgf nm m) en,syO (sgf nm m),sdO] X e Y):Qt n q A c Y:=by
 have cutF:∀ {e Z},(if k=en then nop else cuO (sgf nm m) en) X e Z -> Qt n q A c Z:=fun {e Z} hc=>by
  by_cases he:k=en
  ·rw [if_pos he] at hc;obtain ⟨rfl,rfl⟩:=hc;exact h
  ·rw [if_neg he] at hc;exact qt_cu h hc
 rcases zj hr with ⟨-,h1⟩ | ⟨Z1,h1,hr⟩
 ·exact cutF h1
 have q1:=cutF h1;rcases zj hr with ⟨-,h2⟩ | ⟨Z2,h2,hr⟩
 ·exact z2p q1 h2
 exact z6o (z2p q1 h2) (z04 hr)
theorem zbg {most:Nat} (hn:mnB nm=true) (h16:nm.size <= 16) (hw:Wf X) (hF:Fau X.D) (hfe:X.D.fe=0) (hq:Qt n q A c X) (hn64:n + 1 < 64) (hc:((q + 24:Nat):Int) <= c) (h0:X.dir (manf nm)=none) (hnx:nx nm X=0) (hA1:A (sgf nm 1)) (hA2:A (newf nm)) (hA3:A (manf nm)) (hr:openR nm most X e L Y) :
  e=0 /\ Fau Y.D /\ Y.D.fe=0 /\ Qt (n + 2) (q + 24) A c Y /\ Y.D.steps=[] /\ Y.D.lasting=Y.D.files /\ L={ lg0 nm most with first:=1,segment:=1,segments:=1 } /\ ∃ g,LI nm L Y g /\ g.sn=none /\ (∀ t,t=manf nm \/ t=sgf nm 1 \/ (t ≠ newf nm /\ ∃ b,X.dir t=some b) ↔ ∃ b,Y.dir t=some b):=by
 rcases hr with ⟨-,hr,hL⟩ | ⟨b,h1,-⟩ | ⟨b,_,_,_,h1,-⟩
 ·
  rw [hnx] at hr hL;have hE:nxE nm X=0:=by unfold nxE;rw [hnx];rfl
  have hmg:mnB (sgf nm 1)=true:=z0n hn h16 (by decide);have hno:=z4c (nm:=nm) (X:=X) (k:=1) (by omega) (by decide);have hl:X.D.files.length < 64:=by have:=hq.bd.nf;omega
  rcases zj hr with ⟨g,h1⟩ | ⟨Z1,h1,hr'⟩
  ·obtain ⟨g1,-⟩:=h1;exact absurd (g1.trans hE) g
  clear hr;obtain ⟨-,rfl⟩:=h1;have mkF:∀ {e Z},mkO (sgf nm 1) Z1 e Z -> FR Z1 e Z:=fun h=>z47 hF hmg hno.1 hl h;rcases zj hr' with ⟨g,h2⟩ | ⟨Z2,h2,hr⟩
  ·exact absurd ((mkF h2).calm hfe).1 g
  have f2:=mkF h2;have q2:=z2o hq hA1 h2;rcases z0g h2 with ⟨h3,-⟩ | ⟨-,-,-,b,hb,hd,hf⟩
  ·exact absurd rfl h3
  have h3:=z04 hr;have f3:=f2.trans (z8r f2.fau (by rw [(f2.calm hfe).2];decide) q2 hA2 (z5g hn h16) (z2z hn h16) (by omega) (by omega) h3);have q3:=z6n q2 hA2 hA3 h3;obtain ⟨rfl,hfe3⟩:=f3.calm hfe;have w2:Wf Z2:=hd.wf hw fun _=>⟨b,rfl⟩
  obtain ⟨w3,b3,hb3,d3,c3,c3',r3,s3,l3⟩:=man_ok w2 h3;have d2:Z2.dir=Dir.put Z1.dir (sgf nm 1) b:=by unfold Ds.dir;rw [hd.files,z0d hno.1]
  have hsm:=z2t nm (n:=1) (by omega) (by decide);have hsn:=z2u nm (n:=1) (by omega) (by decide);have d2s:Z2.dir (sgf nm 1)=some b:=by rw [d2];exact if_pos rfl
  have ebb:b ≠ b3:=hb3 _ _ hsn d2s;have cb:Y.fc b=⟨[],0⟩:=by rw [c3' b ebb,hf];exact if_pos rfl
  have at':∀ t,t ≠ manf nm -> t ≠ newf nm -> Y.dir t=Z2.dir t:=fun t h7 h8=>by rw [d3];unfold manD;rw [if_neg h7,if_neg h8]
  refine ⟨rfl,f3.fau,hfe3,q3.mono (by omega) (Nat.le_refl _) (fun _ e=>e),s3,l3,hL,⟨0,1,none,b3,0,[],1,b,[],0,0⟩,?_,rfl,fun t=>?_⟩
  ·
   have sh:Shape nm Y.dir Y.fc ⟨0,1,none,b3,0,[],1,b,[],0,0⟩:=by
    refine { f1:=Nat.le_refl _,s1:=Nat.zero_le _,man:=by rw [d3];exact if_pos rfl,manc:=c3,snap:=.inl ⟨rfl,rfl⟩,asc:=List.pairwise_singleton _ _,rng:=?_,segs:=?_,clc:=(fun c hc=>by cases hc),lastb:=?_,lastq:=Nat.zero_le _,lastl:=?_,lastd:=Nat.zero_le _,lastr:=(fun x hx=>by cases hx),apart:=⟨ebb,fun h=>by have h:1 <= 0:=h;omega,fun c hc=>by cases hc⟩ }
    ·intro p hp;rw [List.mem_singleton.1 (show p ∈ [(1,b)] from hp)];exact ⟨Nat.le_refl _,show 1 <= mxn by decide⟩
    ·
     intro k k1 k2;have k1':1 <= k:=k1;show Y.dir (sgf nm k)=([(1,b)].find? fun p=>decide (p.1=k)).map Prod.snd;rw [at' _ (z2t nm k1' k2) (z2u nm k1' k2),d2];show (if sgf nm k=sgf nm 1 then some b else Z1.dir (sgf nm k))=_;by_cases ek:k=1
     ·subst ek;rw [if_pos rfl];simp
     ·rw [if_neg (fun e=>ek (z7k nm k1' k2 (by omega) (by decide) e)),(z4c (nm:=nm) (X:=Z1) (k:=k) (by omega) k2).1,z7t];intro p hp;rw [List.mem_singleton.1 hp];exact fun e=>ek e.symm
    ·show (Y.fc b).b=_;rw [cb];rfl
    ·show _ <= (Y.fc b).lasts /\ (Y.fc b).lasts <= _;rw [cb];exact ⟨Nat.le_refl _,Nat.le_refl _⟩
   subst hL;exact { inn:=⟨w3,fun f hf=>⟨_,rfl,by rw [r3 f hf];exact sh⟩⟩,full:=rfl,name:=rfl,nob:=rfl,first:=rfl,seg:=rfl,segs:=rfl,size:=rfl,recs:=rfl,syn:=Nat.le_refl _,snap:=.inl ⟨rfl,rfl,rfl⟩ }
  ·
   rw [d3,d2];unfold manD Dir.put;by_cases e1:t=manf nm
   ·simp [e1]
   ·
    rw [if_neg e1];by_cases e2:t=newf nm
    ·
     rw [if_pos e2];constructor
     ·
      rintro (h | h | h)
      ·exact absurd h e1
      ·exact absurd (h.symm.trans e2) hsn
      ·exact absurd e2 h.1
     ·rintro ⟨_,h⟩;cases h
    ·
     rw [if_neg e2];by_cases e3:t=sgf nm 1
     ·rw [if_pos e3];exact ⟨fun _=>⟨b,rfl⟩,fun _=>.inr (.inl e3)⟩
     ·rw [if_neg e3];exact ⟨fun h=>h.elim (fun h=>absurd h e1) fun h=>h.elim (fun h=>absurd h e3) fun h=>h.2,fun h=>.inr (.inr ⟨e2,h⟩)⟩
 ·rw [show flook X.D.files (manf nm)=none from h0] at h1;cases h1
 ·rw [show flook X.D.files (manf nm)=none from h0] at h1;cases h1
end Go.Log
end
section
namespace Go.Log
open Go.Vfs
variable {nm:ByteArray} {X Y Z:Ds} {e:Int} {s t:ByteArray} {n k m q K:Nat} {x:List Nat} {g:Sh} {L L':Lg} {c:Int} {P:Sh -> Prop}
def AN (nm:ByteArray) (K:Nat) (t:ByteArray):Prop:=mnB t=true /\ sgn nm t <= K /\ snn nm t <= K
theorem AN.mono {K K':Nat} (h:K <= K'):AN nm K t -> AN nm K' t:=fun ⟨a,b,c⟩=>⟨a,by omega,by omega⟩
theorem nxL_le {l:List ByteArray} (h:∀ s ∈ l,sgn nm s <= K /\ snn nm s <= K):nxL nm l <= K:=by
 induction l with
 | nil=>exact Nat.zero_le _
 | cons a l ih =>
  show max (max (sgn nm a) (snn nm a)) (nxL nm l) <= K;have h1:=h a (by simp);have h2:=ih fun s hs=>h s (by simp [hs]);omega
theorem zbe (h:AllN (AN nm K) X):nx nm X <= K:=nxL_le fun s hs=>by
 obtain ⟨b,hb⟩:=z1c hs;exact ⟨(h s b hb).2.1,(h s b hb).2.2⟩
variable (hn:mnB nm=true) (h16:nm.size <= 16)
include hn h16
theorem z8i {k:Nat} (h1:1 <= k) (h2:k <= mxn) (hK:k <= K):AN nm K (sgf nm k):=⟨z0n hn h16 h2,by rw [z1n nm h1 h2];exact hK,by rw [zh5];exact Nat.zero_le _⟩
theorem zff {k:Nat} (h1:1 <= k) (h2:k <= mxn) (hK:k <= K):AN nm K (snf nm k):=⟨z5h hn h16 h2,by rw [zau];exact Nat.zero_le _,by rw [z38 nm h1 h2];exact hK⟩
theorem zc4:AN nm K (newf nm):=⟨z5g hn h16,by rw [zat];exact Nat.zero_le _,by rw [zaw];exact Nat.zero_le _⟩
theorem zc3:AN nm K (manf nm):=⟨z2z hn h16,by rw [zas];exact Nat.zero_le _,by rw [zav];exact Nat.zero_le _⟩
omit hn h16
structure GS (nm:ByteArray) (L:Lg) (X:Ds) (g:Sh) (n q K:Nat) (c:Int):Prop where
 li:LI nm L X g
 fau:Fau X.D
 fe:X.D.fe ≠ 6
 qt:Qt n q (AN nm K) c X
structure GB (nm:ByteArray) (X:Ds) (P:Sh -> Prop) (n q K:Nat) (c:Int):Prop where
 inn:In nm X P
 fau:Fau X.D
 fe:X.D.fe=0
 qt:Qt n q (AN nm K) c X
theorem FR.fe6 (h:FR X e Y) (h6:X.D.fe ≠ 6):Y.D.fe ≠ 6:=h.fe.elim (fun e=>e ▸ h6) (fun e=>by rw [e];decide)
include hn h16
theorem zco (h:GS nm L X g n q K c) (hx:Recs [x]) (h64:n < 64) (hc:((q + (8 + x.length):Nat):Int) <= c) (hK:K < mxn) (hr:appR L x X e L' Y) :
  (X.D.fe=0 -> e=0 /\ Y.D.fe=0) /\ ((e=0 /\ L'.bad=false /\ L'.recs=L.recs ++ [x] /\ L.segment <= L'.segment /\ ∃ g',GS nm L' Y g' (n + 1) (q + (8 + x.length)) (K + 1) c /\ g'.sn=g.sn /\ g.closed.length + g.du <= g'.closed.length + g'.du) \/
   (e ≠ 0 /\ L'.bad=true /\ L'.synced=L.synced /\ L'.segment=L.segment /\ GB nm Y (Left g (L.recs ++ [x])) (n + 1) (q + (8 + x.length)) (K + 1) c)):=by
 have hnx:=zbe h.qt.al;have hL:=h.li.name;have qy:Qt (n + 1) (q + (8 + x.length)) (AN nm (K + 1)) c Y:=qt_app (h.qt.mono (Nat.le_refl _) (Nat.le_refl _) (fun _=>AN.mono (by omega))) (fun _=>by rw [hL];exact z8i hn h16 (by omega) (by omega) (by omega)) hr;have f:=fr_app hn h16 h.li hx h.fau h.qt h64 hc (by omega) hr;refine ⟨f.calm,?_⟩;rcases zc6 h.li hx hr with ⟨h1,h2,h3,h4,g',h5,h6,h7⟩ | ⟨h1,h2,h3,h4,h5⟩
 ·exact .inl ⟨h2,h1,h4,h3,g',⟨h5,f.fau,f.fe6 h.fe,qy⟩,h6,h7⟩
 ·exact .inr ⟨h2,h1,h4,h3,⟨h5,f.fau,f.met h2,qy⟩⟩
theorem zcp (h:GS nm L X g n q K c) (hr:synR L X e L' Y) :
  (X.D.fe=0 -> e=0 /\ Y.D.fe=0) /\ ((e=0 /\ L'={ L with synced:=L.recs.length } /\ GS nm L' Y { g with du:=g.rs.length } n q K c) \/ (e ≠ 0 /\ L'={ L with bad:=true } /\ GB nm Y (·=g) n q K c)):=by
 have qy:=qt_syn h.qt hr;have f:=fr_syn hn h16 h.li h.fau hr;refine ⟨f.calm,?_⟩;rcases zbv h.li hr with ⟨h1,h2,h3⟩ | ⟨h1,h2,h3⟩
 ·exact .inl ⟨h1,h2,⟨h3,f.fau,f.fe6 h.fe,qy⟩⟩
 ·exact .inr ⟨h1,h2,⟨h3,f.fau,f.met h1,qy⟩⟩
theorem zfz (h:GS nm L X g n q K c) (hx:Recs [x]) (h64:n + 2 < 64) (hc:((q + (8 + x.length) + 24:Nat):Int) <= c) (hK:K + 2 <= mxn) (hK2:K + 1 < mxn) (hr:turnR L x X e L' Y) :
  (X.D.fe=0 -> e=0 /\ Y.D.fe=0) /\ ((e=0 /\ ∃ s n' bm bs b,L'={ L with snap:=x,has:=true,recs:=[],synced:=0,first:=n',segment:=n',segments:=1,size:=0 } /\ L.segment <= n' /\ GS nm L' Y (Sh.new s n' x bm bs b) (n + 3) (q + (8 + x.length) + 24) (K + 2) c) \/
   (e ≠ 0 /\ L'={ L with bad:=true } /\ GB nm Y (fun q=>Left g L.recs q \/ q.sn=some x /\ q.closed=[] /\ q.rs=[]) (n + 3) (q + (8 + x.length) + 24) (K + 2) c)):=by
 have hnx:=zbe h.qt.al;have hL:=h.li.name;have tn:TN nm (AN nm (K + 2)) (nx nm X):=⟨zc4 hn h16,zc3 hn h16,zff hn h16 (by omega) (by omega) (by omega),z8i hn h16 (by omega) (by omega) (by omega)⟩
 have q2:Qt n q (AN nm (K + 2)) c X:=h.qt.mono (Nat.le_refl _) (Nat.le_refl _) (fun _=>AN.mono (by omega));have qy:=zgm q2 (fun _=>by rw [hL];exact tn) hr;have f:=zfy hn h16 h.li hx h.fau h.fe (fun t a=>a.1) tn q2 h64 hc (by omega) hr;refine ⟨f.calm,?_⟩;rcases zbx h.li hx hr with ⟨h1,s,n',bm,bs,b,h2,h3,h4⟩ | ⟨h1,h2,h3⟩
 ·exact .inl ⟨h1,s,n',bm,bs,b,h2,h4,⟨h3,f.fau,f.fe6 h.fe,qy⟩⟩
 ·exact .inr ⟨h1,h2,⟨h3,f.fau,f.met h1,qy⟩⟩
theorem za9 {most:Nat} (hi:In nm X P) (hP:Trims P) (hF:Fau X.D) (h6:X.D.fe ≠ 6) (hq:Qt n q (AN nm K) c X) (hr:openR nm most X e L Y) :
  (X.D.fe=0 -> e=0 /\ Y.D.fe=0) /\ ∃ h j,P h /\ Shape nm X.dir X.fc h /\ h.du <= j /\ j <= h.rs.length /\ (h.q=(enc h.rs).length -> j=h.rs.length) /\ (enc (h.rs.take j)).length <= h.q /\ (e=0 -> GS nm L Y { h.trim j with du:=j } n q K c /\ L.synced=L.recs.length /\ L.most=most):=by
 obtain ⟨h,j,h1,h2,h3,h4,h5,h7,⟨en,e1,e2,e3,e4,e5⟩,h8⟩:=zbh hn h16 hq.bd.key hi hP hr;have f:=zfx hn h16 hF h2.m1.2 e4 e1 e3 e5;refine ⟨f.calm,h,j,h1,h2,h3,h4,h5,by rw [<- e2];exact e3,fun e0=>?_⟩;obtain ⟨g1,g2,g3⟩:=h8 e0;exact ⟨⟨g1,f.fau,f.fe6 h6,zgl hq e5⟩,g2,g3⟩
theorem ze6 {most:Nat} (hw:Wf X) (hF:Fau X.D) (hfe:X.D.fe=0) (hq:Qt n q (AN nm 0) c X) (hn64:n + 1 < 64) (hc:((q + 24:Nat):Int) <= c) (h0:X.dir (manf nm)=none) (hr:openR nm most X e L Y) :
  e=0 /\ L={ lg0 nm most with first:=1,segment:=1,segments:=1 } /\ Y.D.fe=0 /\ Y.D.steps=[] /\ Y.D.lasting=Y.D.files /\ ∃ g,GS nm L Y g (n + 2) (q + 24) 1 c /\ g.sn=none /\ (∀ t,t=manf nm \/ t=sgf nm 1 \/ (t ≠ newf nm /\ ∃ b,X.dir t=some b) ↔ ∃ b,Y.dir t=some b):=by
 have hnx:=zbe hq.al;obtain ⟨h1,h2,h3,h4,h5,h6,h7,g,h8,h9,h10⟩:=zbg hn h16 hw hF hfe (hq.mono (Nat.le_refl _) (Nat.le_refl _) (fun _=>AN.mono (Nat.zero_le 1))) hn64 hc h0 (by omega) (z8i hn h16 (Nat.le_refl _) (by decide) (Nat.le_refl _)) (zc4 hn h16) (zc3 hn h16) hr;exact ⟨h1,h7,h3,h5,h6,g,⟨h8,h2,by rw [h3];decide,h4⟩,h9,h10⟩
end Go.Log
end
section
namespace Go.Log
open Go.Vfs
open Go.Proofs.YtpjomdmjohjheaaGreatDoor (newD)
variable {nm:ByteArray} {X Y Z:Ds} {e:Int} {s t:ByteArray} {n k m q K:Nat} {x:List Nat} {g:Sh} {L L':Lg} {c:Int} {P:Sh -> Prop}
def sa:ByteArray:=⟨#[97]⟩
theorem z1s:mnB sa=true:=by decide
theorem z1r:sa.size <= 16:=by decide
theorem z4s {zs:List Int} {F:List (ByteArray × Nat)} {fc:Nat -> Fl} {j:Nat}:∀ {l:List ByteArray},(∀ s ∈ l,∀ b,flook F s=some b -> (fc b).b.length <= (fc b).lasts) -> l.foldl (tr1 zs F) (fc,j)=(fc,j)
 | [],_=>rfl
 | s :: l,h=>by
  rw [List.foldl_cons];have:tr1 zs F (fc,j) s=(fc,j):=by
   unfold tr1;cases hs:flook F s with
   | none=>rfl
   | some b=>simp only;rw [if_neg (by have:=h s (by simp) b hs;omega)]
  rw [this];exact z4s fun s' h'=>h s' (by simp [h'])
theorem ze3 {zs:List Int} {F:List (ByteArray × Nat)} {fc:Nat -> Fl} {t:ByteArray} {b0:Nat} {l:List ByteArray} (hl:l.Nodup) (ht:t ∈ l) (hb:flook F t=some b0) (hlo:(fc b0).lasts < (fc b0).b.length) (hf:∀ s ∈ l,s ≠ t -> ∀ b,flook F s=some b -> b ≠ b0 /\ (fc b).b.length <= (fc b).lasts) :
  (l.foldl (tr1 zs F) (fc,0)).1 b0=⟨(fc b0).b.take ((fc b0).lasts + pkn zs 0 % ((fc b0).b.length - (fc b0).lasts + 1)),(fc b0).lasts + pkn zs 0 % ((fc b0).b.length - (fc b0).lasts + 1)⟩:=by
 obtain ⟨a,d,rfl⟩:=List.append_of_mem ht;rw [List.nodup_append] at hl;obtain ⟨h1,h2,h3⟩:=hl;rw [List.nodup_cons] at h2;rw [List.foldl_append,z4s fun s hs b hsb=>(hf s (by simp [hs]) (h3 s hs t (by simp)) b hsb).2,List.foldl_cons,z65 hb,if_pos hlo];have key:∀ s ∈ d,∀ b,flook F s=some b -> (setf fc b0 ⟨(fc b0).b.take ((fc b0).lasts + pkn zs 0 % ((fc b0).b.length - (fc b0).lasts + 1)),(fc b0).lasts + pkn zs 0 % ((fc b0).b.length - (fc b0).lasts + 1)⟩ b).b.length <= (setf fc b0 ⟨(fc b0).b.take ((fc b0).lasts + pkn zs 0 % ((fc b0).b.length - (fc b0).lasts + 1)),(fc b0).lasts + pkn zs 0 % ((fc b0).b.length - (fc b0).lasts + 1)⟩ b).lasts:=fun s hs b hsb=>by
  have hne:s ≠ t:=fun e=>h2.1 (e ▸ hs);obtain ⟨h4,h5⟩:=hf s (by simp [hs]) hne b hsb;rw [z0f _ _ h4];exact h5
 rw [z4s key];exact z0e _ _ _
theorem zeb {D':Dk} {fc':Nat -> Fl} {φ:Nat -> Option Nat} {l2:List (ByteArray × Nat)} {bs:List Bool} (h:In sa X (·=g)) (hst:X.D.steps=[]) (hla:X.D.lasting=X.D.files) (hk:(X.D.files.map Prod.fst).Nodup) (hnm:∀ t b,X.dir t=some b -> t=manf sa \/ t=sgf sa 1)
  (hm:g.m=1) (hr:g.rs=[[120],[121]]) (hq:g.q=18) (hlast:(X.fc g.b).lasts=9) (hc:CrashR [3] X.D X.fc D' fc' φ l2 bs) :
  ∃ v,In sa ⟨D',fc'⟩ (·=Sh.move g v 12):=by
 have hlk:(X.D.lasting.map Prod.fst).Nodup:=by rw [hla];exact hk
 obtain ⟨f,g',v,n,hRf,rfl,hsh,hin,hdir⟩:=z9j h hlk hc;have hfd:f=X.dir:=by
  obtain ⟨bs',rfl⟩:=hRf;rw [hst,z8g,hla];rfl
 subst hfd;obtain ⟨q',rfl,hs'⟩:=hin.live;have h1:=hs'.lastAt;have h2:=hs'.lastb;have hlq:g'.q=(X.fc g'.b).b.length:=by rw [hsh.lastb,List.length_take];have:=hsh.lastq;omega
 have hn18:n <= 18:=by
  have h3:n <= (enc g'.rs).length:=hs'.lastq;have h4:=hsh.lastq;have:(enc [[120],[121]]).length=18:=by simp [enc,zw]
  rw [hr] at h3;omega
 obtain ⟨nms,fc1,hp,hf1,hfc⟩:=hc.tr;rw [hst] at hfc;have hDf:D'.files.map Prod.fst=l2.map Prod.fst:=by
  rw [hc.eq];show ((replay bs X.D.steps l2).map (mv φ)).map Prod.fst=_;rw [hst,show replay bs [] l2=l2 by cases bs <;> rfl,List.map_map];rfl
 have hnd:nms.Nodup:=by
  refine hp.nodup_iff.2 ?_;rw [hDf];exact ((hc.p2.map Prod.fst).nodup_iff).2 hlk
 have hd1:flook D'.files (sgf sa 1)=some (v g'.b):=by rw [<- hm];exact h1
 have hmem:sgf sa 1 ∈ nms:=by
  refine hp.mem_iff.2 (List.mem_map.2 ⟨_,zq hd1,rfl⟩)
 have hv:∀ t b,X.dir t=some b -> fc1 (v b)=X.fc b:=fun t b hb=>by
  have hb2:(t,b) ∈ l2:=hc.p2.mem_iff.2 (by rw [hla];exact zq hb);have hR:Ref X.D b:=.inl ⟨_,zq hb,rfl⟩;obtain ⟨b',hb'⟩:=Option.ne_none_iff_exists'.1 (hc.all b hR);have h5:flook D'.files t=some ((φ b).getD 0):=by
   rw [hc.eq];show flook ((replay bs X.D.steps l2).map (mv φ)) t=_;rw [hst,show replay bs [] l2=l2 by cases bs <;> rfl,z4q,z6b hlk hc.p2,hla,show flook X.D.files t=some b from hb];rfl
  have h6:=hdir t;rw [show (⟨D',fc'⟩:Ds).dir t=flook D'.files t from rfl,h5,hb] at h6;have h7:v b=b':=by
   have:=Option.some.inj h6;rw [hb'] at this;exact this.symm
  rw [h7];exact hf1 b b' hb'
 have hcon:fc1 (v g'.b)=X.fc g'.b:=hv _ _ hsh.lastAt
 have hone:=ze3 (zs:=[3]) (F:=D'.files) (fc:=fc1) (t:=sgf sa 1) (b0:=v g'.b) hnd hmem hd1 (by rw [hcon,hlast,<- hlq,hq];decide) (fun s hs hne b hb=>by
  have h6:=hdir s;rw [show (⟨D',fc'⟩:Ds).dir s=flook D'.files s from rfl,hb] at h6;cases hx:X.dir s with
  | none=>rw [hx] at h6;cases h6
  | some b1 =>
   rw [hx] at h6;have e1:b=v b1:=by simpa using h6
   have e2:s=manf sa:=(hnm s b1 hx).resolve_right hne;have e3:b1=g'.bm:=by rw [e2,hsh.man] at hx;exact (Option.some.inj hx).symm
   have e4:(⟨D',fc'⟩:Ds).dir (manf sa)=some (v g'.bm):=hs'.man;refine ⟨?_,?_⟩
   ·rw [e1,e3];exact (hs'.apart.1).symm
   ·rw [e1,hv s b1 hx,e3,hsh.manc];exact Nat.le_refl _)
 have hz:(List.length ([]:List Stp))=0:=rfl;rw [hz] at hfc;rw [<- hfc,hcon,hlast,<- hlq,hq] at hone;have hfcb:(fc' (v g'.b)).b=(X.fc g'.b).b.take 12:=by rw [hone];rfl
 have hn12:n=12:=by
  have h3:(fc' (v g'.b)).b=(enc g'.rs).take n:=h2;have h4:=congrArg List.length (hfcb.symm.trans h3);rw [List.length_take,List.length_take,<- hlq,hq] at h4;have:(enc [[120],[121]]).length=18:=by simp [enc,zw]
  rw [hr,this] at h4;omega
 exact ⟨v,hn12 ▸ hin⟩
theorem zc7 (h:LI nm L X g) (hx:Recs [x]) (hsz:L.size + (8 + x.length) <= L.most) (hr:appR L x X 0 L' Y):L'={ L with recs:=L.recs ++ [x],size:=L.size + (8 + x.length) } /\ Sm X Y /\ LI nm L' Y { g with rs:=g.rs ++ [x],q:=g.q + (8 + x.length) } /\ (Y.fc g.b).lasts=(X.fc g.b).lasts:=by
 have hxl:x.length <= mxr:=(hx x (by simp)).1;rcases hr with ⟨h0,-⟩ | ⟨-,e1,Z,h1,h2⟩
 ·exact absurd (h.may hxl) h0
 rcases h2 with ⟨g1,g2,-⟩ | ⟨rfl,-,-,rfl,rfl⟩ | ⟨-,g1,-⟩
 ·exact absurd g2.symm g1
 ·
  rw [h.atseg] at h1;obtain ⟨s1,⟨h3,-⟩ | ⟨b,k,hb,hk,hk0,hf⟩⟩:=z0k h1
  ·exact absurd rfl h3
  obtain rfl:b=g.b:=Option.some.inj (hb.symm.trans h.shape.lastAt);have hkl:=hk0 rfl;subst hkl;have i1:In nm Y (·={ g with rs:=g.rs ++ [x],q:=g.q + (recd x).length }):=h.inn.write s1 hf fun q f hq hsh=>by
   subst hq;exact ⟨_,rfl,hsh.append h.full hx (Nat.le_refl _)⟩
  rw [zw] at i1;refine ⟨rfl,s1,{ inn:=i1,full:=?_,name:=h.name,nob:=h.nob,first:=h.first,seg:=h.seg,segs:=h.segs,size:=?_,recs:=?_,syn:=h.syn,snap:=h.snap },by rw [hf,z0e]⟩
  ·show g.q + _=_;rw [z1e,z1u,List.length_append,h.full,zw]
  ·show L.size + _=g.q + _;rw [h.size]
  ·show L.recs ++ [x]=g.closed ++ (g.rs ++ [x]);rw [h.recs,List.append_assoc]
 ·omega
theorem new_qt (nm:ByteArray) (c:Int):Qt 0 0 (AN nm 0) c ⟨newD c,fun _=>⟨[],0⟩⟩:=⟨⟨Nat.le_refl _,Nat.le_refl _,List.nodup_nil,List.nodup_nil⟩,fun t b hb=>absurd (show (none:Option Nat)=some b from hb) nofun,rfl⟩
theorem new_wf (c:Int):Wf ⟨newD c,fun _=>⟨[],0⟩⟩:=fun s hs=>by cases hs
theorem zgc (c:Int):Fau (newD c):=⟨rfl,by show (-1:Int) < 0;decide⟩
def KP (h:Sh):Prop:=h.sn=none /\ h.closed=[] /\ h.m=1 /\ h.du=1 /\ h.rs.take 1=[[120]] /\ h.q <= 12
theorem zec:Trims KP:=fun h j ⟨h1,h2,h3,h4,h5,h6⟩ hj _ hq=>⟨h1,h2,h3,h4,by show (h.rs.take j).take 1=_;rw [List.take_take,Nat.min_eq_left (by omega)];exact h5,by show (enc (h.rs.take j)).length <= 12;omega⟩
theorem kp_one {h:Sh} {j:Nat} (hp:KP h) (h1:h.du <= j) (h2:j <= h.rs.length) (h3:(enc (h.rs.take j)).length <= h.q):h.rs.take j=[[120]] /\ j=1:=by
 obtain ⟨-,-,-,h4,h5,h6⟩:=hp;have hj:j=1:=by
  rcases Nat.lt_or_ge 1 j with hl | hl
  ·
   have e:=z1b (l:=h.rs) (show 2 <= j from hl);cases hr:h.rs with
   | nil=>rw [hr] at h2;simp at h2;omega
   | cons a r =>
    cases r with
    | nil=>rw [hr] at h2;simp at h2;omega
    | cons b r =>
     have:(enc (h.rs.take 2)).length=8 + a.length + (8 + b.length):=by rw [hr];simp [enc,zw]
     have ha:a.length=1:=by rw [hr] at h5;simp at h5;rw [h5];rfl
     omega
  ·omega
 exact ⟨by rw [hj];exact h5,hj⟩
def KQ (h:Sh):Prop:=h.sn=some [115] /\ h.closed ++ h.rs=[[122]] /\ h.du=h.rs.length
theorem z8t:Trims KQ:=fun h j ⟨h1,h2,h3⟩ hj hl _=>by
 have:h.rs.take j=h.rs:=List.take_of_length_le (by omega);exact ⟨h1,by show h.closed ++ h.rs.take j=_;rw [this];exact h2,by show h.du=(h.rs.take j).length;rw [this];exact h3⟩
end Go.Log
end
section
namespace Go.Log
open Go.Vfs
open Go.Proofs.YtpjomdmjohjheaaGreatDoor (newD)
variable {nm:ByteArray} {X Y Z:Ds} {e:Int} {s t:ByteArray} {n k m q K:Nat} {x:List Nat} {g:Sh} {L L':Lg} {c:Int} {P:Sh -> Prop} {A:ByteArray -> Prop}
theorem sum_le {l:List (ByteArray × Nat)} {a b:ByteArray × Nat -> Nat} (h:∀ p ∈ l,a p <= b p):(l.map a).sum <= (l.map b).sum:=by
 induction l with
 | nil=>exact Nat.le_refl _
 | cons p l ih =>
  simp only [List.map_cons,List.sum_cons];have h1:=h p (by simp);have h2:=ih fun p hp=>h p (by simp [hp]);omega
theorem zd5 {zs:List Int} {D':Dk} {fc':Nat -> Fl} {φ:Nat -> Option Nat} {l2:List (ByteArray × Nat)} {bs:List Bool} (h:Qt n q A c X) (hst:X.D.steps=[]) (hla:X.D.lasting=X.D.files) (hc:CrashR zs X.D X.fc D' fc' φ l2 bs) :
  Qt n q A c ⟨D',fc'⟩ /\ Fau D' /\ D'.fe=0 /\ pot ⟨D',fc'⟩ <= 2 * (n:Int):=by
 obtain ⟨p2,-,-,-,inj,all,eq,fcc⟩:=hc;rw [hst,show replay bs [] l2=l2 by cases bs <;> rfl] at eq fcc;rw [hla] at p2;have hf:D'.files=l2.map (mv φ):=by rw [eq];rfl
 have hln:D'.files.length=X.D.files.length:=by rw [hf,List.length_map,p2.length_eq]
 have hrf:∀ p ∈ l2,∃ z,φ p.2=some z:=fun p hp=>Option.ne_none_iff_exists'.1 (all p.2 (.inl ⟨p,p2.mem_iff.1 hp,rfl⟩));have hkey:(D'.files.map Prod.fst).Perm (X.D.files.map Prod.fst):=by
  rw [hf,List.map_map];exact p2.map Prod.fst
 refine ⟨⟨⟨by show D'.files.length <= n;rw [hln];exact h.bd.nf,?_,hkey.nodup_iff.2 h.bd.key,?_⟩,?_,?_⟩,?_,?_,?_⟩
 ·refine Nat.le_trans ?_ h.bd.nt;show tot D'.files fc' <= _;rw [hf,<- z9d p2 X.fc];unfold tot;rw [List.map_map];refine sum_le fun p hp=>?_;obtain ⟨z,h1,h2,h3⟩:=fcc p hp;show (fc' ((φ p.2).getD 0)).b.length <= _;rw [h3,List.length_take];omega
 ·show (D'.files.map Prod.snd).Nodup;have hb:=(p2.map Prod.snd).nodup_iff.2 h.bd.blk;rw [hf,List.map_map];unfold List.Nodup at hb ⊢;rw [List.pairwise_map] at hb ⊢;refine hb.imp_of_mem fun {a b} ha hb' hne e=>hne ?_;obtain ⟨z,hz⟩:=hrf a ha;obtain ⟨z',hz'⟩:=hrf b hb';have e:(φ a.2).getD 0=(φ b.2).getD 0:=e;rw [hz,hz'] at e;have e:z=z':=e;subst e;exact inj _ _ _ hz hz'
 ·intro t b hb;have h1:t ∈ D'.files.map Prod.fst:=List.mem_map.2 ⟨_,zq hb,rfl⟩;obtain ⟨b',hb'⟩:=z1c (hkey.mem_iff.1 h1);exact h.al t b' hb'
 ·rw [<- h.cap];show D'.cap=_;rw [eq];rfl
 ·exact ⟨by rw [eq];rfl,by rw [eq];show (-1:Int) < 0;decide⟩
 ·rw [eq];rfl
 ·unfold pot;show D'.changes + 2 * (D'.files.length:Int) <= _;rw [hln,show D'.changes=0 by rw [eq];rfl];have:=h.bd.nf;omega
structure KA (L:Lg) (X:Ds) (rs:List (List Nat)) (du z n q K:Nat):Prop where
 ex:∃ g,GS sa L X g n q K 9999 /\ (X.fc g.b).lasts=z /\ g.sn=none /\ g.cl=[] /\ g.m=1 /\ g.rs=rs /\ g.du=du
 fe:X.D.fe=0
 st:X.D.steps=[]
 la:X.D.lasting=X.D.files
 nms:∀ t b,X.dir t=some b -> t=manf sa \/ t=sgf sa 1
 seg:L.segment=1
 most:L.most=99
variable {rs:List (List Nat)} {du z:Nat} {L:Lg}
theorem z8k {g:Sh} (h:g.cl=[]):g.closed=[]:=by unfold Sh.closed;rw [h];rfl
theorem ka_new (hr:openR sa 99 ⟨newD 9999,fun _=>⟨[],0⟩⟩ e L Y):e=0 /\ KA L Y [] 0 0 2 24 1:=by
 obtain ⟨h1,h2,h3,h4,h5,g,h6,h7,h8⟩:=ze6 z1s z1r (new_wf 9999) (zgc 9999) rfl (new_qt sa 9999) (by decide) (by decide) rfl hr;have e1:=h6.li.segs;have e2:=h6.li.size;have e3:=h6.li.recs;have e4:=h6.li.seg;rw [h2] at e1 e2 e3 e4;have c0:g.cl=[]:=by
  have:(1:Nat)=g.cl.length + 1:=e1;cases hc:g.cl with
  | nil=>rfl
  | cons a l=>rw [hc] at this;simp at this
 have e3:[]=g.closed ++ g.rs:=e3;rw [z8k c0] at e3;have r0:g.rs=[]:=e3.symm;have sh:=h6.li.shape;have d0:=sh.lastd;have l0:=sh.lastl.2;have q0:(0:Nat)=g.q:=e2;rw [r0] at d0;refine ⟨h1,⟨⟨g,h6,by omega,h7,c0,e4.symm,r0,Nat.le_zero.1 d0⟩,h3,h4,h5,fun t b hb=>?_,by rw [h2],by rw [h2];rfl⟩⟩;rcases (h8 t).2 ⟨b,hb⟩ with h | h | ⟨-,b',h⟩
 ·exact .inl h
 ·exact .inr h
 ·exact absurd (show (none:Option Nat)=some b' from h) nofun
theorem KA.lrecs (h:KA L X rs du z n q K):L.recs=rs:=by
 obtain ⟨g,h1,-,-,h4,-,h6,-⟩:=h.ex;rw [h1.li.recs,z8k h4,h6];rfl
theorem KA.lsize (h:KA L X rs du z n q K):L.size=(enc rs).length:=by
 obtain ⟨g,h1,-,-,h4,-,h6,-⟩:=h.ex;rw [h1.li.size,h1.li.full,h6]
theorem KA.lsegs (h:KA L X rs du z n q K):L.segments=1:=by
 obtain ⟨g,h1,-,-,h4,-,h6,-⟩:=h.ex;rw [h1.li.segs,h4];rfl
theorem zcr (h:KA L X rs du z n q K) (hx:Recs [x]) (h64:n < 64) (hc:((q + (8 + x.length):Nat):Int) <= 9999) (hK:K < mxn) (hsz:(enc rs).length + (8 + x.length) <= 99) (hr:appR L x X e L' Y) :
  e=0 /\ KA L' Y (rs ++ [x]) du z (n + 1) (q + (8 + x.length)) (K + 1):=by
 have hls:=h.lsize;obtain ⟨⟨g,h1,h2,h3,h4,h5,h6,h7⟩,fe,st,la,nms,seg,most⟩:=h;obtain ⟨hcalm,hcs⟩:=zco z1s z1r h1 hx h64 hc hK hr;obtain ⟨e0,fe'⟩:=hcalm fe;subst e0;rcases hcs with ⟨-,-,-,-,g',hg',-⟩ | ⟨h0,-⟩
 ·obtain ⟨rfl,sm,hli,hlast⟩:=zc7 h1.li hx (by rw [hls,most];exact hsz) hr;exact ⟨rfl,⟨⟨_,⟨hli,hg'.fau,hg'.fe,hg'.qt⟩,by rw [<- h2];exact hlast,h3,h4,h5,by show g.rs ++ [x]=_;rw [h6],h7⟩,fe',by rw [sm.steps];exact st,by rw [sm.lasting,sm.files];exact la,fun t b hb=>nms t b (by rw [<- sm.dir];exact hb),seg,most⟩⟩
 ·exact absurd rfl h0
theorem ka_syn (h:KA L X rs du z n q K) (hr:synR L X e L' Y):e=0 /\ KA L' Y rs rs.length (enc rs).length n q K:=by
 obtain ⟨⟨g,h1,h2,h3,h4,h5,h6,h7⟩,fe,st,la,nms,seg,most⟩:=h;obtain ⟨hcalm,hcs⟩:=zcp z1s z1r h1 hr;obtain ⟨e0,fe'⟩:=hcalm fe;subst e0;have sm:Sm X Y:=by
  rcases hr with ⟨-,-,-,rfl⟩ | ⟨-,hr,-⟩
  ·exact Sm.refl _
  ·exact (z0b hr).1
 rcases hcs with ⟨-,rfl,hg⟩ | ⟨h0,-⟩
 ·have hl:=hg.li.shape.lastl;have hq:g.q=(enc g.rs).length:=h1.li.full;refine ⟨rfl,⟨⟨_,hg,?_,h3,h4,h5,h6,by show g.rs.length=_;rw [h6]⟩,fe',by rw [sm.steps];exact st,by rw [sm.lasting,sm.files];exact la,fun t b hb=>nms t b (by rw [<- sm.dir];exact hb),seg,most⟩⟩;have l1:(enc (g.rs.take g.rs.length)).length <= (Y.fc g.b).lasts:=hl.1;have l2:(Y.fc g.b).lasts <= g.q:=hl.2;rw [List.take_length] at l1;show (Y.fc g.b).lasts=_;rw [<- h6];omega
 ·exact absurd rfl h0
theorem zea {D':Dk} {fc':Nat -> Fl} {φ:Nat -> Option Nat} {l2:List (ByteArray × Nat)} {bs:List Bool} (h:KA L X [[120],[121]] 1 9 n q K) (hc:CrashR [3] X.D X.fc D' fc' φ l2 bs) :
  In sa ⟨D',fc'⟩ KP /\ Qt n q (AN sa K) 9999 ⟨D',fc'⟩ /\ Fau D' /\ D'.fe=0 /\ pot ⟨D',fc'⟩ <= 2 * (n:Int):=by
 obtain ⟨⟨g,h1,h2,h3,h4,h5,h6,h7⟩,fe,st,la,nms,seg,most⟩:=h;obtain ⟨v,hv⟩:=zeb h1.li.inn st la h1.qt.bd.key nms h5 h6 (by rw [h1.li.full,h6];simp [enc,zw]) h2 hc;refine ⟨hv.mono fun f hf=>?_,zd5 h1.qt st la hc⟩;subst hf;refine ⟨h3,by rw [z9o];exact z8k h4,h5,h7,by show g.rs.take 1=_;rw [h6];rfl,Nat.le_refl _⟩
theorem zg2 (hi:In sa X KP) (hF:Fau X.D) (hfe:X.D.fe=0) (hq:Qt n q (AN sa K) 9999 X) (hr:openR sa 99 X e L Y) :
  e=0 /\ Y.D.fe=0 /\ L.recs=[[120]] /\ L.segment=1 /\ L.most=99 /\ ∃ g,GS sa L Y g n q K 9999:=by
 obtain ⟨hcalm,h,j,h1,h2,h3,h4,h5,h6,h7⟩:=za9 z1s z1r hi zec hF (by rw [hfe];decide) hq hr;obtain ⟨e0,fe'⟩:=hcalm hfe;obtain ⟨g1,g2,g3⟩:=h7 e0;obtain ⟨k1,k2⟩:=kp_one h1 h3 h4 h6;refine ⟨e0,fe',?_,?_,g3,_,g1⟩
 ·have:L.recs=h.closed ++ h.rs.take j:=g1.li.recs;rw [this,h1.2.1,k1];rfl
 ·have:L.segment=h.m:=g1.li.seg;rw [this,h1.2.2.1]
theorem zg3 (h:GS sa L X g n q K 9999) (hfe:X.D.fe=0) (hx:Recs [x]) (h64:n + 2 < 64) (hc:((q + (8 + x.length) + 24:Nat):Int) <= 9999) (hK:K + 2 <= mxn) (hK2:K + 1 < mxn) (hr:turnR L x X e L' Y) :
  e=0 /\ Y.D.fe=0 /\ L'.recs=[] /\ L'.size=0 /\ L'.segments=1 /\ ∃ g',GS sa L' Y g' (n + 3) (q + (8 + x.length) + 24) (K + 2) 9999 /\ g'.sn=some x:=by
 obtain ⟨hcalm,hcs⟩:=zfz z1s z1r h hx h64 hc hK hK2 hr;obtain ⟨e0,fe'⟩:=hcalm hfe;rcases hcs with ⟨-,s,n',bm,bs,b,rfl,-,hg⟩ | ⟨h0,-⟩
 ·exact ⟨e0,fe',rfl,rfl,rfl,_,hg,rfl⟩
 ·exact absurd e0 h0
theorem kb_app (h:GS sa L X g n q K 9999) (hfe:X.D.fe=0) (hx:Recs [x]) (h64:n < 64) (hc:((q + (8 + x.length):Nat):Int) <= 9999) (hK:K < mxn) (hr:appR L x X e L' Y) :
  e=0 /\ Y.D.fe=0 /\ L'.recs=L.recs ++ [x] /\ ∃ g',GS sa L' Y g' (n + 1) (q + (8 + x.length)) (K + 1) 9999 /\ g'.sn=g.sn:=by
 obtain ⟨hcalm,hcs⟩:=zco z1s z1r h hx h64 hc hK hr;obtain ⟨e0,fe'⟩:=hcalm hfe;rcases hcs with ⟨-,-,h1,-,g',h2,h3,-⟩ | ⟨h0,-⟩
 ·exact ⟨e0,fe',h1,g',h2,h3⟩
 ·exact absurd e0 h0
theorem kb_syn (h:GS sa L X g n q K 9999) (hfe:X.D.fe=0) (hsn:g.sn=some [115]) (hrs:L.recs=[[122]]) (hr:synR L X e L' Y) :
  e=0 /\ In sa Y KQ /\ Fau Y.D /\ Y.D.fe=0 /\ Qt n q (AN sa K) 9999 Y:=by
 obtain ⟨hcalm,hcs⟩:=zcp z1s z1r h hr;obtain ⟨e0,fe'⟩:=hcalm hfe;rcases hcs with ⟨-,rfl,hg⟩ | ⟨h0,-⟩
 ·refine ⟨e0,hg.li.inn.mono fun f hf=>?_,hg.fau,fe',hg.qt⟩;subst hf;exact ⟨hsn,by have:=h.li.recs;rw [hrs] at this;exact this.symm,rfl⟩
 ·exact absurd e0 h0
theorem zg4 (hi:In sa X KQ) (hF:Fau X.D) (hfe:X.D.fe=0) (hq:Qt n q (AN sa K) 9999 X) (hr:openR sa 99 X e L Y) :
  e=0 /\ L.recs=[[122]] /\ L.has=true /\ L.snap=[115]:=by
 obtain ⟨hcalm,h,j,h1,h2,h3,h4,h5,h6,h7⟩:=za9 z1s z1r hi z8t hF (by rw [hfe];decide) hq hr;obtain ⟨e0,fe'⟩:=hcalm hfe;obtain ⟨g1,g2,g3⟩:=h7 e0;obtain ⟨k1,k2,k3⟩:=z8t h j h1 h3 h4 h6;refine ⟨e0,?_,?_⟩
 ·have:L.recs=h.closed ++ h.rs.take j:=g1.li.recs;rw [this];exact k2
 ·
  rcases g1.li.snap with ⟨h8,-⟩ | ⟨x,h8,h9,h10⟩
  ·have h8:h.sn=none:=h8;rw [h1.1] at h8;cases h8
  ·have h8:h.sn=some x:=h8;rw [h1.1] at h8;cases h8;exact ⟨h9,h10⟩
end Go.Log
end
section
namespace Go.Proofs.YtpjomdmjohjheaaGreatDoor
open Go.RowKit Go.Lk Go.Vfs Go.Log
variable {L0 L L':Lg} {X0 X Y:Ds} {k t:Nat} {e:Int} {b:List Nat}
end Go.Proofs.YtpjomdmjohjheaaGreatDoor
end
section
namespace Go.Proofs.YtpjomdmjohjheaaGreatDoor
open Go.RowKit Go.Lk Go.Vfs Go.Log
end Go.Proofs.YtpjomdmjohjheaaGreatDoor
end
section
namespace Go.Proofs.YtpjomdmjohjheaaGreatDoor
open Go.RowKit Go.Lk Go.Vfs Go.Log
variable {W0 w w' w2:World} {l d:Nat} {L L':Lg} {X Y:Ds} {O O' S N:Nat -> Prop}
theorem do_new (hk:Keeps Nb W0 w) (hv:Vars W0) (h6:6 <= W0.heap.size) (hO:∀ k,O k -> k < w.heap.size) (c:Int) (hc:1 <= c /\ c <= 16777216) :
  Calls Tryz.prog 18 #[.int .i64 c] w fun e w'=>∃ d,e=.returned (.tuple #[.pointer (some ⟨d,0,none⟩),.int .i64 0]) /\ DO W0 w' d ⟨newD c,fun _=>⟨[],0⟩⟩ O /\ Keeps Nb w w':=by
 refine (new_at c w hc).mono ?_;rintro e w' ⟨d,rfl,hd,F,R,h1,h2,h3,h4⟩;have z:=hk.size;exact ⟨d,rfl,⟨⟨F,R,h2,fun k e=>⟨by have:=hO k e;have:=h1.size;omega,fun f=>by have:=hO k e;have:=h3 k f;omega,fun f=>by have:=hO k e;have:=h4 k f;omega⟩,fun k f=>by have:=h3 k f;omega⟩,hk.trans_nb h1,hv,h6⟩,h1⟩
theorem zdx (h:DO W0 w d X O) (v:Value) (zs:List Int) (hp:PicksV w v zs) (hl:X.D.lasting.length + X.D.steps.length <= 1000000) :
  Calls Tryz.prog 24 #[.pointer (some ⟨d,0,none⟩),v] w fun e w'=>∃ d' D' fc' φ l2 bs,e=.returned (.pointer (some ⟨d',0,none⟩)) /\ DO W0 w' d' ⟨D',fc'⟩ O /\ Keeps Nb w w' /\ CrashR zs X.D X.fc D' fc' φ l2 bs:=by
 obtain ⟨F,R,h1,h2,h3⟩:=h.ex;obtain ⟨a,c,rfl,p1,p2,p3,p4⟩:=hp;refine (zdw d zs.length c a zs X.D F R X.fc w h1 p3 rfl p4 ⟨p1,p2⟩ hl).mono ?_;rintro e w' ⟨d',D',fc',F',R',φ,l2,bs,rfl,g1,g2,g3,g4,g5⟩;have z:=h.k.size;exact ⟨d',D',fc',φ,l2,bs,rfl,⟨⟨F',R',g1,fun k e=>⟨Nat.lt_of_lt_of_le (h2 k e).1 g4.size,fun f=>by have:=(h2 k e).1;have:=g2 k f;omega,fun f=>by have:=(h2 k e).1;have:=g3 k f;omega⟩,fun k f=>by have:=g2 k f;omega⟩,h.k.trans_nb g4,h.v,h.six⟩,g4,g5⟩
end Go.Proofs.YtpjomdmjohjheaaGreatDoor
end
section
namespace Go.Lk
open Go.RowKit
variable {P:Program} {w:World} {t e:TypeId}
def IsMark (g:Nat) (cs:Array Value) (e:TypeId) (u:Value) (w:World) (v:Value) (w':World):Prop:=v=u /\ w'.heap[g]?=some (.cells cs e (cs.size,cs.size + 1)) /\ Keeps (·=g) w w'
theorem run_mark {g n c:Nat} {cs:Array Value} (ht:P.underlying t=some (.slice e)) (he:P.underlying e=some (.int .u8)) (hg:w.heap[g]?=some (.cells cs e (0,0))) :
  ∃ w',(convert t t (.slice (some ⟨g,0,none⟩) n c)).run P w=.ok (.slice (some ⟨g,0,none⟩) n c) w' /\ w'.heap[g]?=some (.cells cs e (cs.size,cs.size + 1)) /\ Keeps (·=g) w w':=by
 have hsh:w.shape? g=some (e,cs.size):=by unfold World.shape?;rw [hg]
 refine ⟨w.freeze ⟨g,cs.size,none⟩ 1,?_,?_,?_⟩
 ·simp [convert,run_underlying ht,run_underlying he,markStringish,hsh]
 ·have hl:=lt_of_block hg;unfold World.freeze;rw [if_neg (by decide)];simp [Array.getElem?_modify,hg]
 ·unfold World.freeze;rw [if_neg (by decide)];exact ⟨rfl,rfl,rfl,by simp,fun i hi hn=>by simp [Array.getElem?_modify,Ne.symm hn]⟩
theorem z5k {dst:Option Tmp} {x:Operand} {ty:TypeId} {pos:String} {aft:Array Edge} {gd:Option (Nat × Bool)} {a:Act} {g n c:Nat} {cs:Array Value} (ht:P.underlying t=some (.slice e)) (he:P.underlying e=some (.int .u8)) (hx:a.eval x=.slice (some ⟨g,0,none⟩) n c) (hg:w.heap[g]?=some (.cells cs e (0,0))) :
  ∃ v w',(execOp a.eval ⟨dst,.convert t t x,ty,pos,aft,gd⟩).run P w=.ok (.value v) w' /\ IsMark g cs e (.slice (some ⟨g,0,none⟩) n c) w v w':=by
 obtain ⟨w',h1,h2,h3⟩:=run_mark (n:=n) (c:=c) ht he hg;exact ⟨_,w',by unfold execOp;simp only [hx,Sem.run_bind,h1,Result.andThen_ok,Sem.run_pure],rfl,h2,h3⟩
end Go.Lk
end
section
namespace Go.Proofs.YtpjomdmjohjheaaGreatDoor
open Go.RowKit Go.Lk Go.Vfs Go.Log
variable {W0 w w' w2:World} {l d:Nat} {L L':Lg} {X Y:Ds} {O O' S N:Nat -> Prop}
theorem z3j {g n:Nat} {cs:Array Value} {l:List Nat} {u v:Value} (h:NewAt w w2 g (.cells cs 5)) (hm:IsMark g cs 5 u w2 v w') (hu:u=.slice (some ⟨g,0,none⟩) n n) (hcs:cs=(l.map fun x=>Value.int .u8 (x:Nat)).toArray) (hn:l.length=n) (hl:∀ z ∈ l,z < 256) (hx:n <= 1000) :
  v=.slice (some ⟨g,0,none⟩) n n /\ Bytes w' (·=g) v l /\ Keeps Nb w w' /\ w.heap.size <= g /\ g < w'.heap.size:=by
 obtain ⟨rfl,h1,h2⟩:=hm;subst hn;subst hu;subst hcs;refine ⟨rfl,⟨_,_,rfl,Nat.le_refl _,by unfold maxLen;omega,.inr ⟨g,0,rfl,fun i hi=>?_⟩,hl,fun b off e _=>by cases e;rfl⟩,h.k.own h.ge h2,h.ge,lt_of_block h1⟩;rw [Nat.zero_add,cell_of_block h1];simp [List.getElem?_eq_getElem hi,z0o hi]
theorem zcx {g n:Nat} {l:List Int} (h:NewAt w w' g (.cells (l.map fun x=>Value.int .i64 x).toArray 3)) (hn:l.length=n) (hl:∀ z ∈ l,I64 z) (hm:n <= 1000):PicksV w' (.slice (some ⟨g,0,none⟩) n n) l:=by
 subst hn;refine ⟨_,_,rfl,Nat.le_refl _,by unfold maxLen;omega,.inr ⟨g,0,rfl,fun i hi=>?_⟩,hl⟩;rw [Nat.zero_add,cell_of_block h.blk];simp [List.getElem?_eq_getElem hi,z8w hi]
theorem zds {g x:Nat} (h:NewAt w w' g (.cells #[.int .u8 (x:Nat)] 5)) (hx:x < 256):Bytes w' (·=g) (.slice (some ⟨g,0,none⟩) 1 1) [x]:=by
 refine ⟨_,_,rfl,Nat.le_refl _,by unfold maxLen;omega,.inr ⟨g,0,rfl,fun i hi=>?_⟩,fun z hz=>by rw [List.mem_singleton.1 hz];exact hx,fun b off e _=>by cases e;rfl⟩;rw [Nat.zero_add,cell_of_block h.blk];have:i=0:=by have:i < 1:=hi;omega
 subst this;rfl
theorem zgx {g:Nat} {v:Value} {x:List Nat} {a:Option Addr} {n c:Nat} (h:NewAt w w' g (.cells #[v] 22)) (hv:v=.slice a n c) (hb:Bytes w (fun k=>k < w.heap.size) v x) :
  RowS w' (fun k=>k < w'.heap.size) (fun _=>False) 22 1 (.slice (some ⟨g,0,none⟩) 1 1) 1 [v] /\ BytesL w' (fun k=>k < w'.heap.size) [v] [x]:=by
 have z:=h.k.size;refine ⟨⟨rfl,fun u hu=>by rw [List.mem_singleton.1 hu,hv];rfl,some ⟨g,0,none⟩,1,rfl,Nat.le_refl _,by unfold maxLen;omega,zo h.blk,fun b off e _=>by cases e;exact ⟨.inl h.lt,⟨_,_,h.blk⟩⟩,.inl rfl⟩,?_⟩;exact .cons ((hb.keeps h.k (fun _ _ e=>e)).mono fun k e=>by omega) (.nil _ _)
theorem LS.lit {g:Nat} {v:Value} {x:List Nat} (h:LS W0 w l d L X fun _=>False) (hk:Keeps Nb w w') (h1:w.heap.size <= g) (h2:g < w'.heap.size) (hb:Bytes w' (·=g) v x) :
  LS W0 w' l d L X (·=g) /\ Bytes w' (Own W0 (·=g)) v x :=
 ⟨(h.add (N:=(·=g)) hk fun k e=>by omega).mono fun k e=>.inr e,hb.mono fun k e=>.inr e⟩
theorem z8z {l d g11 g12 x:Nat} {w11 w12 wx:World} (h:LS W0 w12 l d L X O) (hr:L.recs=[[x]]) (n12:NewAt w11 w12 g12 (.cells #[.slice (some ⟨g11,0,none⟩) 1 1] 22)) (n11:NewAt wx w11 g11 (.cells #[.int .u8 (x:Nat)] 5)) (hx:x < 256) :
  Calls Tryz.prog 34 #[.pointer (some ⟨l,0,none⟩),.slice (some ⟨g12,0,none⟩) 1 1,.int .i64 0] w12 fun e w'=>e=.returned (.bool true) /\ Keeps Nb w12 w':=by
 obtain ⟨h1,h2⟩:=zgx n12 rfl ((zds n11 hx).mono fun k e=>by have:=n11.lt;omega);have h3:=zg5 (wa:=some ⟨g12,0,none⟩) (wc:=1) (vs:=[.slice (some ⟨g11,0,none⟩) 1 1]) h (by rw [hr];exact h1) (by rw [hr];exact h2);rw [hr] at h3;exact h3
theorem z5v (w:World) (hv:Vars w) (h6:6 <= w.heap.size):Calls Tryz.prog 10 #[] w fun e w'=>e=.returned (.bool true) /\ Keeps Nb w w':=by
 have HV:=qq hv;have H6:=qq h6;clear hv h6;go_enter Tryz.func10,Tryz.ntmps10;go_wp2_with fail;refine (do_new (W0:=w) (O:=fun _=>False) (Keeps.refl _ _) HV.out H6.out (fun _ e=>e.elim) 9999 (by omega)).mono ?_;rintro _ w1 ⟨d,rfl,hd,-⟩;have OP:=qq (z7c hd sa 99 z1s z1r (by omega) (by omega) (by show pot ⟨newD 9999,_⟩ + 12 <= _;unfold pot;simp [newD]));clear hd;go_wp2_with fail;refine OP.out.mono ?_;rintro _ w2 ⟨er,L,X,hr,hp,-,hc⟩;obtain ⟨rfl,ka⟩:=ka_new hr;obtain ⟨-,l,rfl,hls⟩:=hc.resolve_right fun h=>h.1 rfl;have P:Hid (pot X <= 12):=qq hp;have KA:=qq ka;have H:=qq hls;clear hr hp ka hls OP;go_wp2_with fail;refine (z1i 0 w2).mono ?_;rintro _ _ ⟨rfl,rfl⟩;go_wp2_with fail;refine (ls_len H.out).mono ?_;rintro _ _ ⟨rfl,rfl⟩;rw [KA.out.lrecs];go_wp2_with fail;refine (zct H.out).mono ?_;rintro _ _ ⟨rfl,rfl⟩;rw [KA.out.seg];go_wp2_with (first | go_skip | (with_reducible refine zm ?_) | (with_reducible refine zx (s:=22) ?_) | fail)
 refine za (zh rfl (zl el31 [.int .u8 120] rfl (by simp [List.range'_succ];first | done | rfl) (by simp [Value.cells]) (by simp)) ?_);rintro _ w3 ⟨g,rfl,n3⟩;simp only [Nat.reduceAdd,qn];go_wp2_with (first | go_skip | (with_reducible refine zm ?_) | (with_reducible refine zx (s:=22) ?_) | fail)
 refine za (zh rfl (z5k Tryz.underlying22 Tryz.underlying5 (by rfl) n3.blk) ?_);rintro _ w4 hm;obtain ⟨rfl,hby,k4,hg1,hg2⟩:=z3j (n:=1) (l:=[120]) n3 hm rfl (by simp [Value.cells]) rfl (by simp) (by omega);obtain ⟨hl4,hb4⟩:=LS.lit H.out k4 hg1 hg2 hby;have H4:=qq hl4;have B4:=qq hb4;clear n3 hm hby k4 hl4 hb4 H;simp only [Nat.reduceAdd,qn];have AP:=qq (z4t H4.out B4.out (by have:=P.out;omega) (by rw [KA.out.lsegs];omega) (by rw [KA.out.lrecs];simp) (by rw [KA.out.lsize];simp [enc]));clear H4 B4;go_wp2_with fail;refine AP.out.mono ?_;rintro _ w5 ⟨er,L5,X5,rfl,hl5,hr5,hp5,-⟩;obtain ⟨rfl,ka5⟩:=zcr KA.out (by simp [Recs,mxr]) (by omega) (by decide) (by decide) (by simp [enc]) hr5;have P5:Hid (pot X5 <= 18):=qq (by have:=P.out;omega);have KA5:=qq ka5;have H5:=qq (hl5.mono (O':=fun _=>False) (fun _ e=>e.elim));clear hl5 hr5 hp5 ka5 KA P AP;go_wp2_with fail;refine (z1i 0 w5).mono ?_;rintro _ _ ⟨rfl,rfl⟩;have SY:=qq (zad H5.out (by have:=P5.out;omega));clear H5;go_wp2_with fail;refine SY.out.mono ?_;rintro _ w6 ⟨er,L6,X6,rfl,hl6,hr6,hp6,-⟩;obtain ⟨rfl,ka6⟩:=ka_syn KA5.out hr6;have P6:Hid (pot X6 <= 19):=qq (by have:=P5.out;omega);have KA6:=qq ka6;have H:=qq hl6;clear hl6 hr6 hp6 ka6 KA5 P5 SY;go_wp2_with fail;refine (z1i 0 w6).mono ?_;rintro _ _ ⟨rfl,rfl⟩;go_wp2_with (first | go_skip | (with_reducible refine zm ?_) | (with_reducible refine zx (s:=22) ?_) | fail)
 refine za (zh rfl (zl el31 [.int .u8 121] rfl (by simp [List.range'_succ];first | done | rfl) (by simp [Value.cells]) (by simp)) ?_);rintro _ w3 ⟨g,rfl,n3⟩;simp only [Nat.reduceAdd,qn];go_wp2_with (first | go_skip | (with_reducible refine zm ?_) | (with_reducible refine zx (s:=22) ?_) | fail)
 refine za (zh rfl (z5k Tryz.underlying22 Tryz.underlying5 (by rfl) n3.blk) ?_);rintro _ w4 hm;obtain ⟨rfl,hby,k4,hg1,hg2⟩:=z3j (n:=1) (l:=[121]) n3 hm rfl (by simp [Value.cells]) rfl (by simp) (by omega);obtain ⟨hl4,hb4⟩:=LS.lit H.out k4 hg1 hg2 hby;have H4:=qq hl4;have B4:=qq hb4;clear n3 hm hby k4 hl4 hb4 H;simp only [Nat.reduceAdd,qn];have AP:=qq (z4t H4.out B4.out (by have:=P6.out;omega) (by rw [KA6.out.lsegs];omega) (by rw [KA6.out.lrecs];simp) (by rw [KA6.out.lsize];simp [enc,zw]));clear H4 B4;go_wp2_with fail;refine AP.out.mono ?_;rintro _ w7 ⟨er,L7,X7,rfl,hl7,hr7,hp7,-⟩;obtain ⟨rfl,ka7⟩:=zcr KA6.out (by simp [Recs,mxr]) (by omega) (by decide) (by decide) (by simp [enc,zw]) hr7;have KA7:=qq ka7;have D7:=qq (LS.disk (hl7.mono (O':=fun _=>False) (fun _ e=>e.elim)));clear hl7 hr7 hp7 ka7 KA6 P6 AP;go_wp2_with fail;refine (z1i 0 w7).mono ?_;rintro _ _ ⟨rfl,rfl⟩;go_wp2_with (first | go_skip | (with_reducible refine qv (by decide) ?_))
 refine za (zh rfl (zl el35 [.int .i64 3] rfl (by simp [List.range'_succ];first | done | rfl) (by simp [Value.cells]) (by simp)) ?_);rintro _ w8 ⟨g8,rfl,n8⟩;simp only [Nat.reduceAdd,qn];have CR:=qq (zdx (D7.out.nb n8.k) _ [3] (zcx (n:=1) (l:=[3]) n8 rfl (by simp [I64]) (by omega)) (by rw [KA7.out.st,KA7.out.la];obtain ⟨g,hg,-⟩:=KA7.out.ex;have:=hg.qt.bd.nf;simp;omega));clear n8 D7;go_wp2_with fail;refine CR.out.mono ?_;rintro _ w9 ⟨c,D9,fc9,φ,l2,bs,rfl,hd9,-,hr9⟩;obtain ⟨i9,q9,f9,e9,p9⟩:=zea KA7.out hr9;have I9:=qq i9;have Q9:=qq q9;have F9:=qq f9;have E9:=qq e9;have OP:=qq (z7c hd9 sa 99 z1s z1r (by omega) (by omega) (by omega));have P9:Hid (pot ⟨D9,fc9⟩ <= 8):=qq (by omega);clear hd9 hr9 i9 q9 f9 e9 p9 KA7 CR;go_wp2_with fail;refine OP.out.mono ?_;rintro _ w10 ⟨er,L,X,hr,hp,-,hc⟩;obtain ⟨rfl,fe10,r10,s10,m10,g10,gs10⟩:=zg2 I9.out F9.out E9.out Q9.out hr;obtain ⟨-,l,rfl,hls⟩:=hc.resolve_right fun h=>h.1 rfl;have P10:Hid (pot X <= 20):=qq (by have:=P9.out;omega);have FE:=qq fe10;have RS:=qq r10;have SG:=qq s10;have GS10:=qq gs10;have H:=qq hls;clear hr hp hls hc fe10 r10 s10 m10 gs10 OP I9 Q9 F9 E9 P9;go_wp2_with fail;refine (z1i 0 w10).mono ?_;rintro _ _ ⟨rfl,rfl⟩;go_wp2_with (first | go_skip | (with_reducible refine zm ?_) | (with_reducible refine zx (s:=22) ?_) | fail)
 refine za (zh rfl (zl el31 [.int .u8 120] rfl (by simp [List.range'_succ];first | done | rfl) (by simp [Value.cells]) (by simp)) ?_);rintro _ w11 ⟨g11,rfl,n11⟩;simp only [Nat.reduceAdd,qn];go_wp2_with (first | go_skip | (with_reducible refine zm ?_) | (with_reducible refine zx (s:=22) ?_) | fail)
 refine za (zh rfl (zl el27 [.slice (some ⟨g11,0,none⟩) 1 1] rfl (by simp [List.range'_succ];first | done | rfl) (by simp [Value.cells]) (by simp)) ?_);rintro _ w12 ⟨g12,rfl,n12⟩;simp only [Nat.reduceAdd,qn];have HL:=qq (H.out.nb (n11.k.trans_nb n12.k));have ON:=qq (z8z HL.out RS.out n12 n11 (by omega));clear n11 n12 H;go_wp2_with fail;refine ON.out.mono ?_;rintro _ w13 ⟨rfl,k13⟩;have H:=qq (HL.out.nb k13);clear k13 ON HL;go_wp2_with fail;refine (zct H.out).mono ?_;rintro _ _ ⟨rfl,rfl⟩;rw [SG.out];go_wp2_with (first | go_skip | (with_reducible refine zm ?_) | (with_reducible refine zx (s:=22) ?_) | fail)
 refine za (zh rfl (zl el31 [.int .u8 115] rfl (by simp [List.range'_succ];first | done | rfl) (by simp [Value.cells]) (by simp)) ?_);rintro _ w3 ⟨g,rfl,n3⟩;simp only [Nat.reduceAdd,qn];go_wp2_with (first | go_skip | (with_reducible refine zm ?_) | (with_reducible refine zx (s:=22) ?_) | fail)
 refine za (zh rfl (z5k Tryz.underlying22 Tryz.underlying5 (by rfl) n3.blk) ?_);rintro _ w4 hm;obtain ⟨rfl,hby,k4,hg1,hg2⟩:=z3j (n:=1) (l:=[115]) n3 hm rfl (by simp [Value.cells]) rfl (by simp) (by omega);obtain ⟨hl4,hb4⟩:=LS.lit H.out k4 hg1 hg2 hby;have H4:=qq hl4;have B4:=qq hb4;clear n3 hm hby k4 hl4 hb4 H;simp only [Nat.reduceAdd,qn];have TN:=qq (zg7 H4.out B4.out (by have:=P10.out;omega));clear H4 B4;go_wp2_with fail;refine TN.out.mono ?_;rintro _ w14 ⟨er,L14,X14,rfl,hl14,hr14,hp14,-⟩;obtain ⟨rfl,fe14,r14,z14,s14,g14,gs14,sn14⟩:=zg3 GS10.out FE.out (by simp [Recs,mxr]) (by omega) (by decide) (by decide) (by decide) hr14;have P14:Hid (pot X14 <= 39):=qq (by have:=P10.out;omega);have H:=qq (hl14.mono (O':=fun _=>False) (fun _ e=>e.elim));have FE14:=qq fe14;have R14:=qq r14;have Z14:=qq z14;have S14:=qq s14;have GS14:=qq gs14;have SN14:=qq sn14;clear hl14 hr14 hp14 fe14 r14 z14 s14 gs14 sn14 TN GS10 FE RS SG P10;go_wp2_with fail;refine (z1i 0 w14).mono ?_;rintro _ _ ⟨rfl,rfl⟩;go_wp2_with (first | go_skip | (with_reducible refine zm ?_) | (with_reducible refine zx (s:=22) ?_) | fail)
 refine za (zh rfl (zl el31 [.int .u8 122] rfl (by simp [List.range'_succ];first | done | rfl) (by simp [Value.cells]) (by simp)) ?_);rintro _ w3 ⟨g,rfl,n3⟩;simp only [Nat.reduceAdd,qn];go_wp2_with (first | go_skip | (with_reducible refine zm ?_) | (with_reducible refine zx (s:=22) ?_) | fail)
 refine za (zh rfl (z5k Tryz.underlying22 Tryz.underlying5 (by rfl) n3.blk) ?_);rintro _ w4 hm;obtain ⟨rfl,hby,k4,hg1,hg2⟩:=z3j (n:=1) (l:=[122]) n3 hm rfl (by simp [Value.cells]) rfl (by simp) (by omega);obtain ⟨hl4,hb4⟩:=LS.lit H.out k4 hg1 hg2 hby;have H4:=qq hl4;have B4:=qq hb4;clear n3 hm hby k4 hl4 hb4 H;simp only [Nat.reduceAdd,qn];have AP:=qq (z4t H4.out B4.out (by have:=P14.out;omega) (by rw [S14.out];omega) (by rw [R14.out];simp) (by rw [Z14.out];omega));clear H4 B4;go_wp2_with fail;refine AP.out.mono ?_;rintro _ w15 ⟨er,L15,X15,rfl,hl15,hr15,hp15,-⟩;obtain ⟨rfl,fe15,r15,g15,gs15,sn15⟩:=kb_app GS14.out FE14.out (by simp [Recs,mxr]) (by omega) (by decide) (by decide) hr15;have P15:Hid (pot X15 <= 45):=qq (by have:=P14.out;omega);have H:=qq (hl15.mono (O':=fun _=>False) (fun _ e=>e.elim));have FE15:=qq fe15;have GS15:=qq gs15;have SN15:=qq (sn15.trans SN14.out);have R15:=qq (r15.trans (by rw [R14.out];rfl:_=[[122]]));clear hl15 hr15 hp15 fe15 r15 gs15 sn15 AP GS14 FE14 R14 Z14 S14 SN14 P14;go_wp2_with fail;refine (z1i 0 w15).mono ?_;rintro _ _ ⟨rfl,rfl⟩;have SY:=qq (zad H.out (by have:=P15.out;omega));clear H;go_wp2_with fail;refine SY.out.mono ?_;rintro _ w16 ⟨er,L16,X16,rfl,hl16,hr16,hp16,-⟩;obtain ⟨rfl,i16,f16,e16,q16⟩:=kb_syn GS15.out FE15.out SN15.out R15.out hr16;have OP:=qq (z7c hl16.disk sa 99 z1s z1r (by omega) (by omega) (by have:=P15.out;omega));have I16:=qq i16;have F16:=qq f16;have E16:=qq e16;have Q16:=qq q16;clear hl16 hr16 hp16 i16 f16 e16 q16 SY GS15 FE15 SN15 R15 P15;go_wp2_with fail;refine (z1i 0 w16).mono ?_;rintro _ _ ⟨rfl,rfl⟩;go_wp2_with fail;refine OP.out.mono ?_;rintro _ w17 ⟨er,L,X,hr,hp,-,hc⟩;obtain ⟨rfl,r17,h17,s17⟩:=zg4 I16.out F16.out E16.out Q16.out hr;obtain ⟨-,l,rfl,hls⟩:=hc.resolve_right fun h=>h.1 rfl;have H:=qq hls;have RS:=qq r17;have SP:=qq (zg6 hls);rw [h17,s17] at SP;clear hr hp hls hc r17 h17 s17 OP I16 F16 E16 Q16;go_wp2_with fail;refine (z1i 0 w17).mono ?_;rintro _ _ ⟨rfl,rfl⟩;go_wp2_with fail;refine SP.out.mono ?_;rintro _ w18 ⟨v,rfl,hb,k18⟩;obtain ⟨ad,c,rfl,-,-,hrd,-⟩:=id hb;have HH:=qq hrd.has;have H:=qq (H.out.nb k18);clear hb k18 hrd SP;go_wp2_with (first | go_skip | (with_reducible refine zm ?_) | (with_reducible refine zx (s:=22) ?_) | fail)
 refine za (zv (v:=.string (bstr [115])) rfl (z1j Tryz.underlying22 Tryz.underlying5 Tryz.underlying9 (by rfl) HH.out rfl) ?_);simp only [Nat.reduceAdd,qn];have q1:(bstr [115]).toList=([115]:List UInt8):=by first | rfl | decide | decide +kernel
 go_wp2_with (first | go_skip | (with_reducible refine zm ?_) | (with_reducible refine zx (s:=22) ?_) | fail)
 refine za (zh rfl (zl el31 [.int .u8 122] rfl (by simp [List.range'_succ];first | done | rfl) (by simp [Value.cells]) (by simp)) ?_);rintro _ w11 ⟨g11,rfl,n11⟩;simp only [Nat.reduceAdd,qn];go_wp2_with (first | go_skip | (with_reducible refine zm ?_) | (with_reducible refine zx (s:=22) ?_) | fail)
 refine za (zh rfl (zl el27 [.slice (some ⟨g11,0,none⟩) 1 1] rfl (by simp [List.range'_succ];first | done | rfl) (by simp [Value.cells]) (by simp)) ?_);rintro _ w12 ⟨g12,rfl,n12⟩;simp only [Nat.reduceAdd,qn];have HL:=qq (H.out.nb (n11.k.trans_nb n12.k));have ON:=qq (z8z HL.out RS.out n12 n11 (by omega));clear n11 n12 H;go_wp2_with fail;refine ON.out.mono ?_;rintro _ w19 ⟨rfl,k19⟩;have HK:=qq (HL.out.nb k19).k;clear k19 ON HL HH q1;go_wp2;go_ret;exact ⟨rfl,HK.out⟩
end Go.Proofs.YtpjomdmjohjheaaGreatDoor
end
section
namespace Go.Proofs.YtpjomdmjohjheaaGreatDoor.logBytes
open Go.RowKit Go.Lk Go.Vfs Go.Log Go.Proofs.YtpjomdmjohjheaaGreatDoor
theorem body (w:World) (hv:Vars w) (h6:6 <= w.heap.size) (bv:Value) (b:List Nat) (hb:Bytes w (fun k=>k < w.heap.size) bv b) (av:Value) (al:List Nat) (ha:Bytes w (fun k=>k < w.heap.size) av al):Calls Tryz.prog 3 #[bv,av] w fun e w'=>e=.returned (.bool true) /\ Keeps Nb w w':=by
 have HV:=qq hv;have H6:=qq h6;have HB:=qq hb;have HA:=qq ha;obtain ⟨ba,bc,rfl,hb1,hb2,-⟩:=id hb;obtain ⟨aa,ac,rfl,ha1,ha2,-⟩:=id ha;obtain ⟨bn,hbn⟩:∃ n,b.length=n:=⟨_,rfl⟩
 obtain ⟨an,han⟩:∃ n,al.length=n:=⟨_,rfl⟩
 have HBN:=qq hbn;have HAN:=qq han;have hbm:bn <= bc /\ bc <= 9223372036854775807:=by unfold maxLen at hb2;omega
 have ham:an <= ac /\ ac <= 9223372036854775807:=by unfold maxLen at ha2;omega
 rw [hbn] at HB ⊢;rw [han] at HA ⊢;clear hv h6 hb ha hb1 hb2 ha1 ha2 hbn han;go_enter Tryz.func3,Tryz.ntmps3;by_cases e1:(bn:Int) > 20000
 ·go_wp2_with fail;refine (z5v w (HV.out.nb (Keeps.refl Nb w)) (Nat.le_trans H6.out (Keeps.refl Nb w).size)).mono ?_;rintro _ wk ⟨rfl,kk⟩;go_wp2;go_ret;exact ⟨rfl,(Keeps.refl Nb w).trans_nb kk⟩
 by_cases e2:(an:Int) > 20000
 ·go_wp2_with fail;refine (z5v w (HV.out.nb (Keeps.refl Nb w)) (Nat.le_trans H6.out (Keeps.refl Nb w).size)).mono ?_;rintro _ wk ⟨rfl,kk⟩;go_wp2;go_ret;exact ⟨rfl,(Keeps.refl Nb w).trans_nb kk⟩
 have RC:=qq (z55 (.slice ba bn bc) b _ w HB.out (fun k e=>e) (by rw [HBN.out];unfold mxr;omega));go_wp2_with fail;refine RC.out.mono ?_;rintro _ w1 ⟨v1,rfl,hb1,k1⟩;obtain ⟨a1,c1,e3,-,-,hr1,-⟩:=id hb1;obtain ⟨rl,hrl⟩:∃ m,(recd b).length=m:=⟨_,rfl⟩
 have HRL:=qq hrl;rw [hrl] at e3;subst e3;have HH1:=qq hr1.has;have K1:=qq k1;have WA:=qq (z4g (.slice aa an ac) al _ w1 (HA.out.keeps k1 (fun _ _ e=>e)) (fun k e=>Nat.lt_of_lt_of_le e k1.size) (by rw [HAN.out];omega));clear hb1 k1 hr1 hrl RC;go_wp2_with fail;refine WA.out.mono ?_;rintro _ w2 ⟨lv,vs,rfl,hr2,hb2,k2⟩;have L2:Hid (RB w2 (fun _=>True) lv (whole al).1):=qq (RB.of hr2 hb2 (fun _ _=>trivial) (fun _ _=>trivial));have K2:=qq (K1.out.trans_nb k2);have HH2:=qq (HH1.out.keeps k2 (fun _ _ _ _ e=>e));obtain ⟨wn,hwn⟩:∃ n,(whole al).2.1=n:=⟨_,rfl⟩
 obtain ⟨wr,hwr⟩:∃ n,(whole al).2.2=n:=⟨_,rfl⟩
 obtain ⟨wl,hwl⟩:∃ n,(whole al).1=n:=⟨_,rfl⟩
 obtain ⟨-,-,la,lc,rfl,-⟩:=id hr2;have RWA:=zdf (.slice aa an ac) al _ w2 (HA.out.keeps K2.out (fun _ _ e=>e)) (fun k e=>Nat.lt_of_lt_of_le e K2.out.size) (by rw [HAN.out];omega);unfold RWholeD at RWA;rw [hwn,hwr,hwl] at RWA;rw [hwl] at L2;rw [hwn,hwr,hwl];obtain ⟨ln,hln⟩:∃ n,wl.length=n:=⟨_,rfl⟩
 rw [hln] at L2 ⊢;replace RWA:=qq RWA;clear hr2 hb2 k2 hwn hwr hwl hln WA HH1 K1;go_wp2_with fail;refine RWA.out.mono ?_;rintro _ w3 ⟨mv,rfl,hm3,k3⟩;have K3:=qq (K2.out.trans_nb k3);have HH3:=qq (HH2.out.keeps k3 (fun _ _ _ _ e=>e));have L3:=qq (L2.out.keeps k3 (fun _ _ e=>e));have M3:=qq hm3;obtain ⟨ma,mc,mvs,rfl,-⟩:=id hm3;clear hm3 k3 RWA L2 HH2 K2;have RC:=qq (fun (u:World) (k:Keeps Nb w3 u)=>z6s (.slice ba bn bc) b _ u (HB.out.keeps (K3.out.trans_nb k) (fun _ _ e=>e)) (by rw [HBN.out];omega));go_wp2;refine WT.region (fun u=>Has u a1 ((recd b).map fun z=>Value.int .u8 (z:Nat))) 29 30 [0,1,2,3,4,5,6,7,8,9,10,11,12,13,14,15,16,17,18,19,20,21,22,23,24,25,26,27,28,29] (by kernel_rfl) rfl ?_;have kd:Keeps Nb w3 w3.drew:=(Keeps.refl Nb w3).drew;have HS:Hid ((fun u:World=>Has u a1 ((recd b).map fun z=>Value.int .u8 (z:Nat))) w3.drew):=qq (HH3.out.keeps kd (fun _ _ _ _ e=>e));refine WT.t 0 (v:=_) (y:=by rintro w C1;go_simp;with_reducible rfl) (s:=HS.out) (h:=?_);refine WT.t 1 (v:=.string (bstr (recd b))) (y:=by rintro w C1;exact z1j Tryz.underlying22 Tryz.underlying5 Tryz.underlying9 (by rfl) C1 HRL.out) (s:=HS.out) (h:=?_);refine WT.t 2 (v:=_) (y:=by rintro w C1;go_simp;with_reducible rfl) (s:=HS.out) (h:=?_);refine WT.call 3 (by simp only [qi];rfl) (by kernel_rfl) (by rfl) (by go_simp;first | done | rfl | exact ⟨⟨rfl,rfl⟩,rfl⟩ | exact ⟨⟨rfl,rfl,rfl⟩,rfl⟩) (RC.out _ kd) ?_;rintro _ w4 ⟨v4,rfl,hb4,k4⟩;have K4:Hid (Keeps Nb w3 w4):=qq (kd.trans_nb k4);replace HS:Hid ((fun u:World=>Has u a1 ((recd b).map fun z=>Value.int .u8 (z:Nat))) w4):=qq (HH3.out.keeps K4.out (fun _ _ _ _ e=>e));obtain ⟨a4,c4,e4,-,-,hr4,-⟩:=id hb4;rw [HRL.out] at e4;subst e4;have HH4:=qq hr4.has;clear hb4 k4 kd hr4 RC;refine ⟨_,rfl,HS.out,?_⟩;simp only [Nat.reduceAdd,qn];refine WT.only 4 (v:=.string (bstr (recd b))) (by simp only [qi];rfl) (by kernel_rfl) (by rfl) (z1j Tryz.underlying22 Tryz.underlying5 Tryz.underlying9 (by rfl) HH4.out HRL.out) HS.out ?_;simp only [Nat.reduceAdd,qn];have hsb:(bstr (recd b) == bstr (recd b))=true:=by rw [z2c];simp
 refine WT.t 5 (v:=.bool true) (y:=by rintro w C1;go_simp;first | done | rfl | with_reducible rfl | simp) (s:=HS.out) (h:=?_);clear hsb HH4;refine WT.t 6 (v:=.bool true) (y:=by rintro w C1;go_simp;first | done | rfl | with_reducible rfl | simp) (s:=HS.out) (h:=?_);refine WT.t 7 (v:=_) (y:=by rintro w C1;go_simp;with_reducible rfl) (s:=HS.out) (h:=?_);refine WT.call 8 (by simp only [qi];rfl) (by kernel_rfl) (by rfl) (by go_simp;first | done | rfl | exact ⟨⟨rfl,rfl⟩,rfl⟩ | exact ⟨⟨rfl,rfl,rfl⟩,rfl⟩) (z1i 0 w4) ?_;rintro _ _ ⟨rfl,rfl⟩;refine ⟨_,rfl,HS.out,?_⟩;simp only [Nat.reduceAdd,qn];refine WT.t 9 (v:=.bool true) (y:=by rintro w C1;go_simp;first | done | rfl | with_reducible rfl | simp) (s:=HS.out) (h:=?_);refine WT.t 10 (v:=.bool true) (y:=by rintro w C1;go_simp;first | done | rfl | with_reducible rfl | simp) (s:=HS.out) (h:=?_);refine WT.t 11 (v:=.bool true) (y:=by rintro w C1;go_simp;first | done | rfl | with_reducible rfl | simp) (s:=HS.out) (h:=?_);refine WT.t 12 (v:=_) (y:=by rintro w C1;go_simp;with_reducible rfl) (s:=HS.out) (h:=?_);refine WT.t 13 (v:=_) (y:=by rintro w C1;go_simp;with_reducible rfl) (s:=HS.out) (h:=?_);have SA:=qq (zgz _ _ _ _ _ w4 (L3.out.keeps K4.out (fun _ _ e=>e)) (M3.out.keeps K4.out (fun _ _ e=>e)));refine WT.call 14 (by simp only [qi];rfl) (by kernel_rfl) (by rfl) (by go_simp;first | done | rfl | exact ⟨⟨rfl,rfl⟩,rfl⟩ | exact ⟨⟨rfl,rfl,rfl⟩,rfl⟩) SA.out ?_;rintro _ w5 ⟨r,rfl,hr,k5⟩;obtain rfl:=hr rfl;have K5:=qq (K4.out.trans_nb k5);replace HS:Hid ((fun u:World=>Has u a1 ((recd b).map fun z=>Value.int .u8 (z:Nat))) w5):=qq (HH3.out.keeps K5.out (fun _ _ _ _ e=>e));clear hr k5 SA K4;refine ⟨_,rfl,HS.out,?_⟩;simp only [Nat.reduceAdd,qn];refine WT.t 15 (v:=.bool true) (y:=by rintro w C1;go_simp;first | done | rfl | with_reducible rfl | simp) (s:=HS.out) (h:=?_);refine WT.t 16 (v:=.bool true) (y:=by rintro w C1;go_simp;first | done | rfl | with_reducible rfl | simp) (s:=HS.out) (h:=?_);refine WT.t 17 (v:=_) (y:=by rintro w C1;go_simp;with_reducible rfl) (s:=HS.out) (h:=?_);refine WT.t 18 (v:=_) (y:=by rintro w C1;go_simp;with_reducible rfl) (s:=HS.out) (h:=?_);refine WT.t 19 (v:=.bool true) (y:=by rintro w C1;go_simp;first | done | rfl | with_reducible rfl | simp) (s:=HS.out) (h:=?_);refine WT.t 20 (v:=.bool true) (y:=by rintro w C1;go_simp;first | done | rfl | with_reducible rfl | simp) (s:=HS.out) (h:=?_);refine WT.t 21 (v:=.bool true) (y:=by rintro w C1;go_simp;first | done | rfl | with_reducible rfl | simp) (s:=HS.out) (h:=?_);refine WT.t 22 (v:=_) (y:=by rintro w C1;go_simp;with_reducible rfl) (s:=HS.out) (h:=?_);refine WT.t 23 (v:=_) (y:=by rintro w C1;go_simp;with_reducible rfl) (s:=HS.out) (h:=?_);refine WT.t 24 (v:=.bool true) (y:=by rintro w C1;go_simp;first | done | rfl | with_reducible rfl | simp) (s:=HS.out) (h:=?_);refine WT.t 25 (v:=.bool true) (y:=by rintro w C1;go_simp;first | done | rfl | with_reducible rfl | simp) (s:=HS.out) (h:=?_);refine WT.t 26 (v:=.bool true) (y:=by rintro w C1;go_simp;first | done | rfl | with_reducible rfl | simp) (s:=HS.out) (h:=?_);have KN:=qq (z5v w5 (HV.out.nb (K3.out.trans_nb K5.out)) (Nat.le_trans H6.out (K3.out.trans_nb K5.out).size));refine WT.call 27 (by simp only [qi];rfl) (by kernel_rfl) (by rfl) (by go_simp;first | done | rfl | exact ⟨⟨rfl,rfl⟩,rfl⟩ | exact ⟨⟨rfl,rfl,rfl⟩,rfl⟩) KN.out ?_;rintro _ w6 ⟨rfl,k6⟩;have K6:=qq ((K3.out.trans_nb K5.out).trans_nb k6);replace HS:Hid ((fun u:World=>Has u a1 ((recd b).map fun z=>Value.int .u8 (z:Nat))) w6):=qq (HH3.out.keeps (K5.out.trans_nb k6) (fun _ _ _ _ e=>e));clear k6 KN K5;refine ⟨_,rfl,HS.out,?_⟩;simp only [Nat.reduceAdd,qn];refine WT.t 28 (v:=.bool true) (y:=by rintro w C1;go_simp;first | done | rfl | with_reducible rfl | simp) (s:=HS.out) (h:=?_);refine WT.stop (by kernel_rfl) ?_;refine WP.o 29 (v:=_) (y:=by go_simp;first | with_reducible rfl | exact ⟨rfl,rfl⟩) (h:=?_);refine WP.done (by kernel_rfl) ?_;clear HS;go_wp2;go_ret;exact ⟨rfl,K6.out⟩
theorem arg22 {H:Type} {enc:TypeId × Value -> H} {base:Nat} {w:World} {v0:Value} {d0:DataW H} {p0:List MemPlace} (kv0:Value.okWide Tryz.prog w .any base 22 v0) (k0:DataW.Trod enc Tryz.prog w 0 (fun _=>true) true 22 v0 d0 p0):∃ b,Bytes w (fun k=>k < w.heap.size) v0 b:=by
 obtain ⟨aa,n2,c2,rfl⟩:=Go.WideShapes.okWide_slice Tryz.underlying22 kv0;obtain ⟨m,hm⟩:=k0;obtain ⟨vb,l,e,hb⟩:=zdt hm;have e1:(Value.slice aa n2 c2).cells.toList=[Value.slice aa n2 c2]:=rfl;rw [e1] at e;cases e;exact ⟨l,hb⟩
theorem walk {H:Type} {enc:TypeId × Value -> H} {base:Nat} (w:World) (hv:Vars w) (h6:6 <= w.heap.size) {v0:Value} {d0:DataW H} {p0:List MemPlace} (kv0:Value.okWide Tryz.prog w .any base 22 v0) (k0:DataW.Trod enc Tryz.prog w 0 (fun _=>true) true 22 v0 d0 p0) {v1:Value} {d1:DataW H} {p1:List MemPlace} (kv1:Value.okWide Tryz.prog w .any base 22 v1) (k1:DataW.Trod enc Tryz.prog w 0 (fun _=>true) true 22 v1 d1 p1) :
  Calls Tryz.prog 3 #[v0,v1] w fun e w'=>e=.returned (.bool true) /\ Below w.heap.size w w':=by
 obtain ⟨b,hb⟩:=arg22 kv0 k0;obtain ⟨al,ha⟩:=arg22 kv1 k1;refine (body w hv h6 v0 b hb v1 al ha).mono ?_;rintro e w' ⟨h1,h2⟩;exact ⟨h1,h2.below⟩
end Go.Proofs.YtpjomdmjohjheaaGreatDoor.logBytes
end
