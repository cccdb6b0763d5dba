import Derived.Test.YtpjomdmjohjheaaGreatDoorK3
set_option linter.unusedVariables false
set_option linter.unusedSimpArgs false
set_option maxRecDepth 100000
set_option maxHeartbeats 8000000
section
namespace Go.Log
open Go.Lk
theorem z6y {cs : Array Value} {off : Nat} {v : Value} (h : off < cs.size) : splice cs #[v] off = cs.setIfInBounds off v := by
 apply Array.ext'
 unfold splice
 simp only [Array.toList_setIfInBounds]
 rw [List.set_eq_take_append_cons_drop, if_pos (by simpa using h)]
 simp
end Go.Log
namespace Go.Proofs.YtpjomdmjohjheaaGreatDoor
open Go.RowKit Go.Lk Go.Vfs Go.Log
structure Fv where
 g : Nat
 bnd : Array Value
 caps : Array Value
def Fv.v (f : Fv) : Value := .func (.func f.g) f.bnd f.caps
def AskE (l : Nat) (R : Int -> World -> Prop) (er : Int) (w : World) : Prop :=
 ∃ cs, w.heap[l]? = some (.cells cs 78 (0, 0)) /\ 11 < cs.size /\ ∀ w', SetAt w w' l (.cells (cs.setIfInBounds 11 (.bool true)) 78 (0, 0)) -> R er w'
theorem ask_at (l : Nat) (a : Option Addr) (n c : Nat) (fs : List Fv) (Φ : Nat -> World -> Prop) (R : Int -> World -> Prop) (w : World) (hn : fs.length = n) (hnc : n <= c) (hc : c <= 1000)
  (hg : ∀ f ∈ fs, ∀ args w, (callFunc f.g args).run Tryz.prog w = .ok (.enter f.g args) w) (hr : ∀ i w', i <= n -> Φ i w' -> Has w' a (fs.map Fv.v))
  (h0 : Φ 0 w) (hs : ∀ i f w', fs[i]? = some f -> Φ i w' -> Calls Tryz.prog f.g (f.bnd ++ f.caps) w' fun e w'' => ∃ er : Int, e = .returned (.int .i64 er) /\ ((er = 0 /\ Φ (i + 1) w'') \/ (er ≠ 0 /\ AskE l R er w'')))
  (hd : ∀ w', Φ n w' -> R 0 w') :
  Calls Tryz.prog 53 #[.pointer (some ⟨l, 0, none⟩), .slice a n c] w fun e w' => ∃ er : Int, e = .returned (.int .i64 er) /\ R er w' := by
 have HG := qq hg; have HR := qq hr; have H0 := qq h0; have HS := qq hs; have HD := qq hd; have HN := qq hn
 clear hg hr h0 hs hd hn
 go_enter Tryz.func53, Tryz.ntmps53
 go_wp2
 go_loopw [10] (fun i wr => ∃ k : Nat, k <= n /\ i = .int .i64 k /\ Φ k wr) (fun i _ => n - (intOf i).toNat)
 case atStart => exact ⟨0, Nat.zero_le _, rfl, H0.out⟩
 case round =>
  obtain ⟨k, hk, rfl, hf⟩ := hrel
  have HF := qq hf
  clear hf
  by_cases hlt : k < n
  ·
   have i1 : (k : Int) < (n : Int) := by omega
   obtain ⟨f, hfk⟩ : ∃ f, fs[k]? = some f := ⟨_, List.getElem?_eq_getElem (by rw [HN.out]; exact hlt)⟩
   have HFK := qq hfk
   obtain ⟨b, off, rfl, hck⟩ : ∃ b off, a = some ⟨b, off, none⟩ /\ wr.cell? ⟨b, off + k, none⟩ = some (.func (.func f.g) f.bnd f.caps) := by
    rcases HR.out k wr (by omega) HF.out with h | ⟨b, off, h, hc⟩
    ·
     have : fs = [] := List.map_eq_nil_iff.1 h
     rw [this] at hfk; cases hfk
    ·
     exact ⟨b, off, h, hc k _ (by rw [List.getElem?_map, hfk]; rfl)⟩
   have ew := HG.out f (List.mem_of_getElem? hfk)
   have HST := qq (HS.out k f wr hfk HF.out)
   clear hfk
   go_wp2_with fail
   refine HST.out.mono ?_
   rintro _ w1 ⟨er, rfl, ⟨rfl, hf1⟩ | ⟨hne, cs, hb, hcs, hR⟩⟩
   ·
    have HF1 := qq hf1
    clear hf1 hck ew HST
    go_wp2
    go_roundw
    case rel => exact ⟨k + 1, by omega, by go_num, HF1.out⟩
    case measure => simp [intOf]; omega
   ·
    have HRR := qq hR
    have t1 : (er != 0) = true := by simpa using hne
    clear hR hck ew HST hne
    go_wp2_with (first | go_skip | (with_reducible refine qv (by decide) ?_))
    refine za (zc rfl (zd (v := .bool true) (n := 1) (by kernel_rfl) (by rfl) (by rfl) hb (by rfl) (by simp [Value.cells]; omega) (by simp [Value.cells, Value.oneCell'])) ?_)
    intro w2 s2
    simp only [Nat.reduceAdd, qn]
    have hset := HRR.out w2 (by rw [<- z6y hcs]; exact s2)
    have HF2 := qq hset
    clear hset s2 HRR hb
    go_wp2
    go_ret
    exact ⟨er, rfl, HF2.out⟩
  ·
   obtain rfl : k = n := by omega
   have HR0 := qq (HD.out wr HF.out)
   go_wp2
   go_ret
   exact ⟨0, rfl, HR0.out⟩
end Go.Proofs.YtpjomdmjohjheaaGreatDoor
end
section
namespace Go.Log
open Go.Lk Go.RowKit Go.Vfs
variable {w w' w2 : World} {l d : Nat} {Fd Rd FL RL S : Nat -> Prop} {L : Lg} {X Y Z : Ds} {e : Int} {s t : ByteArray}
theorem LgAt.setL (h : LgAt w l d Fd Rd FL RL L X) {sv lv : Value} {L' : Lg} {cs : Array Value} (hc : w.heap[l]? = some (.cells (lcs d sv lv L) 78 (0, 0))) (hs : SetAt w w' l (.cells cs 78 (0, 0))) (hcs : cs = lcs d sv lv L') (e1 : L'.snap = L.snap) (e2 : L'.recs = L.recs) (hn : NumL L') :
  LgAt w' l d Fd Rd FL RL L' X := by
 subst hcs
 obtain ⟨g1, ⟨sv', lv', vs, h1, h2, h3, h4⟩, g3, g4, g5, g6, g7, g8, g9⟩ := h
 rw [hc] at h1
 obtain ⟨rfl, rfl⟩ : sv = sv' /\ lv = lv' := by simpa [lcs] using h1
 have k := hs.k
 have hT : ∀ k, IsT w 22 k -> ¬ k = l := fun k ht e => by subst e; exact (ht.ne ⟨_, _, hc⟩ (by decide)) rfl
 refine ⟨g1.keeps k (fun k hk e => (g4 l g3).1 (e ▸ hk)) (fun k hk e => (g4 l g3).2 (e ▸ hk)), ⟨sv, lv, vs, hs.blk, ?_, ?_, ?_⟩, g3, g4, g5, fun k e => Nat.lt_of_lt_of_le (g6 k e) hs.k.size, fun k e => Nat.lt_of_lt_of_le (g7 k e) hs.k.size, hn, g9⟩
 ·
  rw [e1]; exact h2.keeps k (fun k hk e => (g5 k hk).2 (e ▸ g3))
 ·
  rw [e2]; exact h3.keeps k (fun k hk ht => hT k ht)
 ·
  rw [e2]; exact h4.keeps k (fun k hk e => (g5 k hk).2 (e ▸ g3))
theorem NumL.setBad (h : NumL L) (b : Bool) : NumL { L with bad := b } := ⟨h.name, h.n16, h.most, h.first, h.segment, h.segments, h.size, h.recs, h.nrec, h.snap⟩
def pot (X : Ds) : Int := X.D.changes + 2 * X.D.files.length
theorem z5i (h1 : Y.D = (chg X.D).1) : pot Y = pot X + 1 := by
 obtain ⟨a, -, -, b, -⟩ := z01 X.D
 unfold pot; rw [h1, a, b]; omega
theorem z6n (h : mkO s X e Y) : pot Y <= pot X + 3 := by
 obtain ⟨n, -, h⟩ := h
 obtain ⟨a, -, -, b, -⟩ := z01 X.D
 rcases h with ⟨-, -, h, -⟩ | ⟨-, -, -, h, -⟩ | ⟨-, -, -, -, h, -⟩ | ⟨-, -, -, -, -, h, -⟩ | ⟨-, -, -, -, -, ⟨-, k, -, h, -⟩ | ⟨-, h, -⟩⟩
 ·
  unfold pot; rw [h]; omega
 ·
  unfold pot; rw [h]; omega
 ·
  unfold pot; rw [h]; omega
 ·
  unfold pot; rw [h]; omega
 ·
  unfold pot; rw [h]; simp only [Dk.make, List.length_append, List.length_cons, List.length_nil]; rw [a, b]; omega
 ·
  rw [z5i h]; omega
theorem zdd {bs : List Nat} (h : apO s bs X e Y) : pot Y <= pot X + 1 := by
 rcases h with ⟨-, -, h, -⟩ | ⟨-, -, -, h, -⟩ | ⟨b, -, -, ⟨-, -, h, -⟩ | ⟨-, -, -, h, -⟩ | ⟨-, -, -, h, -⟩⟩
 ·
  unfold pot; rw [h]; omega
 ·
  unfold pot; rw [h]; omega
 ·
  unfold pot; rw [h]; omega
 ·
  unfold pot; rw [h]; omega
 ·
  rw [z5i h]; omega
theorem z4y (h : syO s X e Y) : pot Y <= pot X + 1 := by
 rcases h with ⟨-, -, h, -⟩ | ⟨-, -, -, h, -⟩ | ⟨b, -, -, ⟨-, -, h, -⟩ | ⟨-, -, h, -⟩⟩
 ·
  unfold pot; rw [h]; omega
 ·
  unfold pot; rw [h]; omega
 ·
  unfold pot; rw [h]; omega
 ·
  rw [z5i h]; omega
theorem pot_cu {n : Nat} (h : cuO s n X e Y) : pot Y <= pot X + 1 := by
 rcases h with ⟨-, -, h, -⟩ | ⟨-, -, -, h, -⟩ | ⟨-, -, -, -, h, -⟩ | ⟨b, -, -, -, ⟨-, -, h, -⟩ | ⟨-, -, -, h, -⟩ | ⟨-, -, -, h, -⟩⟩
 ·
  unfold pot; rw [h]; omega
 ·
  unfold pot; rw [h]; omega
 ·
  unfold pot; rw [h]; omega
 ·
  unfold pot; rw [h]; omega
 ·
  unfold pot; rw [h]; omega
 ·
  rw [z5i h]; omega
theorem pot_sd (h : sdO X e Y) : pot Y <= pot X + 1 := by
 obtain ⟨⟨-, -, h⟩ | ⟨-, -, h⟩, -⟩ := h
 ·
  unfold pot; rw [h]; omega
 ·
  obtain ⟨a, -, -, b, -⟩ := z01 X.D
  unfold pot; rw [h]; split
  ·
   simp only [Dk.sdir]; rw [a, b]; omega
  ·
   rw [a, b]; omega
theorem pot_rn (h : rnO s t X e Y) : pot Y <= pot X + 1 := by
 obtain ⟨⟨-, -, h⟩ | ⟨-, -, -, h⟩ | ⟨-, -, -, -, h⟩ | ⟨b, -, -, hb, ⟨-, -, h⟩ | ⟨-, -, h⟩⟩, -⟩ := h
 ·
  unfold pot; rw [h]; omega
 ·
  unfold pot; rw [h]; omega
 ·
  unfold pot; rw [h]; omega
 ·
  unfold pot; rw [h]; omega
 ·
  obtain ⟨a, -, -, c, -⟩ := z01 X.D
  unfold pot; rw [h]; split
  ·
   have := z3u hb t
   simp only [Dk.ren, Dk.step]; rw [a, c]; omega
  ·
   rw [a, c]; omega
theorem z9b (h : rmO s X e Y) : pot Y <= pot X + 1 /\ (e = 0 -> pot Y <= pot X) := by
 obtain ⟨⟨-, he, h⟩ | ⟨-, -, he, h⟩ | ⟨b, -, hb, ⟨-, he, h⟩ | ⟨-, he, h⟩⟩, -⟩ := h
 ·
  unfold pot; rw [h]; omega
 ·
  unfold pot; rw [h]; omega
 ·
  unfold pot; rw [h]; omega
 ·
  obtain ⟨a, -, -, c, -⟩ := z01 X.D
  unfold pot; rw [h]; split
  ·
   have := zae hb
   simp only [Dk.rem, Dk.step]; rw [a, c]; omega
  ·
   rename_i hk
   rw [a, c]
   refine ⟨by omega, fun h0 => absurd ?_ hk⟩
   rw [h0] at he
   unfold chg at he ⊢
   simp only at he ⊢
   split at he
   ·
    rename_i hf; rw [if_pos hf]; simp only at he; exact absurd he.symm hf.1
   ·
    rename_i hf; rw [if_neg hf]
    split at he
    ·
     cases he
    ·
     rename_i hg; rw [if_neg hg]
theorem z7n {a : List Op} {o : Op} (h : askO a X 0 Z) (ho : o Z 0 Y) : askO (a ++ [o]) X 0 Y := by
 induction a generalizing X with
 | nil => obtain ⟨-, rfl⟩ := h; exact ⟨0, Y, ho, .inr ⟨rfl, rfl, rfl⟩⟩
 | cons p a ih =>
  obtain ⟨e1, W, h1, ⟨hne, he, -⟩ | ⟨h0, h2⟩⟩ := h
  ·
   exact absurd he.symm hne
  ·
   exact ⟨e1, W, h1, .inr ⟨h0, ih h2⟩⟩
theorem z7o {a b : List Op} {o : Op} (h : askO a X 0 Z) (ho : o Z e Y) (hne : e ≠ 0) : askO (a ++ o :: b) X e Y := by
 induction a generalizing X with
 | nil => obtain ⟨-, rfl⟩ := h; exact ⟨e, Y, ho, .inl ⟨hne, rfl, rfl⟩⟩
 | cons p a ih =>
  obtain ⟨e1, W, h1, ⟨hn, he, -⟩ | ⟨h0, h2⟩⟩ := h
  ·
   exact absurd he.symm hn
  ·
   exact ⟨e1, W, h1, .inr ⟨h0, ih h2⟩⟩
def Stable (P : World -> (Nat -> Prop) -> (Nat -> Prop) -> Prop) : Prop :=
 ∀ (w w' : World) (Fd FL Fd' FL' : Nat -> Prop), P w Fd FL -> Keeps (fun k => Fd k \/ FL k) w w' -> (∀ k, k < w.heap.size -> ¬ Fd k -> ¬ Fd' k) -> (∀ k, k < w.heap.size -> ¬ FL k -> ¬ FL' k) -> P w' Fd' FL'
def Out (w : World) (Fd FL : Nat -> Prop) (k : Nat) : Prop := k < w.heap.size /\ ¬ Fd k /\ ¬ FL k
def Box (b : Nat) (o : Obj) (w : World) (Fd FL : Nat -> Prop) : Prop := w.heap[b]? = some o /\ ¬ Fd b /\ ¬ FL b
theorem zr (b : Nat) (o : Obj) : Stable (Box b o) := fun w w' Fd FL Fd' FL' ⟨h1, h2, h3⟩ hk g1 g2 =>
 ⟨hk.at h1 (fun e => e.elim h2 h3), g1 b (lt_of_block h1) h2, g2 b (lt_of_block h1) h3⟩
def BytesO (v : Value) (bs : List Nat) (w : World) (Fd FL : Nat -> Prop) : Prop := Bytes w (Out w Fd FL) v bs
theorem z8b (v : Value) (bs : List Nat) : Stable (BytesO v bs) := fun w w' Fd FL Fd' FL' h hk g1 g2 =>
 (h.keeps hk (fun k hk e => e.elim hk.2.1 hk.2.2)).mono (fun k h => ⟨Nat.lt_of_lt_of_le h.1 hk.size, g1 k h.1 h.2.1, g2 k h.1 h.2.2⟩)
theorem Stable.and {P Q : World -> (Nat -> Prop) -> (Nat -> Prop) -> Prop} (hP : Stable P) (hQ : Stable Q) : Stable (fun w a b => P w a b /\ Q w a b) :=
 fun w w' Fd FL Fd' FL' h hk g1 g2 => ⟨hP w w' Fd FL Fd' FL' h.1 hk g1 g2, hQ w w' Fd FL Fd' FL' h.2 hk g1 g2⟩
end Go.Log
end
section
namespace Go.Log
open Go.Vfs
open Go.Proofs.YtpjomdmjohjheaaGreatDoor (newD)
variable {nm : ByteArray} {X Y Z : Ds} {e : Int} {s t : ByteArray} {n k m q K : Nat} {x : List Nat} {g : Sh} {L L' : Lg} {c : Int} {P : Sh -> Prop} {A : ByteArray -> Prop}
theorem sum_le {l : List (ByteArray × Nat)} {a b : ByteArray × Nat -> Nat} (h : ∀ p ∈ l, a p <= b p) : (l.map a).sum <= (l.map b).sum := by
 induction l with
 | nil => exact Nat.le_refl _
 | cons p l ih =>
  simp only [List.map_cons, List.sum_cons]
  have h1 := h p (by simp)
  have h2 := ih fun p hp => h p (by simp [hp])
  omega
theorem zde {zs : List Int} {D' : Dk} {fc' : Nat -> Fl} {φ : Nat -> Option Nat} {l2 : List (ByteArray × Nat)} {bs : List Bool} (h : Qt n q A c X) (hst : X.D.steps = []) (hla : X.D.lasting = X.D.files) (hc : CrashR zs X.D X.fc D' fc' φ l2 bs) :
  Qt n q A c ⟨D', fc'⟩ /\ Fau D' /\ D'.fe = 0 /\ pot ⟨D', fc'⟩ <= 2 * (n : Int) := by
 obtain ⟨p2, -, -, -, inj, all, eq, fcc⟩ := hc
 rw [hst, show replay bs [] l2 = l2 by cases bs <;> rfl] at eq fcc
 rw [hla] at p2
 have hf : D'.files = l2.map (mv φ) := by rw [eq]; rfl
 have hln : D'.files.length = X.D.files.length := by rw [hf, List.length_map, p2.length_eq]
 have hrf : ∀ p ∈ l2, ∃ z, φ p.2 = some z := fun p hp => Option.ne_none_iff_exists'.1 (all p.2 (.inl ⟨p, p2.mem_iff.1 hp, rfl⟩))
 have hkey : (D'.files.map Prod.fst).Perm (X.D.files.map Prod.fst) := by
  rw [hf, List.map_map]
  exact p2.map Prod.fst
 refine ⟨⟨⟨by show D'.files.length <= n; rw [hln]; exact h.bd.nf, ?_, hkey.nodup_iff.2 h.bd.key, ?_⟩, ?_, ?_⟩, ?_, ?_, ?_⟩
 ·
  refine Nat.le_trans ?_ h.bd.nt
  show tot D'.files fc' <= _
  rw [hf, <- z9m p2 X.fc]
  unfold tot
  rw [List.map_map]
  refine sum_le fun p hp => ?_
  obtain ⟨z, h1, h2, h3⟩ := fcc p hp
  show (fc' ((φ p.2).getD 0)).b.length <= _
  rw [h3, List.length_take]; omega
 ·
  show (D'.files.map Prod.snd).Nodup
  have hb := (p2.map Prod.snd).nodup_iff.2 h.bd.blk
  rw [hf, List.map_map]
  unfold List.Nodup at hb ⊢
  rw [List.pairwise_map] at hb ⊢
  refine hb.imp_of_mem fun {a b} ha hb' hne e => hne ?_
  obtain ⟨z, hz⟩ := hrf a ha
  obtain ⟨z', hz'⟩ := hrf b hb'
  have e : (φ a.2).getD 0 = (φ b.2).getD 0 := e
  rw [hz, hz'] at e
  have e : z = z' := e
  subst e
  exact inj _ _ _ hz hz'
 ·
  intro t b hb
  have h1 : t ∈ D'.files.map Prod.fst := List.mem_map.2 ⟨_, zn hb, rfl⟩
  obtain ⟨b', hb'⟩ := z1a (hkey.mem_iff.1 h1)
  exact h.al t b' hb'
 ·
  rw [<- h.cap]; show D'.cap = _; rw [eq]; rfl
 ·
  exact ⟨by rw [eq]; rfl, by rw [eq]; show (-1 : Int) < 0; decide⟩
 ·
  rw [eq]; rfl
 ·
  unfold pot
  show D'.changes + 2 * (D'.files.length : Int) <= _
  rw [hln, show D'.changes = 0 by rw [eq]; rfl]
  have := h.bd.nf
  omega
structure KA (L : Lg) (X : Ds) (rs : List (List Nat)) (du z n q K : Nat) : Prop where
 ex : ∃ g, GS sa L X g n q K 9999 /\ (X.fc g.b).lasts = z /\ g.sn = none /\ g.cl = [] /\ g.m = 1 /\ g.rs = rs /\ g.du = du
 fe : X.D.fe = 0
 st : X.D.steps = []
 la : X.D.lasting = X.D.files
 nms : ∀ t b, X.dir t = some b -> t = manf sa \/ t = sgf sa 1
 seg : L.segment = 1
 most : L.most = 99
variable {rs : List (List Nat)} {du z : Nat} {L : Lg}
theorem z8m {g : Sh} (h : g.cl = []) : g.closed = [] := by unfold Sh.closed; rw [h]; rfl
theorem ka_new (hr : openR sa 99 ⟨newD 9999, fun _ => ⟨[], 0⟩⟩ e L Y) : e = 0 /\ KA L Y [] 0 0 2 24 1 := by
 obtain ⟨h1, h2, h3, h4, h5, g, h6, h7, h8⟩ := z8w z1q z1p (zd5 9999) (zao 9999) rfl (zd4 sa 9999) (by decide) (by decide) rfl hr
 have e1 := h6.li.segs; have e2 := h6.li.size; have e3 := h6.li.recs; have e4 := h6.li.seg
 rw [h2] at e1 e2 e3 e4
 have c0 : g.cl = [] := by
  have : (1 : Nat) = g.cl.length + 1 := e1
  cases hc : g.cl with
  | nil => rfl
  | cons a l => rw [hc] at this; simp at this
 have e3 : [] = g.closed ++ g.rs := e3
 rw [z8m c0] at e3
 have r0 : g.rs = [] := e3.symm
 have sh := h6.li.shape
 have d0 := sh.lastd; have l0 := sh.lastl.2; have q0 : (0 : Nat) = g.q := e2
 rw [r0] at d0
 refine ⟨h1, ⟨⟨g, h6, by omega, h7, c0, e4.symm, r0, Nat.le_zero.1 d0⟩, h3, h4, h5, fun t b hb => ?_, by rw [h2], by rw [h2]; rfl⟩⟩
 rcases (h8 t).2 ⟨b, hb⟩ with h | h | ⟨-, b', h⟩
 ·
  exact .inl h
 ·
  exact .inr h
 ·
  exact absurd (show (none : Option Nat) = some b' from h) nofun
theorem KA.lrecs (h : KA L X rs du z n q K) : L.recs = rs := by
 obtain ⟨g, h1, -, -, h4, -, h6, -⟩ := h.ex
 rw [h1.li.recs, z8m h4, h6]; rfl
theorem KA.lsize (h : KA L X rs du z n q K) : L.size = (enc rs).length := by
 obtain ⟨g, h1, -, -, h4, -, h6, -⟩ := h.ex
 rw [h1.li.size, h1.li.full, h6]
theorem KA.lsegs (h : KA L X rs du z n q K) : L.segments = 1 := by
 obtain ⟨g, h1, -, -, h4, -, h6, -⟩ := h.ex
 rw [h1.li.segs, h4]; rfl
theorem zcx (h : KA L X rs du z n q K) (hx : Recs [x]) (h64 : n < 64) (hc : ((q + (8 + x.length) : Nat) : Int) <= 9999) (hK : K < mxn) (hsz : (enc rs).length + (8 + x.length) <= 99) (hr : appR L x X e L' Y) :
  e = 0 /\ KA L' Y (rs ++ [x]) du z (n + 1) (q + (8 + x.length)) (K + 1) := by
 have hls := h.lsize
 obtain ⟨⟨g, h1, h2, h3, h4, h5, h6, h7⟩, fe, st, la, nms, seg, most⟩ := h
 obtain ⟨hcalm, hcs⟩ := zcu z1q z1p h1 hx h64 hc hK hr
 obtain ⟨e0, fe'⟩ := hcalm fe
 subst e0
 rcases hcs with ⟨-, -, -, -, g', hg', -⟩ | ⟨h0, -⟩
 ·
  obtain ⟨rfl, sm, hli, hlast⟩ := zce h1.li hx (by rw [hls, most]; exact hsz) hr
  exact ⟨rfl, ⟨⟨_, ⟨hli, hg'.fau, hg'.fe, hg'.qt⟩, by rw [<- h2]; exact hlast, h3, h4, h5, by show g.rs ++ [x] = _; rw [h6], h7⟩, fe', by rw [sm.steps]; exact st, by rw [sm.lasting, sm.files]; exact la, fun t b hb => nms t b (by rw [<- sm.dir]; exact hb), seg, most⟩⟩
 ·
  exact absurd rfl h0
theorem ka_syn (h : KA L X rs du z n q K) (hr : synR L X e L' Y) : e = 0 /\ KA L' Y rs rs.length (enc rs).length n q K := by
 obtain ⟨⟨g, h1, h2, h3, h4, h5, h6, h7⟩, fe, st, la, nms, seg, most⟩ := h
 obtain ⟨hcalm, hcs⟩ := zcv z1q z1p h1 hr
 obtain ⟨e0, fe'⟩ := hcalm fe
 subst e0
 have sm : Sm X Y := by
  rcases hr with ⟨-, -, -, rfl⟩ | ⟨-, hr, -⟩
  ·
   exact Sm.refl _
  ·
   exact (z0a hr).1
 rcases hcs with ⟨-, rfl, hg⟩ | ⟨h0, -⟩
 ·
  have hl := hg.li.shape.lastl
  have hq : g.q = (enc g.rs).length := h1.li.full
  refine ⟨rfl, ⟨⟨_, hg, ?_, h3, h4, h5, h6, by show g.rs.length = _; rw [h6]⟩, fe', by rw [sm.steps]; exact st, by rw [sm.lasting, sm.files]; exact la, fun t b hb => nms t b (by rw [<- sm.dir]; exact hb), seg, most⟩⟩
  have l1 : (enc (g.rs.take g.rs.length)).length <= (Y.fc g.b).lasts := hl.1
  have l2 : (Y.fc g.b).lasts <= g.q := hl.2
  rw [List.take_length] at l1
  show (Y.fc g.b).lasts = _
  rw [<- h6]; omega
 ·
  exact absurd rfl h0
theorem zef {D' : Dk} {fc' : Nat -> Fl} {φ : Nat -> Option Nat} {l2 : List (ByteArray × Nat)} {bs : List Bool} (h : KA L X [[120], [121]] 1 9 n q K) (hc : CrashR [3] X.D X.fc D' fc' φ l2 bs) :
  In sa ⟨D', fc'⟩ KP /\ Qt n q (AN sa K) 9999 ⟨D', fc'⟩ /\ Fau D' /\ D'.fe = 0 /\ pot ⟨D', fc'⟩ <= 2 * (n : Int) := by
 obtain ⟨⟨g, h1, h2, h3, h4, h5, h6, h7⟩, fe, st, la, nms, seg, most⟩ := h
 obtain ⟨v, hv⟩ := zeg h1.li.inn st la h1.qt.bd.key nms h5 h6 (by rw [h1.li.full, h6]; simp [enc, zu]) h2 hc
 refine ⟨hv.mono fun f hf => ?_, zde h1.qt st la hc⟩
 subst hf
 refine ⟨h3, by rw [z5r]; exact z8m h4, h5, h7, by show g.rs.take 1 = _; rw [h6]; rfl, Nat.le_refl _⟩
theorem zg9 (hi : In sa X KP) (hF : Fau X.D) (hfe : X.D.fe = 0) (hq : Qt n q (AN sa K) 9999 X) (hr : openR sa 99 X e L Y) :
  e = 0 /\ Y.D.fe = 0 /\ L.recs = [[120]] /\ L.segment = 1 /\ L.most = 99 /\ ∃ g, GS sa L Y g n q K 9999 := by
 obtain ⟨hcalm, h, j, h1, h2, h3, h4, h5, h6, h7⟩ := zag z1q z1p hi zeh hF (by rw [hfe]; decide) hq hr
 obtain ⟨e0, fe'⟩ := hcalm hfe
 obtain ⟨g1, g2, g3⟩ := h7 e0
 obtain ⟨k1, k2⟩ := kp_one h1 h3 h4 h6
 refine ⟨e0, fe', ?_, ?_, g3, _, g1⟩
 ·
  have : L.recs = h.closed ++ h.rs.take j := g1.li.recs
  rw [this, h1.2.1, k1]; rfl
 ·
  have : L.segment = h.m := g1.li.seg
  rw [this, h1.2.2.1]
theorem zga (h : GS sa L X g n q K 9999) (hfe : X.D.fe = 0) (hx : Recs [x]) (h64 : n + 2 < 64) (hc : ((q + (8 + x.length) + 24 : Nat) : Int) <= 9999) (hK : K + 2 <= mxn) (hK2 : K + 1 < mxn) (hr : turnR L x X e L' Y) :
  e = 0 /\ Y.D.fe = 0 /\ L'.recs = [] /\ L'.size = 0 /\ L'.segments = 1 /\ ∃ g', GS sa L' Y g' (n + 3) (q + (8 + x.length) + 24) (K + 2) 9999 /\ g'.sn = some x := by
 obtain ⟨hcalm, hcs⟩ := zg4 z1q z1p h hx h64 hc hK hK2 hr
 obtain ⟨e0, fe'⟩ := hcalm hfe
 rcases hcs with ⟨-, s, n', bm, bs, b, rfl, -, hg⟩ | ⟨h0, -⟩
 ·
  exact ⟨e0, fe', rfl, rfl, rfl, _, hg, rfl⟩
 ·
  exact absurd e0 h0
theorem kb_app (h : GS sa L X g n q K 9999) (hfe : X.D.fe = 0) (hx : Recs [x]) (h64 : n < 64) (hc : ((q + (8 + x.length) : Nat) : Int) <= 9999) (hK : K < mxn) (hr : appR L x X e L' Y) :
  e = 0 /\ Y.D.fe = 0 /\ L'.recs = L.recs ++ [x] /\ ∃ g', GS sa L' Y g' (n + 1) (q + (8 + x.length)) (K + 1) 9999 /\ g'.sn = g.sn := by
 obtain ⟨hcalm, hcs⟩ := zcu z1q z1p h hx h64 hc hK hr
 obtain ⟨e0, fe'⟩ := hcalm hfe
 rcases hcs with ⟨-, -, h1, -, g', h2, h3, -⟩ | ⟨h0, -⟩
 ·
  exact ⟨e0, fe', h1, g', h2, h3⟩
 ·
  exact absurd e0 h0
theorem kb_syn (h : GS sa L X g n q K 9999) (hfe : X.D.fe = 0) (hsn : g.sn = some [115]) (hrs : L.recs = [[122]]) (hr : synR L X e L' Y) :
  e = 0 /\ In sa Y KQ /\ Fau Y.D /\ Y.D.fe = 0 /\ Qt n q (AN sa K) 9999 Y := by
 obtain ⟨hcalm, hcs⟩ := zcv z1q z1p h hr
 obtain ⟨e0, fe'⟩ := hcalm hfe
 rcases hcs with ⟨-, rfl, hg⟩ | ⟨h0, -⟩
 ·
  refine ⟨e0, hg.li.inn.mono fun f hf => ?_, hg.fau, fe', hg.qt⟩
  subst hf
  exact ⟨hsn, by have := h.li.recs; rw [hrs] at this; exact this.symm, rfl⟩
 ·
  exact absurd e0 h0
theorem zgb (hi : In sa X KQ) (hF : Fau X.D) (hfe : X.D.fe = 0) (hq : Qt n q (AN sa K) 9999 X) (hr : openR sa 99 X e L Y) :
  e = 0 /\ L.recs = [[122]] /\ L.has = true /\ L.snap = [115] := by
 obtain ⟨hcalm, h, j, h1, h2, h3, h4, h5, h6, h7⟩ := zag z1q z1p hi z8z hF (by rw [hfe]; decide) hq hr
 obtain ⟨e0, fe'⟩ := hcalm hfe
 obtain ⟨g1, g2, g3⟩ := h7 e0
 obtain ⟨k1, k2, k3⟩ := z8z h j h1 h3 h4 h6
 refine ⟨e0, ?_, ?_⟩
 ·
  have : L.recs = h.closed ++ h.rs.take j := g1.li.recs
  rw [this]; exact k2
 ·
  rcases g1.li.snap with ⟨h8, -⟩ | ⟨x, h8, h9, h10⟩
  ·
   have h8 : h.sn = none := h8
   rw [h1.1] at h8; cases h8
  ·
   have h8 : h.sn = some x := h8
   rw [h1.1] at h8
   cases h8
   exact ⟨h9, h10⟩
end Go.Log
end
section
namespace Go.Log
open Go.Vfs
variable {nm : ByteArray} {L L' : Lg} {X Y Z : Ds} {e : Int} {x : List Nat} {m j k : Nat} {s t : ByteArray}
def nz (l : List Stp) : Nat := (l.filter fun s => decide (s.act = 0)).length
structure Wt (m j : Nat) (X : Ds) : Prop where
 f : X.D.files.length <= m
 l : X.D.lasting.length + nz X.D.steps <= m
 s : X.D.steps.length <= j
theorem Wt.mono {m' j' : Nat} (h : Wt m j X) (h1 : m <= m') (h2 : j <= j') : Wt m' j' X := ⟨Nat.le_trans h.f h1, Nat.le_trans h.l h1, Nat.le_trans h.s h2⟩
theorem Wt.sm (h : Wt m j X) (hs : Sm X Y) : Wt m j Y := ⟨by rw [hs.files]; exact h.f, by rw [hs.lasting, hs.steps]; exact h.l, by rw [hs.steps]; exact h.s⟩
theorem Wt.dn {l : List (ByteArray × Nat)} {st : Stp} (h : Wt m j X) (hd : Dn X Y l st) (hl : l.length <= m + k) (h0 : st.act = 0 -> 1 <= k) : Wt (m + k) (j + 1) Y := by
 refine ⟨by rw [hd.files]; exact hl, ?_, by rw [hd.steps, List.length_append]; have := h.s; simp; omega⟩
 rw [hd.lasting, hd.steps]
 have := h.l
 unfold nz at this ⊢
 rw [List.filter_append, List.length_append]
 by_cases ha : st.act = 0
 ·
  have := h0 ha; simp [ha]; omega
 ·
  simp [ha]; omega
def Inc (o : Op) (k c : Nat) : Prop := ∀ {m j : Nat} {X : Ds} {e : Int} {Y : Ds}, Wt m j X -> o X e Y -> Wt (m + k) (j + c) Y
theorem z4r (s : ByteArray) : Inc (mkO s) 1 1 := fun h hr => by
 rcases z0c hr with ⟨-, h1, -⟩ | ⟨-, -, -, b, -, hd, -⟩
 ·
  exact (h.sm h1).mono (by omega) (by omega)
 ·
  exact h.dn hd (by have := h.f; simp; omega) (fun _ => Nat.le_refl _)
theorem z6f (s : ByteArray) (b : List Nat) : Inc (apO s b) 0 0 := fun h hr => h.sm (z0i hr).1
theorem z2z (s : ByteArray) : Inc (syO s) 0 0 := fun h hr => h.sm (z0a hr).1
theorem inc_cu (s : ByteArray) (n : Nat) : Inc (cuO s n) 0 0 := fun h hr => h.sm (z1s hr).1
theorem z6g (f : Int) : Inc (erO f) 0 0 := fun h hr => by obtain ⟨-, rfl⟩ := hr; exact h
theorem z8y (s : ByteArray) : Inc (rmO s) 0 1 := fun h hr => by
 obtain ⟨-, ⟨-, h1, -⟩ | ⟨-, b, -, hd⟩⟩ := z1e hr
 ·
  exact (h.sm h1).mono (by omega) (by omega)
 ·
  exact h.dn hd (Nat.le_trans (by unfold fdel; exact List.length_filter_le _ _) h.f) (fun e => by cases e)
theorem zg6 (s : ByteArray) : Inc (rmnO s) 0 1 := fun h hr => by obtain ⟨e1, hr, -⟩ := hr; exact z8y s h hr
theorem inc_rn (s t : ByteArray) : Inc (rnO s t) 0 1 := fun h hr => by
 obtain ⟨-, ⟨-, h1⟩ | ⟨-, b, hb, hd⟩⟩ := z1i hr
 ·
  exact (h.sm h1).mono (by omega) (by omega)
 ·
  exact h.dn hd (Nat.le_trans (z3u hb t) h.f) (fun e => by cases e)
theorem z4s : Inc sdO 0 0 := fun h hr => by
 obtain ⟨-, ⟨-, h1⟩ | ⟨-, h1, h2, h3, -⟩⟩ := z0d hr
 ·
  exact h.sm h1
 ·
  exact ⟨by rw [h1]; exact h.f, by rw [h2, h3]; exact h.f, by rw [h3]; exact Nat.zero_le _⟩
theorem z1v : ∀ {l : List (Op × Nat × Nat)}, (∀ p ∈ l, Inc p.1 p.2.1 p.2.2) -> Inc (askO (l.map (·.1))) (l.map (·.2.1)).sum (l.map (·.2.2)).sum
 | [], _ => fun h hr => by obtain ⟨-, rfl⟩ := hr; exact h
 | p :: l, hp => fun h hr => by
  simp only [List.map_cons, List.sum_cons]
  rcases zh (o := p.1) (l := l.map fun (q : Op × Nat × Nat) => q.1) hr with ⟨-, h1⟩ | ⟨Z, h1, h2⟩
  ·
   exact (hp p (by simp) h h1).mono (by omega) (by omega)
  ·
   exact (z1v (l := l) (fun q hq => hp q (by simp [hq])) (hp p (by simp) h h1) h2).mono (by omega) (by omega)
theorem z7a (s : ByteArray) (b : List Nat) : Inc (putO s b) 1 1 := z1v (l := [(mkO s, 1, 1), (apO s (recd b), 0, 0), (syO s, 0, 0)]) (by
 intro p hp
 simp only [List.mem_cons, List.not_mem_nil, or_false] at hp
 rcases hp with rfl | rfl | rfl
 ·
  exact z4r s
 ·
  exact z6f s _
 ·
  exact z2z s)
theorem z77 (nm : ByteArray) (a b : Nat) : Inc (manO nm a b) 1 3 := z1v (l := [(rmnO (newf nm), 0, 1), (putO (newf nm) (mrec a b), 1, 1), (sdO, 0, 0), (rnO (newf nm) (manf nm), 0, 1), (sdO, 0, 0)]) (by
 intro p hp
 simp only [List.mem_cons, List.not_mem_nil, or_false] at hp
 rcases hp with rfl | rfl | rfl | rfl | rfl
 ·
  exact zg6 _
 ·
  exact z7a _ _
 ·
  exact z4s
 ·
  exact inc_rn _ _
 ·
  exact z4s)
theorem z9q : ∀ {l : List ByteArray}, Inc (askO (l.map rmO)) 0 l.length
 | [] => fun h hr => by obtain ⟨-, rfl⟩ := hr; exact h
 | t :: l => fun h hr => by
  rcases zh (o := rmO t) (l := l.map rmO) hr with ⟨-, h1⟩ | ⟨Z, h1, h2⟩
  ·
   exact (z8y t h h1).mono (by omega) (by simp)
  ·
   exact (z9q (l := l) (z8y t h h1) h2).mono (by omega) (by simp; omega)
theorem wt_app (h : Wt m j X) (hr : appR L x X e L' Y) : Wt (m + 1) (j + 1) Y := by
 rcases hr with ⟨-, -, -, rfl⟩ | ⟨-, e1, Z, h1, ⟨-, -, -, rfl⟩ | ⟨-, -, -, -, rfl⟩ | ⟨-, -, hr, -⟩⟩
 ·
  exact h.mono (by omega) (by omega)
 ·
  exact (z6f _ _ h h1).mono (by omega) (by omega)
 ·
  exact (z6f _ _ h h1).mono (by omega) (by omega)
 ·
  exact z1v (l := [(syO _, 0, 0), (erO _, 0, 0), (mkO _, 1, 1), (sdO, 0, 0)]) (by
   intro p hp
   simp only [List.mem_cons, List.not_mem_nil, or_false] at hp
   rcases hp with rfl | rfl | rfl | rfl
   ·
    exact z2z _
   ·
    exact z6g _
   ·
    exact z4r _
   ·
    exact z4s) (z6f _ _ h h1) hr
theorem wt_syn (h : Wt m j X) (hr : synR L X e L' Y) : Wt m j Y := by
 rcases hr with ⟨-, -, -, rfl⟩ | ⟨-, h1, -⟩
 ·
  exact h
 ·
  exact z2z _ h h1
theorem zg7 (nm : ByteArray) (a b : Nat) (h : Wt m j X) (hr : sweepO nm a b X e Y) : Wt m (j + m) Y := by
 obtain ⟨ns, hp, hw⟩ := hr
 refine (z9q h hw).mono (by omega) ?_
 have h1 : (ns.filter (swept nm a b)).length <= ns.length := List.length_filter_le _ _
 have h2 := hp.length_eq
 rw [List.length_map] at h2
 have := h.f
 omega
theorem zhi (h : Wt m j X) (hr : turnR L x X e L' Y) : Wt (m + 3) (j + 8 + m) Y := by
 rcases hr with ⟨-, -, -, rfl⟩ | ⟨-, h1, -⟩
 ·
  exact h.mono (by omega) (by omega)
 ·
  rcases zh h1 with ⟨-, h2⟩ | ⟨Z1, h2, h1⟩
  ·
   exact (z2z _ h h2).mono (by omega) (by omega)
  have g1 := z2z _ h h2
  rcases zh h1 with ⟨-, h3⟩ | ⟨Z2, h3, h1⟩
  ·
   exact (z6g _ g1 h3).mono (by omega) (by omega)
  have g2 := z6g _ g1 h3
  rcases zh h1 with ⟨-, h4⟩ | ⟨Z3, h4, h1⟩
  ·
   exact (z7a _ _ g2 h4).mono (by omega) (by omega)
  have g3 := z7a _ _ g2 h4
  rcases zh h1 with ⟨-, h5⟩ | ⟨Z4, h5, h1⟩
  ·
   exact (z4r _ g3 h5).mono (by omega) (by omega)
  have g4 := z4r _ g3 h5
  rcases zh h1 with ⟨-, h6⟩ | ⟨Z5, h6, h1⟩
  ·
   exact (z77 _ _ _ g4 h6).mono (by omega) (by omega)
  have g5 := z77 _ _ _ g4 h6
  exact (zg7 _ _ _ g5 (z04 h1)).mono (by omega) (by omega)
theorem zbc {most : Nat} (h : Wt m j X) (hr : openR nm most X e L Y) : Wt (m + 2) (j + 4) Y := by
 rcases hr with ⟨-, hr, -⟩ | ⟨b, -, -, -, rfl⟩ | ⟨b, s, n, r, -, -, -, ⟨-, -, rfl⟩ | ⟨L1, en, -, hr, -⟩⟩
 ·
  exact z1v (l := [(erO _, 0, 0), (mkO _, 1, 1), (manO _ _ _, 1, 3)]) (by
   intro p hp
   simp only [List.mem_cons, List.not_mem_nil, or_false] at hp
   rcases hp with rfl | rfl | rfl
   ·
    exact z6g _
   ·
    exact z4r _
   ·
    exact z77 _ _ _) h hr
 ·
  exact h.mono (by omega) (by omega)
 ·
  exact h.mono (by omega) (by omega)
 ·
  refine (?_ : Wt m j Y).mono (by omega) (by omega)
  split at hr
  ·
   exact z1v (l := [(nop, 0, 0), (syO _, 0, 0), (sdO, 0, 0)]) (by
    intro p hp
    simp only [List.mem_cons, List.not_mem_nil, or_false] at hp
    rcases hp with rfl | rfl | rfl
    ·
     exact fun h hr => by obtain ⟨-, rfl⟩ := hr; exact h
    ·
     exact z2z _
    ·
     exact z4s) h hr
  ·
   exact z1v (l := [(cuO _ _, 0, 0), (syO _, 0, 0), (sdO, 0, 0)]) (by
    intro p hp
    simp only [List.mem_cons, List.not_mem_nil, or_false] at hp
    rcases hp with rfl | rfl | rfl
    ·
     exact inc_cu _ _
    ·
     exact z2z _
    ·
     exact z4s) h hr
theorem zcs (l : List (ByteArray × Nat)) (s : ByteArray) (b : Nat) : (fput l s b).length <= l.length + 1 := by
 unfold fput
 split
 ·
  rw [List.length_map]; omega
 ·
  simp
theorem zc8 (l : List (ByteArray × Nat)) (s : Stp) : (againL l s).length <= l.length + if s.act = 0 then 1 else 0 := by
 unfold againL
 split
 ·
  split
  ·
   omega
  ·
   exact zcs _ _ _
 ·
  split
  ·
   unfold ren1
   split
   ·
    exact Nat.le_refl _
   ·
    rename_i b hb; exact z3u hb _
  ·
   exact (List.filter_sublist (p := fun p => decide (p.1 ≠ s.name)) (l := l)).length_le
theorem z1o : ∀ (bs : List Bool) (ss : List Stp) (l : List (ByteArray × Nat)), (replay bs ss l).length <= l.length + nz ss
 | [], ss, l => by rw [z0j]; omega
 | _ :: _, [], l => Nat.le_add_right _ _
 | b :: bs, s :: ss, l => by
  show (replay bs ss (if b then againL l s else l)).length <= _
  have h1 := z1o bs ss (if b then againL l s else l)
  have h2 := zc8 l s
  have h3 : nz (s :: ss) = (if s.act = 0 then 1 else 0) + nz ss := by
   unfold nz
   by_cases h : s.act = 0 <;> simp [h]
   omega
  rw [h3]
  cases b
  ·
   simp only [Bool.false_eq_true, if_false] at h1 ⊢; omega
  ·
   simp only [if_true] at h1 ⊢; omega
theorem z9p {zs : List Int} {D' : Dk} {fc' : Nat -> Fl} {φ : Nat -> Option Nat} {l2 : List (ByteArray × Nat)} {bs : List Bool} (h : Wt m j X) (hc : CrashR zs X.D X.fc D' fc' φ l2 bs) : Wt m 0 ⟨D', fc'⟩ /\ pot ⟨D', fc'⟩ <= 2 * (m : Int) /\ Fau D' /\ D'.fe = 0 := by
 have h1 : D'.files.length <= m := by
  rw [hc.eq]
  show ((replay bs X.D.steps l2).map (mv φ)).length <= m
  rw [List.length_map]
  have := z1o bs X.D.steps l2
  have := hc.p2.length_eq
  have := h.l
  omega
 have h2 : D'.lasting = D'.files := by rw [hc.eq]; rfl
 have h3 : D'.steps = [] := by rw [hc.eq]; rfl
 have h4 : D'.changes = 0 := by rw [hc.eq]; rfl
 refine ⟨⟨h1, ?_, ?_⟩, ?_, ⟨by rw [hc.eq]; rfl, by rw [hc.eq]; show (-1 : Int) < 0; decide⟩, by rw [hc.eq]; rfl⟩
 ·
  show D'.lasting.length + nz D'.steps <= m
  rw [h2, h3]; exact h1
 ·
  show D'.steps.length <= 0
  rw [h3]; exact Nat.le_refl _
 ·
  unfold pot
  show D'.changes + 2 * (D'.files.length : Int) <= _
  rw [h4]; omega
theorem new_wt (c : Int) : Wt 0 0 ⟨Go.Proofs.YtpjomdmjohjheaaGreatDoor.newD c, fun _ => ⟨[], 0⟩⟩ := ⟨Nat.le_refl _, Nat.le_refl _, Nat.le_refl _⟩
end Go.Log
end
section
namespace Go.Proofs.YtpjomdmjohjheaaGreatDoor
open Go.RowKit Go.Lk Go.Vfs Go.Log
def OpE (w : World) (l d : Nat) (Fd Rd FL RL : Nat -> Prop) (L : Lg) (X : Ds) (k : Int) (o : Log.Op) (e : Ending) (w' : World) : Prop :=
 ∃ er X' L', e = .returned (.int .i64 er) /\ LNow w w' l d Fd Rd FL RL L' X' /\ o X er X' /\ (er = 0 -> L' = L) /\ (L' = L \/ L' = { L with bad := true }) /\ pot X' <= pot X + k
def OpC (l d : Nat) (L : Lg) (k : Int) (f : Fv) (o : Log.Op) (P : World -> (Nat -> Prop) -> (Nat -> Prop) -> Prop) : Prop :=
 ∀ w Fd Rd FL RL X, LgAt w l d Fd Rd FL RL L X -> Vars w -> P w Fd FL -> pot X + k <= 999999 -> Calls Tryz.prog f.g (f.bnd ++ f.caps) w (OpE w l d Fd Rd FL RL L X k o)
theorem zby {P : World -> (Nat -> Prop) -> (Nat -> Prop) -> Prop} (hS : Stable P) {w w' : World} {Fd FL Fd' FL' : Nat -> Prop} (h : P w Fd FL) (hk : Keeps (fun k => Fd k \/ FL k) w w') (h1 : ∀ k, Fd' k -> Fd k \/ w.heap.size <= k) (h2 : ∀ k, FL' k -> FL k \/ w.heap.size <= k) : P w' Fd' FL' :=
 hS w w' Fd FL Fd' FL' h hk (fun k hk hn e => (h1 k e).elim hn (fun e => by omega)) (fun k hk hn e => (h2 k e).elim hn (fun e => by omega))
def AskI (w : World) (l d : Nat) (Fd Rd FL RL : Nat -> Prop) (L : Lg) (X : Ds) (P : World -> (Nat -> Prop) -> (Nat -> Prop) -> Prop) (os : List Log.Op) (ks : List Int) (i : Nat) (w' : World) : Prop :=
 ∃ X' Fd' Rd' FL' RL', LgAt w' l d Fd' Rd' FL' RL' L X' /\ (∀ k, Fd' k -> Fd k \/ w.heap.size <= k) /\ (∀ k, Rd' k -> Rd k \/ w.heap.size <= k) /\ (∀ k, FL' k -> FL k \/ w.heap.size <= k) /\ (∀ k, RL' k -> RL k \/ w.heap.size <= k) /\ Keeps (fun k => Fd k \/ FL k) w w' /\
  Vars w' /\ P w' Fd' FL' /\ askO (os.take i) X 0 X' /\ pot X' <= pot X + (ks.take i).sum
theorem z3p : ∀ (l : List Int) (i : Nat), (∀ x ∈ l, 0 <= x) -> (l.take i).sum <= l.sum
 | [], i, _ => by simp
 | x :: l, 0, h => by
  have h1 := z3p l 0 (fun y hy => h y (by simp [hy]))
  have h2 := h x (by simp)
  simp at h1 ⊢; omega
 | x :: l, i + 1, h => by
  have h1 := z3p l i (fun y hy => h y (by simp [hy]))
  simp only [List.take_succ_cons, List.sum_cons]; omega
theorem zfq (l d : Nat) (Fd Rd FL RL : Nat -> Prop) (L : Lg) (X : Ds) (P : World -> (Nat -> Prop) -> (Nat -> Prop) -> Prop) (hS : Stable P) (a : Option Addr) (n c : Nat) (fs : List Fv) (os : List Log.Op) (ks : List Int) (w : World)
  (h : LgAt w l d Fd Rd FL RL L X) (hv : Vars w) (hP : P w Fd FL) (hn : fs.length = n) (ho : os.length = n) (hk : ks.length = n) (hk0 : ∀ x ∈ ks, 0 <= x) (hnc : n <= c) (hc : c <= 1000) (hpot : pot X + ks.sum <= 999999)
  (hrow : Has w a (fs.map Fv.v)) (hro : ∀ b off, a = some ⟨b, off, none⟩ -> ¬ Fd b /\ ¬ FL b)
  (hg : ∀ f ∈ fs, ∀ args w, (callFunc f.g args).run Tryz.prog w = .ok (.enter f.g args) w)
  (hC : ∀ (i : Nat) (f : Fv) (o : Log.Op) (k : Int), fs[i]? = some f -> os[i]? = some o -> ks[i]? = some k -> OpC l d L k f o P) :
  Calls Tryz.prog 53 #[.pointer (some ⟨l, 0, none⟩), .slice a n c] w fun e w' => ∃ er X' L', e = .returned (.int .i64 er) /\ LNow w w' l d Fd Rd FL RL L' X' /\ askO os X er X' /\ L' = (if er = 0 then L else { L with bad := true }) /\ pot X' <= pot X + ks.sum := by
 refine (ask_at l a n c fs (AskI w l d Fd Rd FL RL L X P os ks) (fun er w' => ∃ X' L', LNow w w' l d Fd Rd FL RL L' X' /\ askO os X er X' /\ L' = (if er = 0 then L else { L with bad := true }) /\ pot X' <= pot X + ks.sum) w hn hnc hc hg ?_ ?_ ?_ ?_).mono ?_
 ·
  rintro i w' hi ⟨X', Fd', Rd', FL', RL', h1, h2, h3, h4, h5, h6, -⟩
  exact hrow.keeps h6 (fun b off e _ e2 => e2.elim (hro b off e).1 (hro b off e).2)
 ·
  exact ⟨X, Fd, Rd, FL, RL, h, fun _ e => .inl e, fun _ e => .inl e, fun _ e => .inl e, fun _ e => .inl e, Keeps.refl _ _, hv, hP, ⟨rfl, rfl⟩, by simp⟩
 ·
  rintro i f w' hf ⟨X', Fd', Rd', FL', RL', h1, h2, h3, h4, h5, h6, h7, h8, h9, h10⟩
  have hi : i < n := by rw [<- hn]; exact (List.getElem?_eq_some_iff.1 hf).1
  obtain ⟨o, hoi⟩ : ∃ o, os[i]? = some o := ⟨_, List.getElem?_eq_getElem (by omega)⟩
  obtain ⟨k, hki⟩ : ∃ k, ks[i]? = some k := ⟨_, List.getElem?_eq_getElem (by omega)⟩
  have hks : (ks.take (i + 1)).sum = (ks.take i).sum + k := by
   have hlt := (List.getElem?_eq_some_iff.1 hki).1
   rw [List.take_succ_eq_append_getElem hlt, List.sum_append, (List.getElem?_eq_some_iff.1 hki).2]; simp
  have hkl := z3p ks (i + 1) hk0
  have hot : os.take (i + 1) = os.take i ++ [o] := by
   have hlt := (List.getElem?_eq_some_iff.1 hoi).1
   rw [List.take_succ_eq_append_getElem hlt, (List.getElem?_eq_some_iff.1 hoi).2]
  have hos : os = os.take i ++ o :: os.drop (i + 1) := by
   have hlt := (List.getElem?_eq_some_iff.1 hoi).1
   rw [<- (List.getElem?_eq_some_iff.1 hoi).2, <- List.drop_eq_getElem_cons hlt, List.take_append_drop]
  refine (hC i f o k hf hoi hki w' Fd' Rd' FL' RL' X' h1 h7 h8 (by omega)).mono ?_
  rintro e w2 ⟨er, X2, L2, rfl, hnow, hop, hL0, hL, hp⟩
  refine ⟨er, rfl, ?_⟩
  have hv2 := h7.now h1 hnow
  obtain ⟨Fd2, Rd2, FL2, RL2, k1, k2, k3, k4, k5, k6⟩ := hnow
  have hz := h6.size
  have q2 : ∀ k, Fd2 k -> Fd k \/ w.heap.size <= k := fun k e => (k2 k e).elim (h2 k) (fun e => .inr (by omega))
  have q3 : ∀ k, Rd2 k -> Rd k \/ w.heap.size <= k := fun k e => (k3 k e).elim (h3 k) (fun e => .inr (by omega))
  have q4 : ∀ k, FL2 k -> FL k \/ w.heap.size <= k := fun k e => (k4 k e).elim (h4 k) (fun e => .inr (by omega))
  have q5 : ∀ k, RL2 k -> RL k \/ w.heap.size <= k := fun k e => (k5 k e).elim (h5 k) (fun e => .inr (by omega))
  have q6 : Keeps (fun k => Fd k \/ FL k) w w2 := h6.trans k6 (fun j hj e => e.elim (fun e => (h2 j e).elim .inl (fun e => by omega)) (fun e => (h4 j e).elim .inr (fun e => by omega)))
  by_cases he : er = 0
  ·
   refine .inl ⟨he, ?_⟩
   rw [hL0 he] at k1
   subst he
   exact ⟨X2, Fd2, Rd2, FL2, RL2, k1, q2, q3, q4, q5, q6, hv2, zby hS h8 k6 k2 k4, by rw [hot]; exact z7n h9 hop, by omega⟩
  ·
   refine .inr ⟨he, ?_⟩
   obtain ⟨sv, lv, hc2⟩ := k1.cells
   have hb := hc2 w2 (Keeps.refl _ _)
   refine ⟨_, hb, by simp [lcs], fun w3 hs => ?_⟩
   have hset : (lcs d sv lv L2).setIfInBounds 11 (.bool true) = lcs d sv lv { L with bad := true } := by
    rcases hL with rfl | rfl <;> rfl
   have hg3 : LgAt w3 l d Fd2 Rd2 FL2 RL2 { L with bad := true } X2 := by
    refine k1.setL hb hs hset ?_ ?_ ?_
    ·
     rcases hL with rfl | rfl <;> rfl
    ·
     rcases hL with rfl | rfl <;> rfl
    ·
     exact (h.nums).setBad true
   refine ⟨X2, _, ⟨Fd2, Rd2, FL2, RL2, hg3, q2, q3, q4, q5, q6.trans hs.k (fun j hj e => by
    have : FL2 j := e ▸ k1.fl
    exact (q4 j this).elim .inr (fun e => by omega))⟩, by rw [hos]; exact z7o h9 hop he, by rw [if_neg he], by omega⟩
 ·
  rintro w' ⟨X', Fd', Rd', FL', RL', h1, h2, h3, h4, h5, h6, h7, h8, h9, h10⟩
  rw [List.take_of_length_le (by omega)] at h9 h10
  exact ⟨X', L, ⟨Fd', Rd', FL', RL', h1, h2, h3, h4, h5, h6⟩, h9, by rw [if_pos rfl], h10⟩
 ·
  rintro e w' ⟨er, rfl, X', L', h1, h2, h3, h4⟩
  exact ⟨er, X', L', rfl, h1, h2, h3, h4⟩
def OpL (l d : Nat) (L : Lg) (P : World -> (Nat -> Prop) -> (Nat -> Prop) -> Prop) : List Fv -> List Log.Op -> List Int -> Prop
 | [], [], [] => True
 | f :: fs, o :: os, k :: ks => OpC l d L k f o P /\ (∀ args w, (callFunc f.g args).run Tryz.prog w = .ok (.enter f.g args) w) /\ 0 <= k /\ OpL l d L P fs os ks
 | _, _, _ => False
theorem OpL.len {l d : Nat} {L : Lg} {P : World -> (Nat -> Prop) -> (Nat -> Prop) -> Prop} : ∀ {fs : List Fv} {os : List Log.Op} {ks : List Int}, OpL l d L P fs os ks -> os.length = fs.length /\ ks.length = fs.length
 | [], [], [], _ => ⟨rfl, rfl⟩
 | _ :: _, _ :: _, _ :: _, h => by have := OpL.len h.2.2.2; simp [this.1, this.2]
 | [], [], _ :: _, h => h.elim
 | [], _ :: _, _, h => h.elim
 | _ :: _, [], _, h => h.elim
 | _ :: _, _ :: _, [], h => h.elim
theorem OpL.nn {l d : Nat} {L : Lg} {P : World -> (Nat -> Prop) -> (Nat -> Prop) -> Prop} : ∀ {fs : List Fv} {os : List Log.Op} {ks : List Int}, OpL l d L P fs os ks -> (∀ x ∈ ks, 0 <= x) /\ ∀ f ∈ fs, ∀ args w, (callFunc f.g args).run Tryz.prog w = .ok (.enter f.g args) w
 | [], [], [], _ => ⟨by simp, by simp⟩
 | _ :: _, _ :: _, _ :: _, h => by
  have := OpL.nn h.2.2.2
  exact ⟨fun x hx => (List.mem_cons.1 hx).elim (fun e => e ▸ h.2.2.1) (this.1 x), fun f hf => (List.mem_cons.1 hf).elim (fun e => e ▸ h.2.1) (this.2 f)⟩
 | [], [], _ :: _, h => h.elim
 | [], _ :: _, _, h => h.elim
 | _ :: _, [], _, h => h.elim
 | _ :: _, _ :: _, [], h => h.elim
theorem OpL.at {l d : Nat} {L : Lg} {P : World -> (Nat -> Prop) -> (Nat -> Prop) -> Prop} : ∀ {fs : List Fv} {os : List Log.Op} {ks : List Int}, OpL l d L P fs os ks -> ∀ (i : Nat) (f : Fv) (o : Log.Op) (k : Int), fs[i]? = some f -> os[i]? = some o -> ks[i]? = some k -> OpC l d L k f o P
 | [], [], [], _, i, f, o, k, hf, _, _ => by simp at hf
 | _ :: _, _ :: _, _ :: _, h, 0, f, o, k, hf, ho, hk => by simp at hf ho hk; subst hf ho hk; exact h.1
 | _ :: _, _ :: _, _ :: _, h, i + 1, f, o, k, hf, ho, hk => OpL.at h.2.2.2 i f o k (by simpa using hf) (by simpa using ho) (by simpa using hk)
 | [], [], _ :: _, h, _, _, _, _, _, _, _ => h.elim
 | [], _ :: _, _, h, _, _, _, _, _, _, _ => h.elim
 | _ :: _, [], _, h, _, _, _, _, _, _, _ => h.elim
 | _ :: _, _ :: _, [], h, _, _, _, _, _, _, _ => h.elim
theorem OpC.mono {l d : Nat} {L : Lg} {k : Int} {f : Fv} {o : Log.Op} {P Q : World -> (Nat -> Prop) -> (Nat -> Prop) -> Prop} (h : OpC l d L k f o Q) (hPQ : ∀ w a b, P w a b -> Q w a b) : OpC l d L k f o P :=
 fun w Fd Rd FL RL X h1 h2 h3 h4 => h w Fd Rd FL RL X h1 h2 (hPQ _ _ _ h3) h4
def AskR (w : World) (l d : Nat) (Fd Rd FL RL : Nat -> Prop) (L : Lg) (X : Ds) (os : List Log.Op) (k : Int) (e : Ending) (w' : World) : Prop :=
 ∃ er X' L', e = .returned (.int .i64 er) /\ LNow w w' l d Fd Rd FL RL L' X' /\ askO os X er X' /\ L' = (if er = 0 then L else { L with bad := true }) /\ pot X' <= pot X + k
theorem z11 {l d : Nat} {Fd Rd FL RL : Nat -> Prop} {L : Lg} {X : Ds} {P : World -> (Nat -> Prop) -> (Nat -> Prop) -> Prop} (hS : Stable P) {fs : List Fv} {os : List Log.Op} {ks : List Int} {g n : Nat} {w : World} (hL : OpL l d L P fs os ks)
  (h : LgAt w l d Fd Rd FL RL L X) (hv : Vars w) (hP : P w Fd FL) (hn : fs.length = n) (hc : n <= 1000) (hpot : pot X + ks.sum <= 999999) (hrow : Has w (some ⟨g, 0, none⟩) (fs.map Fv.v)) (hro : ¬ Fd g /\ ¬ FL g) :
  Calls Tryz.prog 53 #[.pointer (some ⟨l, 0, none⟩), .slice (some ⟨g, 0, none⟩) n n] w (AskR w l d Fd Rd FL RL L X os ks.sum) := by
 have h1 := hL.len
 have h2 := hL.nn
 exact zfq l d Fd Rd FL RL L X P hS _ n n fs os ks w h hv hP hn (h1.1.trans hn) (h1.2.trans hn) h2.1 (Nat.le_refl _) hc hpot hrow (fun b off e => by cases e; exact hro) h2.2 hL.at
end Go.Proofs.YtpjomdmjohjheaaGreatDoor
end
section
namespace Go.Proofs.YtpjomdmjohjheaaGreatDoor
open Go.RowKit Go.Lk Go.Vfs Go.Log
theorem LgAt.six {w : World} {l d : Nat} {Fd Rd FL RL : Nat -> Prop} {L : Lg} {X : Ds} (h : LgAt w l d Fd Rd FL RL L X) : 6 <= w.heap.size := by
 have h1 := h.ltF l h.fl
 have h2 := h.low l (.inr h.fl)
 omega
theorem z1z {w w1 : World} {l d : Nat} {Fd Rd FL RL : Nat -> Prop} {L : Lg} {X : Ds} {k er : Int} {o : Log.Op} {D' : Dk} {fc' : Nat -> Fl} (h : LgAt w l d Fd Rd FL RL L X) (hn : Now w.drew w1 d Fd Rd D' fc') (ho : o X er ⟨D', fc'⟩) (hp : pot ⟨D', fc'⟩ <= pot X + k) :
  OpE w l d Fd Rd FL RL L X k o (.returned (.int .i64 er)) w1 := by
 have hd : LgAt w.drew l d Fd Rd FL RL L X := h.nb (Keeps.refl Nb w).drew
 obtain ⟨Fd', Rd', FL', RL', h1, h2, h3, h4, h5, h6⟩ := hd.disk_now (Y := ⟨D', fc'⟩) hn (by have := LgAt.six h; exact this)
 exact ⟨er, _, L, rfl, ⟨Fd', Rd', FL', RL', h1, h2, h3, h4, h5, ((Keeps.refl _ w).drew).trans h6 (fun _ _ e => e)⟩, ho, fun _ => rfl, .inl rfl, hp⟩
def LB (b3 l : Nat) : World -> (Nat -> Prop) -> (Nat -> Prop) -> Prop := Box b3 (.cells #[.pointer (some ⟨l, 0, none⟩)] 40 (0, 0))
def SB (b4 : Nat) (s : ByteArray) : World -> (Nat -> Prop) -> (Nat -> Prop) -> Prop := Box b4 (.cells #[.string s] 9 (0, 0))
theorem z0b {X : Ds} {k : Int} (h : pot X + k <= 999999) (hk : 0 <= k) : X.D.changes < 1000000 := by unfold pot at h; omega
theorem put1_c (l d b3 b4 : Nat) (L : Lg) (s : ByteArray) (hs : s.size <= maxLen) : OpC l d L 3 ⟨126, #[], #[.pointer (some ⟨b3, 0, none⟩), .pointer (some ⟨b4, 0, none⟩)]⟩ (mkO s) (fun w a b => LB b3 l w a b /\ SB b4 s w a b) := by
 rintro w Fd Rd FL RL X h hv ⟨⟨hb3, -, -⟩, ⟨hb4, -, -⟩⟩ hp
 obtain ⟨sv, lv, hcs⟩ := h.cells
 have c1 : w.cell? ⟨b3, 0, none⟩ = some (.pointer (some ⟨l, 0, none⟩)) := (cell_of_block hb3).trans rfl
 have c2 : w.cell? ⟨b4, 0, none⟩ = some (.string s) := (cell_of_block hb4).trans rfl
 have c3 : w.cell? ⟨l, 0, none⟩ = some (.pointer (some ⟨d, 0, none⟩)) := (cell_of_block (hcs w (Keeps.refl _ _))).trans rfl
 have H := qq h
 have MA := qq (z5d d s X.D Fd Rd X.fc w.drew (h.disk.nb ((Keeps.refl Nb w).drew)) hs (z0b hp (by omega)))
 clear h hv hb3 hb4 hcs hp
 show Calls Tryz.prog 126 #[.pointer (some ⟨b3, 0, none⟩), .pointer (some ⟨b4, 0, none⟩)] w _
 go_enter Tryz.func126, Tryz.ntmps126
 go_wp2
 go_still_tail 5, (by kernel_rfl)
 go_wp2_with fail
 refine MA.out.mono ?_
 rintro _ w1 ⟨er, D', fc', rfl, hn, hr⟩
 have ho : mkO s X er ⟨D', fc'⟩ := ⟨w.heap.size, fun b hb => H.out.disk.ltF b (H.out.disk.file b hb).2, hr⟩
 have F := qq (z1z (k := 3) H.out hn ho (z6n ho))
 clear hn hr ho MA
 go_wp2
 go_ret
 exact F.out
theorem put3_c (l d b3 b4 : Nat) (L : Lg) (s : ByteArray) (hs : s.size <= maxLen) : OpC l d L 1 ⟨130, #[], #[.pointer (some ⟨b3, 0, none⟩), .pointer (some ⟨b4, 0, none⟩)]⟩ (syO s) (fun w a b => LB b3 l w a b /\ SB b4 s w a b) := by
 rintro w Fd Rd FL RL X h hv ⟨⟨hb3, -, -⟩, ⟨hb4, -, -⟩⟩ hp
 obtain ⟨sv, lv, hcs⟩ := h.cells
 have c1 : w.cell? ⟨b3, 0, none⟩ = some (.pointer (some ⟨l, 0, none⟩)) := (cell_of_block hb3).trans rfl
 have c2 : w.cell? ⟨b4, 0, none⟩ = some (.string s) := (cell_of_block hb4).trans rfl
 have c3 : w.cell? ⟨l, 0, none⟩ = some (.pointer (some ⟨d, 0, none⟩)) := (cell_of_block (hcs w (Keeps.refl _ _))).trans rfl
 have H := qq h
 have MA := qq (z3x d s X.D Fd Rd X.fc w.drew (h.disk.nb ((Keeps.refl Nb w).drew)) hs (z0b hp (by omega)))
 clear h hv hb3 hb4 hcs hp
 show Calls Tryz.prog 130 #[.pointer (some ⟨b3, 0, none⟩), .pointer (some ⟨b4, 0, none⟩)] w _
 go_enter Tryz.func130, Tryz.ntmps130
 go_wp2
 go_still_tail 5, (by kernel_rfl)
 go_wp2_with fail
 refine MA.out.mono ?_
 rintro _ w1 ⟨er, D', fc', rfl, hn, hr⟩
 have ho : syO s X er ⟨D', fc'⟩ := hr
 have F := qq (z1z (k := 1) H.out hn ho (z4y ho))
 clear hn hr ho MA
 go_wp2
 go_ret
 exact F.out
def YB (b7 : Nat) (v : Value) (bs : List Nat) : World -> (Nat -> Prop) -> (Nat -> Prop) -> Prop := fun w a b => Box b7 (.cells #[v] 22 (0, 0)) w a b /\ BytesO v bs w a b
theorem z2g (b7 : Nat) (v : Value) (bs : List Nat) : Stable (YB b7 v bs) := (zr _ _).and (z8b _ _)
theorem zgq (l d b3 b4 b7 : Nat) (L : Lg) (s : ByteArray) (ad : Option Addr) (n c : Nat) (bs : List Nat) (hs : s.size <= maxLen) : OpC l d L 1 ⟨129, #[], #[.pointer (some ⟨b3, 0, none⟩), .pointer (some ⟨b4, 0, none⟩), .pointer (some ⟨b7, 0, none⟩)]⟩ (apO s bs) (fun w a b => (LB b3 l w a b /\ SB b4 s w a b) /\ YB b7 (.slice ad n c) bs w a b) := by
 rintro w Fd Rd FL RL X h hv ⟨⟨⟨hb3, -, -⟩, ⟨hb4, -, -⟩⟩, ⟨hb7, -, -⟩, hby⟩ hp
 obtain ⟨sv, lv, hcs⟩ := h.cells
 have c1 : w.cell? ⟨b3, 0, none⟩ = some (.pointer (some ⟨l, 0, none⟩)) := (cell_of_block hb3).trans rfl
 have c2 : w.cell? ⟨b4, 0, none⟩ = some (.string s) := (cell_of_block hb4).trans rfl
 have c3 : w.cell? ⟨l, 0, none⟩ = some (.pointer (some ⟨d, 0, none⟩)) := (cell_of_block (hcs w (Keeps.refl _ _))).trans rfl
 have c4 : w.cell? ⟨b7, 0, none⟩ = some (.slice ad n c) := (cell_of_block hb7).trans rfl
 have H := qq h
 have MA := qq (zcd d s (.slice ad n c) bs X.D Fd Rd (Out w Fd FL) X.fc w.drew (h.disk.nb ((Keeps.refl Nb w).drew)) hs (hby.keeps ((Keeps.refl Nb w).drew) (fun _ _ e => e)) (fun k hk => hk.2.1) (z0b hp (by omega)))
 clear h hv hb3 hb4 hcs hp hb7 hby
 show Calls Tryz.prog 129 #[.pointer (some ⟨b3, 0, none⟩), .pointer (some ⟨b4, 0, none⟩), .pointer (some ⟨b7, 0, none⟩)] w _
 go_enter Tryz.func129, Tryz.ntmps129
 go_wp2
 go_still_tail 6, (by kernel_rfl)
 go_wp2_with fail
 refine MA.out.mono ?_
 rintro _ w1 ⟨er, D', fc', rfl, hn, hr⟩
 have ho : apO s bs X er ⟨D', fc'⟩ := hr
 have F := qq (z1z (k := 1) H.out hn ho (zdd ho))
 clear hn hr ho MA
 go_wp2
 go_ret
 exact F.out
theorem zft (f : Fv) (w : World) (R : Ending -> World -> Prop) (hg : ∀ args w, (callFunc f.g args).run Tryz.prog w = .ok (.enter f.g args) w) (h : Calls Tryz.prog f.g (f.bnd ++ f.caps) w fun e w' => ∃ er : Int, e = .returned (.int .i64 er) /\ R e w') :
  Calls Tryz.prog 128 #[.int .i64 0, .func (.func f.g) f.bnd f.caps] w R := by
 have HC := qq h
 clear h
 go_enter Tryz.func128, Tryz.ntmps128
 go_wp2_with fail
 refine HC.out.mono ?_
 rintro _ w1 ⟨er, rfl, hr⟩
 have HR := qq hr
 clear hr HC hg
 go_wp2
 exact HR.out
theorem put2_c (l d b8 b3 b4 b7 : Nat) (L : Lg) (s : ByteArray) (ad : Option Addr) (n c : Nat) (bs : List Nat) (hs : s.size <= maxLen) : OpC l d L 1 ⟨127, #[], #[.pointer (some ⟨b8, 0, none⟩), .pointer (some ⟨b3, 0, none⟩), .pointer (some ⟨b4, 0, none⟩), .pointer (some ⟨b7, 0, none⟩)]⟩ (apO s bs)
  (fun w a b => ((LB b3 l w a b /\ SB b4 s w a b) /\ YB b7 (.slice ad n c) bs w a b) /\ Box b8 (.cells #[.int .i64 0] 24 (0, 0)) w a b) := by
 rintro w Fd Rd FL RL X h hv ⟨hP, ⟨hb8, -, -⟩⟩ hp
 have c1 : w.cell? ⟨b8, 0, none⟩ = some (.int .i64 0) := (cell_of_block hb8).trans rfl
 have CC := qq (zft ⟨129, #[], #[.pointer (some ⟨b3, 0, none⟩), .pointer (some ⟨b4, 0, none⟩), .pointer (some ⟨b7, 0, none⟩)]⟩ w (OpE w l d Fd Rd FL RL L X 1 (apO s bs)) (enters_of Tryz.func129 (by kernel_rfl) rfl)
  ((zgq l d b3 b4 b7 L s ad n c bs hs w Fd Rd FL RL X h hv hP hp).mono (fun e w' hE => by obtain ⟨er, X', L', rfl, hr⟩ := id hE; exact ⟨er, rfl, hE⟩)))
 clear h hv hP hp hb8
 show Calls Tryz.prog 127 #[.pointer (some ⟨b8, 0, none⟩), .pointer (some ⟨b3, 0, none⟩), .pointer (some ⟨b4, 0, none⟩), .pointer (some ⟨b7, 0, none⟩)] w _
 go_enter Tryz.func127, Tryz.ntmps127
 go_wp2_with fail
 refine CC.out.mono ?_
 rintro e w1 hE
 obtain ⟨er, X', L', rfl, hr⟩ := id hE
 have HR := qq hE
 clear hE hr CC
 go_wp2
 go_ret
 exact HR.out
def PutP (l : Nat) (s : ByteArray) (b3 b4 b7 b8 : Nat) (v : Value) (bs : List Nat) : World -> (Nat -> Prop) -> (Nat -> Prop) -> Prop :=
 fun w a b => ((LB b3 l w a b /\ SB b4 s w a b) /\ YB b7 v bs w a b) /\ Box b8 (.cells #[.int .i64 0] 24 (0, 0)) w a b
theorem z9z (l : Nat) (s : ByteArray) (b3 b4 b7 b8 : Nat) (v : Value) (bs : List Nat) : Stable (PutP l s b3 b4 b7 b8 v bs) := (((zr _ _).and (zr _ _)).and (z2g _ _ _)).and (zr _ _)
def putF (b3 b4 b7 b8 : Nat) : List Fv := [⟨126, #[], #[.pointer (some ⟨b3, 0, none⟩), .pointer (some ⟨b4, 0, none⟩)]⟩, ⟨127, #[], #[.pointer (some ⟨b8, 0, none⟩), .pointer (some ⟨b3, 0, none⟩), .pointer (some ⟨b4, 0, none⟩), .pointer (some ⟨b7, 0, none⟩)]⟩, ⟨130, #[], #[.pointer (some ⟨b3, 0, none⟩), .pointer (some ⟨b4, 0, none⟩)]⟩]
theorem put_l (l d b3 b4 b7 b8 : Nat) (L : Lg) (s : ByteArray) (ad : Option Addr) (n c : Nat) (bs : List Nat) (hs : s.size <= maxLen) : OpL l d L (PutP l s b3 b4 b7 b8 (.slice ad n c) bs) (putF b3 b4 b7 b8) [mkO s, apO s bs, syO s] [3, 1, 1] :=
 ⟨(put1_c l d b3 b4 L s hs).mono (fun _ _ _ h => h.1.1), enters_of Tryz.func126 (by kernel_rfl) rfl, by omega, put2_c l d b8 b3 b4 b7 L s ad n c bs hs, enters_of Tryz.func127 (by kernel_rfl) rfl, by omega, (put3_c l d b3 b4 L s hs).mono (fun _ _ _ h => h.1.1), enters_of Tryz.func130 (by kernel_rfl) rfl, by omega, trivial⟩
theorem el138 : ElemT Tryz.prog 138 47 1 8 .nilFunc := ⟨by kernel_rfl, by kernel_rfl, rfl, by decide⟩
theorem _root_.Go.Log.LNow.from {w w1 w2 : World} {l d : Nat} {Fd Rd FL RL : Nat -> Prop} {L : Lg} {X : Ds} (h : LNow w1 w2 l d Fd Rd FL RL L X) (hk : Keeps Nb w w1) : LNow w w2 l d Fd Rd FL RL L X := by
 obtain ⟨Fd', Rd', FL', RL', h1, h2, h3, h4, h5, h6⟩ := h
 have hz := hk.size
 exact ⟨Fd', Rd', FL', RL', h1, fun k e => (h2 k e).imp id (fun e => by omega), fun k e => (h3 k e).imp id (fun e => by omega), fun k e => (h4 k e).imp id (fun e => by omega), fun k e => (h5 k e).imp id (fun e => by omega), hk.of_nb.trans h6 (fun _ _ e => e)⟩
theorem zq {w : World} {l d : Nat} {Fd Rd FL RL : Nat -> Prop} {L : Lg} {X : Ds} (h : LgAt w l d Fd Rd FL RL L X) {k : Nat} (hk : w.heap.size <= k) : ¬ Fd k /\ ¬ FL k :=
 ⟨fun e => by have := h.disk.ltF k e; omega, fun e => by have := h.ltF k e; omega⟩
theorem AskR.opE {w w1 w2 : World} {l d : Nat} {Fd Rd FL RL : Nat -> Prop} {L : Lg} {X : Ds} {os : List Log.Op} {k : Int} {e : Ending} (h : AskR w1 l d Fd Rd FL RL L X os k e w2) (hk : Keeps Nb w w1) : OpE w l d Fd Rd FL RL L X k (askO os) e w2 := by
 obtain ⟨er, X', L', rfl, h1, h2, h3, h4⟩ := h
 refine ⟨er, X', L', rfl, h1.from hk, h2, fun h0 => by rw [h3, if_pos h0], ?_, h4⟩
 rw [h3]; split
 ·
  exact .inl rfl
 ·
  exact .inr rfl
theorem zfj (l d : Nat) (Fd Rd FL RL : Nat -> Prop) (L : Lg) (X : Ds) (s : ByteArray) (v : Value) (bs : List Nat) (w : World) (h : LgAt w l d Fd Rd FL RL L X) (hv : Vars w) (hs : s.size <= maxLen) (hb : BytesO v bs w Fd FL) (hl : bs.length <= mxr) (hp : pot X + 5 <= 999999) :
  Calls Tryz.prog 75 #[.pointer (some ⟨l, 0, none⟩), .string s, v] w (OpE w l d Fd Rd FL RL L X 5 (putO s bs)) := by
 obtain ⟨a, c, rfl, hq⟩ := id hb
 have H := qq h; have HV := qq hv; have HS := qq hs; have HP := qq hp
 have HB : Hid (Bytes w (Out w Fd FL) (.slice a bs.length c) bs) := qq hb
 have HL := qq hl
 obtain ⟨m, hm⟩ : ∃ m, bs.length = m := ⟨_, rfl⟩
 rw [hm] at HB ⊢
 have HM := qq hm
 clear h hv hs hb hp hq hl hm
 go_enter Tryz.func75, Tryz.ntmps75
 go_wp2_with (first | go_skip | (with_reducible refine zm (t := 40) ?_) | (with_reducible refine zm (t := 9) ?_))
 refine za (vbox1 (v := .pointer (some ⟨l, 0, none⟩)) (by rfl) rfl ?_)
 intro b3 w1 n1
 simp only [Nat.reduceAdd, qn]
 go_wp2_with (first | go_skip | (with_reducible refine zm (t := 40) ?_) | (with_reducible refine zm (t := 9) ?_))
 refine za (vbox1 (v := .string s) (by rfl) rfl ?_)
 intro b4 w2 n2
 simp only [Nat.reduceAdd, qn]
 have K2 : Hid (Keeps Nb w w2) := qq (n1.k.trans_nb n2.k)
 have B3 := qq (n2.k.nb n1.blk)
 have B4 := qq n2.blk
 have G3 : Hid (w.heap.size <= b3) := qq n1.ge
 have G4 : Hid (w.heap.size <= b4) := qq (by have := n2.ge; have := n1.k.size; omega)
 have RA := qq (z83 (.slice a m c) bs (Out w Fd FL) w2 (HB.out.keeps K2.out (fun _ _ e => e)) (fun k hk => Nat.lt_of_lt_of_le hk.1 K2.out.size) HL.out)
 clear n1 n2
 go_wp2_with fail
 refine RA.out.mono ?_
 rintro _ w3 ⟨v', rfl, hb3, k3⟩
 obtain ⟨a7, c7, rfl, -⟩ := id hb3
 have K3 := qq (K2.out.trans_nb k3)
 have HB3 := qq hb3
 have K23 := qq k3
 obtain ⟨rl, hrl⟩ : ∃ r, (recd bs).length = r := ⟨_, rfl⟩
 rw [hrl] at HB3 ⊢
 clear hb3 k3 RA
 go_wp2_with (first | go_skip | (with_reducible refine qv (by decide) ?_))
 refine za (valloc (z := .slice none 0 0) (by kernel_rfl) ?_)
 intro b7 w4 n4
 simp only [Nat.reduceAdd, qn]
 go_wp2_with (first | go_skip | (with_reducible refine qv (by decide) ?_))
 refine za (valloc (z := .int .i64 0) (by kernel_rfl) ?_)
 intro b8 w5 n5
 simp only [Nat.reduceAdd, qn]
 go_wp2_with (first | go_skip | (with_reducible refine qv (by decide) ?_))
 refine za (zc rfl (zd (v := .slice a7 rl c7) (n := 1) (by kernel_rfl) (by rfl) (by rfl) (n5.k.nb n4.blk) (by rfl) (by simp [Value.cells]) (by simp [Value.cells, Value.oneCell'])) ?_)
 intro w6 s6
 simp only [Nat.reduceAdd, qn]
 go_wp2_with (first | go_skip | (with_reducible refine qv (by decide) ?_))
 refine za (zc rfl (zd (v := .int .i64 0) (n := 1) (by kernel_rfl) (by rfl) (by rfl) (s6.k.at n5.blk (fun e => by have := n4.lt; have := n5.ge; omega)) (by rfl) (by simp [Value.cells]) (by simp [Value.cells, Value.oneCell'])) ?_)
 intro w7 s7
 simp only [Nat.reduceAdd, qn]
 have h78 : b7 < b8 := by have := n4.lt; have := n5.ge; omega
 have G7 : Hid (w3.heap.size <= b7) := qq n4.ge
 have K37 : Hid (Keeps Nb w3 w7) := qq (((n4.k.trans_nb n5.k).own (k := b7) n4.ge s6.k).own (k := b8) (by have := n4.ge; omega) s7.k)
 have B7 : Hid (w7.heap[b7]? = some (.cells #[.slice a7 rl c7] 22 (0, 0))) := qq (s7.k.at s6.blk (fun e => by omega))
 have B8 : Hid (w7.heap[b8]? = some (.cells #[.int .i64 0] 24 (0, 0))) := qq s7.blk
 clear n4 n5 s6 s7
 have B37 := qq (K37.out.nb (K23.out.nb B3.out))
 have B47 := qq (K37.out.nb (K23.out.nb B4.out))
 have K7 := qq (K3.out.trans_nb K37.out)
 have c3 : w7.cell? ⟨b3, 0, none⟩ = some (.pointer (some ⟨l, 0, none⟩)) := (cell_of_block B37.out).trans rfl
 go_wp2_with (first | go_skip | (with_reducible refine qv (by decide) ?_))
 refine za (zj rfl (zl el138 [.func (.func 126) #[] #[.pointer (some ⟨b3, 0, none⟩), .pointer (some ⟨b4, 0, none⟩)], .func (.func 127) #[] #[.pointer (some ⟨b8, 0, none⟩), .pointer (some ⟨b3, 0, none⟩), .pointer (some ⟨b4, 0, none⟩), .pointer (some ⟨b7, 0, none⟩)], .func (.func 130) #[] #[.pointer (some ⟨b3, 0, none⟩), .pointer (some ⟨b4, 0, none⟩)]] rfl (by simp [List.range'_succ]; first | done | rfl | exact ⟨rfl, rfl⟩ | exact ⟨rfl, rfl, rfl⟩ | exact ⟨rfl, rfl, rfl, rfl⟩ | exact ⟨rfl, rfl, rfl, rfl, rfl⟩ | exact ⟨rfl, rfl, rfl, rfl, rfl, rfl⟩) (by simp [Value.cells]) (by simp)) ?_)
 rintro _ w8 ⟨b9, rfl, n9⟩
 simp only [Nat.reduceAdd, qn]
 have K8 := qq (K7.out.trans_nb n9.k)
 have hn9 := n9.ge
 have H8 := H.out.nb K8.out
 have hout : ∀ {k : Nat}, w.heap.size <= k -> ¬ Fd k /\ ¬ FL k := fun hk => zq H.out hk
 have hz37 := K3.out.size
 have hP8 : PutP l s b3 b4 b7 b8 (.slice a7 rl c7) (recd bs) w8 Fd FL := by
  refine ⟨⟨⟨⟨n9.k.nb B37.out, hout G3.out⟩, ⟨n9.k.nb B47.out, hout G4.out⟩⟩, ⟨⟨n9.k.nb B7.out, hout (by have := G7.out; omega)⟩, ?_⟩⟩, ⟨n9.k.nb B8.out, hout (by have := G7.out; omega)⟩⟩
  have hb := (HB3.out.keeps (K37.out.trans_nb n9.k) (fun _ _ e => e))
  refine hb.mono (fun k hk => ?_)
  have hk2 : w.heap.size <= k := by have := hk.1; have := K2.out.size; omega
  exact ⟨by have := hk.2; have := K37.out.size; have := n9.k.size; omega, hout hk2⟩
 have hrow : Has w8 (some ⟨b9, 0, none⟩) ((putF b3 b4 b7 b8).map Fv.v) := zt n9.blk
 have AR := qq (z11 (n := 3) (z9z l s b3 b4 b7 b8 (.slice a7 rl c7) (recd bs)) (put_l l d b3 b4 b7 b8 L s a7 rl c7 (recd bs) HS.out) H8 (HV.out.nb K8.out) hP8 rfl (by omega) (by have := HP.out; simpa using this) hrow (hout (by have := K7.out.size; omega)))
 clear hP8 hrow H8 hn9 n9 c3
 go_wp2_with fail
 refine AR.out.mono ?_
 rintro e w9 hR
 obtain ⟨er, X', L', rfl, hq⟩ := id hR
 have F := qq (hR.opE K8.out)
 clear hR hq AR
 go_wp2
 go_ret
 exact F.out
end Go.Proofs.YtpjomdmjohjheaaGreatDoor
end
section
namespace Go.Lk
open Go.RowKit
end Go.Lk
namespace Go.Proofs.YtpjomdmjohjheaaGreatDoor
open Go.RowKit Go.Lk Go.Vfs Go.Log
theorem opE_disk' {w w1 : World} {l d : Nat} {Fd Rd FL RL : Nat -> Prop} {L : Lg} {X : Ds} {k er : Int} {o : Log.Op} {D' : Dk} {fc' : Nat -> Fl} (h : LgAt w l d Fd Rd FL RL L X) (hn : Now w w1 d Fd Rd D' fc') (ho : o X er ⟨D', fc'⟩) (hp : pot ⟨D', fc'⟩ <= pot X + k) :
  OpE w l d Fd Rd FL RL L X k o (.returned (.int .i64 er)) w1 := by
 obtain ⟨Fd', Rd', FL', RL', h1, h2, h3, h4, h5, h6⟩ := h.disk_now (Y := ⟨D', fc'⟩) hn (LgAt.six h)
 exact ⟨er, _, L, rfl, ⟨Fd', Rd', FL', RL', h1, h2, h3, h4, h5, h6⟩, ho, fun _ => rfl, .inl rfl, hp⟩
theorem OpE.from {w w1 w2 : World} {l d : Nat} {Fd Rd FL RL : Nat -> Prop} {L : Lg} {X : Ds} {k : Int} {o : Log.Op} {e : Ending} (h : OpE w1 l d Fd Rd FL RL L X k o e w2) (hk : Keeps Nb w w1) : OpE w l d Fd Rd FL RL L X k o e w2 := by
 obtain ⟨er, X', L', rfl, h1, h2⟩ := h
 exact ⟨er, X', L', rfl, h1.from hk, h2⟩
theorem z6v (l d : Nat) (L : Lg) (P : World -> (Nat -> Prop) -> (Nat -> Prop) -> Prop) : OpC l d L 1 ⟨64, #[.pointer (some ⟨d, 0, none⟩)], #[]⟩ sdO P := by
 intro w Fd Rd FL RL X h hv hP hp
 refine (zh5 d X.D Fd Rd X.fc w h.disk (z0b hp (by omega))).mono ?_
 rintro e w' ⟨er, D', rfl, hn, hr⟩
 exact opE_disk' h hn (o := sdO) ⟨hr, rfl⟩ (pot_sd (Y := ⟨D', X.fc⟩) ⟨hr, rfl⟩)
theorem man1_c (l d b3 b4 : Nat) (L : Lg) (s : ByteArray) (hs : s.size <= maxLen) : OpC l d L 1 ⟨114, #[], #[.pointer (some ⟨b3, 0, none⟩), .pointer (some ⟨b4, 0, none⟩)]⟩ (rmnO s) (fun w a b => LB b3 l w a b /\ SB b4 s w a b) := by
 rintro w Fd Rd FL RL X h hv ⟨⟨hb3, -, -⟩, ⟨hb4, -, -⟩⟩ hp
 obtain ⟨sv, lv, hcs⟩ := h.cells
 have c1 : w.cell? ⟨b3, 0, none⟩ = some (.pointer (some ⟨l, 0, none⟩)) := (cell_of_block hb3).trans rfl
 have c2 : w.cell? ⟨b4, 0, none⟩ = some (.string s) := (cell_of_block hb4).trans rfl
 have c3 : w.cell? ⟨l, 0, none⟩ = some (.pointer (some ⟨d, 0, none⟩)) := (cell_of_block (hcs w (Keeps.refl _ _))).trans rfl
 have H := qq h
 have MA := qq (z6t d s X.D Fd Rd X.fc w.drew (h.disk.nb ((Keeps.refl Nb w).drew)) hs (z0b hp (by omega)))
 clear h hv hb3 hb4 hcs hp
 show Calls Tryz.prog 114 #[.pointer (some ⟨b3, 0, none⟩), .pointer (some ⟨b4, 0, none⟩)] w _
 go_enter Tryz.func114, Tryz.ntmps114
 go_wp2
 go_still_tail 5, (by kernel_rfl)
 go_wp2_with fail
 refine MA.out.mono ?_
 rintro _ w1 ⟨er, D', rfl, hn, hr⟩
 have hrm : rmO s X er ⟨D', X.fc⟩ := ⟨hr, rfl⟩
 by_cases h6 : er = 6
 ·
  subst h6
  have F := qq (z1z (k := 1) (er := 0) (o := rmnO s) H.out hn ⟨6, hrm, rfl⟩ (z9b hrm).1)
  clear hn hr hrm MA
  go_wp2
  go_ret
  exact F.out
 ·
  have F := qq (z1z (k := 1) (er := er) (o := rmnO s) H.out hn ⟨er, hrm, by rw [if_neg h6]⟩ (z9b hrm).1)
  have t1 : (er != 6) = true := by simpa using h6
  clear hn hr hrm MA h6
  go_wp2
  go_ret
  exact F.out
theorem man2_c (l d b3 b4 b7 b9 : Nat) (L : Lg) (s : ByteArray) (a1 a2 : Option Addr) (n1 n2 c1 c2 : Nat) (x y : Nat) (hs : s.size <= maxLen) : OpC l d L 5 ⟨116, #[], #[.pointer (some ⟨b3, 0, none⟩), .pointer (some ⟨b4, 0, none⟩), .pointer (some ⟨b7, 0, none⟩), .pointer (some ⟨b9, 0, none⟩)]⟩ (putO s (mrec x y))
  (fun w a b => (LB b3 l w a b /\ SB b4 s w a b) /\ YB b7 (.slice a1 n1 c1) (be 8 x) w a b /\ YB b9 (.slice a2 n2 c2) (be 8 y) w a b) := by
 rintro w Fd Rd FL RL X h hv ⟨⟨⟨hb3, o3⟩, ⟨hb4, o4⟩⟩, ⟨⟨hb7, o7⟩, hy1⟩, ⟨hb9, o9⟩, hy2⟩ hp
 have OO := qq (And.intro (And.intro o3 o4) (And.intro o7 o9))
 clear o3 o4 o7 o9
 have e1 : w.cell? ⟨b3, 0, none⟩ = some (.pointer (some ⟨l, 0, none⟩)) := (cell_of_block hb3).trans rfl
 have e2 : w.cell? ⟨b4, 0, none⟩ = some (.string s) := (cell_of_block hb4).trans rfl
 have e3 : w.cell? ⟨b7, 0, none⟩ = some (.slice a1 n1 c1) := (cell_of_block hb7).trans rfl
 have e4 : w.cell? ⟨b9, 0, none⟩ = some (.slice a2 n2 c2) := (cell_of_block hb9).trans rfl
 have H := qq h; have HV := qq hv; have HP := qq hp; have HY1 := qq hy1; have HY2 := qq hy2
 clear h hv hp hb3 hb4 hb7 hb9 hy1 hy2
 show Calls Tryz.prog 116 #[.pointer (some ⟨b3, 0, none⟩), .pointer (some ⟨b4, 0, none⟩), .pointer (some ⟨b7, 0, none⟩), .pointer (some ⟨b9, 0, none⟩)] w _
 go_enter Tryz.func116, Tryz.ntmps116
 go_wp2
 refine WT.region (fun u => u.cell? ⟨b3, 0, none⟩ = some (.pointer (some ⟨l, 0, none⟩)) /\ u.cell? ⟨b4, 0, none⟩ = some (.string s) /\ u.cell? ⟨b7, 0, none⟩ = some (.slice a1 n1 c1) /\ u.cell? ⟨b9, 0, none⟩ = some (.slice a2 n2 c2)) 7 8 [0, 1, 2, 3, 4, 5, 6, 7] (by kernel_rfl) rfl ?_
 have HS : Hid ((fun u : World => u.cell? ⟨b3, 0, none⟩ = some (.pointer (some ⟨l, 0, none⟩)) /\ u.cell? ⟨b4, 0, none⟩ = some (.string s) /\ u.cell? ⟨b7, 0, none⟩ = some (.slice a1 n1 c1) /\ u.cell? ⟨b9, 0, none⟩ = some (.slice a2 n2 c2)) w.drew) := qq ⟨e1, e2, e3, e4⟩
 refine WT.t 0 (v := .pointer (some ⟨l, 0, none⟩)) (y := by rintro w ⟨C1, C2⟩; exact zb (by kernel_rfl) (by rfl) C1) (s := HS.out) (h := ?_)
 refine WT.t 1 (v := .string s) (y := by rintro w ⟨C1, C2, C3⟩; exact zb (by kernel_rfl) (by rfl) C2) (s := HS.out) (h := ?_)
 refine WT.t 2 (v := .slice a1 n1 c1) (y := by rintro w ⟨C1, C2, C3, C4⟩; exact zb (by kernel_rfl) (by rfl) C3) (s := HS.out) (h := ?_)
 refine WT.t 3 (v := .slice a2 n2 c2) (y := by rintro w ⟨C1, C2, C3, C4⟩; exact zb (by kernel_rfl) (by rfl) C4) (s := HS.out) (h := ?_)
 refine WT.o 4 (y := zl el27 [.slice a1 n1 c1, .slice a2 n2 c2] rfl (by simp [List.range'_succ]; first | done | rfl | exact ⟨rfl, rfl⟩ | exact ⟨rfl, rfl, rfl⟩ | exact ⟨rfl, rfl, rfl, rfl⟩ | exact ⟨rfl, rfl, rfl, rfl, rfl⟩ | exact ⟨rfl, rfl, rfl, rfl, rfl, rfl⟩) (by simp [Value.cells]) (by simp)) (h := ?_)
 rintro _ w2 ⟨b2, rfl, n2'⟩
 simp only [Nat.reduceAdd, qn]
 have hk2 : Keeps Nb w w2 := ((Keeps.refl Nb w).drew).trans_nb n2'.k
 have K2 := qq hk2
 have JA := qq (zaj b2 2 [.slice a1 n1 c1, .slice a2 n2 c2] [be 8 x, be 8 y] (Out w Fd FL) w2 n2'.blk (.cons (HY1.out.keeps hk2 (fun _ _ e => e)) (.cons (HY2.out.keeps hk2 (fun _ _ e => e)) (.nil _ _))) rfl (by omega) (by omega) (by simp [zx]))
 have fac : ∀ u, Keeps (fun k => Fd k \/ FL k) w u -> (fun u : World => u.cell? ⟨b3, 0, none⟩ = some (.pointer (some ⟨l, 0, none⟩)) /\ u.cell? ⟨b4, 0, none⟩ = some (.string s) /\ u.cell? ⟨b7, 0, none⟩ = some (.slice a1 n1 c1) /\ u.cell? ⟨b9, 0, none⟩ = some (.slice a2 n2 c2)) u := fun u hu =>
  ⟨(hu.cell (lt_of_cell e1) (fun e => e.elim OO.out.1.1.1 OO.out.1.1.2)).trans e1, (hu.cell (lt_of_cell e2) (fun e => e.elim OO.out.1.2.1 OO.out.1.2.2)).trans e2, (hu.cell (lt_of_cell e3) (fun e => e.elim OO.out.2.1.1 OO.out.2.1.2)).trans e3, (hu.cell (lt_of_cell e4) (fun e => e.elim OO.out.2.2.1 OO.out.2.2.2)).trans e4⟩
 have FAC := qq fac
 clear n2' hk2 fac
 refine ⟨FAC.out w2 K2.out.of_nb, ?_⟩
 refine WT.call 5 (by simp only [qi]; rfl) (by kernel_rfl) (by rfl) (by go_simp; first | done | rfl | exact ⟨⟨rfl, rfl⟩, rfl⟩ | exact ⟨⟨rfl, rfl, rfl⟩, rfl⟩) JA.out ?_
 rintro _ w3 ⟨v, rfl, hb, k3⟩
 have hfl : [be 8 x, be 8 y].flatten = mrec x y := by simp [mrec]
 rw [hfl] at hb
 have K3 := qq (K2.out.trans_nb k3)
 have hbo : BytesO v (mrec x y) w3 Fd FL := hb.mono (fun k hk => ⟨hk.2, zq H.out (by have := hk.1; have := K2.out.size; omega)⟩)
 have PW := qq (zfj l d Fd Rd FL RL L X s v (mrec x y) w3 (H.out.nb K3.out) (HV.out.nb K3.out) hs hbo (by simp [mrec, zx, mxr]) HP.out)
 clear hb hbo k3 hfl JA
 refine ⟨_, rfl, FAC.out w3 K3.out.of_nb, ?_⟩
 simp only [Nat.reduceAdd, qn]
 refine WT.call 6 (by simp only [qi]; rfl) (by kernel_rfl) (by rfl) (by go_simp; first | done | rfl | exact ⟨⟨rfl, rfl⟩, rfl⟩ | exact ⟨⟨rfl, rfl, rfl⟩, rfl⟩ | exact ⟨⟨rfl, rfl, rfl, rfl⟩, rfl⟩) PW.out ?_
 rintro e w4 hE
 obtain ⟨er, X', L', rfl, hq⟩ := id hE
 have hF := OpE.from hE K3.out
 have hS4 := FAC.out w4 (by obtain ⟨er2, X2, L2, -, hnow, -⟩ := hF; obtain ⟨_, _, _, _, _, _, _, _, _, hk⟩ := hnow; exact hk)
 have F := qq hF
 clear hE hq PW hF
 refine ⟨_, rfl, hS4, ?_⟩
 simp only [Nat.reduceAdd, qn]
 refine WT.stop (by kernel_rfl) ?_
 refine WP.o 7 (v := _) (y := by go_simp; first | with_reducible rfl | exact ⟨rfl, rfl⟩) (h := ?_)
 refine WP.done (by kernel_rfl) ?_
 go_wp2
 go_ret
 exact F.out
theorem man3_c (l d b3 b4 : Nat) (L : Lg) (s : ByteArray) (hs : s.size <= maxLen) : OpC l d L 1 ⟨117, #[], #[.pointer (some ⟨b3, 0, none⟩), .pointer (some ⟨b4, 0, none⟩)]⟩ (rnO s (manf L.name)) (fun w a b => LB b3 l w a b /\ SB b4 s w a b) := by
 rintro w Fd Rd FL RL X h hv ⟨⟨hb3, o3, -⟩, ⟨hb4, o4, -⟩⟩ hp
 have OO := qq (And.intro o3 o4)
 clear o3 o4
 obtain ⟨sv, lv, hcs⟩ := h.cells
 have c1 : w.cell? ⟨b3, 0, none⟩ = some (.pointer (some ⟨l, 0, none⟩)) := (cell_of_block hb3).trans rfl
 have c2 : w.cell? ⟨b4, 0, none⟩ = some (.string s) := (cell_of_block hb4).trans rfl
 have c3 : w.cell? ⟨l, 0, none⟩ = some (.pointer (some ⟨d, 0, none⟩)) := (cell_of_block (hcs w (Keeps.refl _ _))).trans rfl
 have c4 : w.drew.cell? ⟨l, 1, none⟩ = some (.string L.name) := (cell_of_block (hcs w (Keeps.refl _ _))).trans rfl
 have H := qq h
 have h16 := h.nums.n16
 have FA := qq (z13 l L.name sMan w.drew c4 (by omega) (by decide))
 have MA := qq (ren_at d s (manf L.name) X.D Fd Rd X.fc w.drew (h.disk.nb ((Keeps.refl Nb w).drew)) hs (by rw [show (manf L.name).size = L.name.size + 4 by unfold manf fl; rw [ByteArray.size_append, ByteArray.size_append]; rfl]; unfold maxLen; omega) (z0b hp (by omega)))
 clear h hv hb3 hb4 hcs hp c4
 show Calls Tryz.prog 117 #[.pointer (some ⟨b3, 0, none⟩), .pointer (some ⟨b4, 0, none⟩)] w _
 go_enter Tryz.func117, Tryz.ntmps117
 go_wp2
 refine WT.region (fun u => u.cell? ⟨b3, 0, none⟩ = some (.pointer (some ⟨l, 0, none⟩)) /\ u.cell? ⟨b4, 0, none⟩ = some (.string s) /\ u.cell? ⟨l, 0, none⟩ = some (.pointer (some ⟨d, 0, none⟩))) 8 9 [0, 1, 2, 3, 4, 5, 6, 7, 8] (by kernel_rfl) rfl ?_
 have HS : Hid ((fun u : World => u.cell? ⟨b3, 0, none⟩ = some (.pointer (some ⟨l, 0, none⟩)) /\ u.cell? ⟨b4, 0, none⟩ = some (.string s) /\ u.cell? ⟨l, 0, none⟩ = some (.pointer (some ⟨d, 0, none⟩))) w.drew) := qq ⟨c1, c2, c3⟩
 refine WT.t 0 (v := .pointer (some ⟨l, 0, none⟩)) (y := by rintro w ⟨C1, C2⟩; exact zb (by kernel_rfl) (by rfl) C1) (s := HS.out) (h := ?_)
 refine WT.t 1 (v := _) (y := by rintro w ⟨C1, C2⟩; go_simp; with_reducible rfl) (s := HS.out) (h := ?_)
 refine WT.t 2 (v := _) (y := by rintro w ⟨C1, C2⟩; go_simp; with_reducible rfl) (s := HS.out) (h := ?_)
 refine WT.t 3 (v := .pointer (some ⟨d, 0, none⟩)) (y := by rintro w ⟨C1, C2, C3⟩; exact zb (by kernel_rfl) (by rfl) C3) (s := HS.out) (h := ?_)
 refine WT.t 4 (v := .string s) (y := by rintro w ⟨C1, C2, C3⟩; exact zb (by kernel_rfl) (by rfl) C2) (s := HS.out) (h := ?_)
 refine WT.t 5 (v := .pointer (some ⟨l, 0, none⟩)) (y := by rintro w ⟨C1, C2⟩; exact zb (by kernel_rfl) (by rfl) C1) (s := HS.out) (h := ?_)
 refine WT.call 6 (by simp only [qi]; rfl) (by kernel_rfl) (by rfl) (by go_simp; first | done | rfl | exact ⟨⟨rfl, rfl⟩, rfl⟩ | exact ⟨⟨rfl, rfl, rfl⟩, rfl⟩) FA.out ?_
 rintro _ _ ⟨rfl, rfl⟩
 refine ⟨_, rfl, HS.out, ?_⟩
 simp only [Nat.reduceAdd, qn]
 refine WT.call 7 (by simp only [qi]; rfl) (by kernel_rfl) (by rfl) (by go_simp; first | done | rfl | exact ⟨⟨rfl, rfl⟩, rfl⟩ | exact ⟨⟨rfl, rfl, rfl⟩, rfl⟩ | exact ⟨⟨rfl, rfl, rfl, rfl⟩, rfl⟩) MA.out ?_
 rintro _ w1 ⟨er, D', rfl, hn, hr⟩
 have ho : rnO s (manf L.name) X er ⟨D', X.fc⟩ := ⟨hr, rfl⟩
 have F := qq (z1z (k := 1) H.out hn ho (pot_rn ho))
 have hk : Keeps Fd w.drew w1 := by obtain ⟨_, _, _, _, _, hk⟩ := hn; exact hk
 have hS1 := And.intro ((hk.cell (lt_of_cell (w := w.drew) c1) OO.out.1).trans c1) (And.intro ((hk.cell (lt_of_cell (w := w.drew) c2) OO.out.2).trans c2) ((hk.cell (lt_of_cell (w := w.drew) c3) (H.out.apF l H.out.fl).1).trans c3))
 clear hn hr ho MA FA hk
 refine ⟨_, rfl, hS1, ?_⟩
 simp only [Nat.reduceAdd, qn]
 refine WT.stop (by kernel_rfl) ?_
 refine WP.o 8 (v := _) (y := by go_simp; first | with_reducible rfl | exact ⟨rfl, rfl⟩) (h := ?_)
 refine WP.done (by kernel_rfl) ?_
 go_wp2
 go_ret
 exact F.out
end Go.Proofs.YtpjomdmjohjheaaGreatDoor
end
section
namespace Go.Proofs.YtpjomdmjohjheaaGreatDoor
open Go.RowKit Go.Lk Go.Vfs Go.Log
theorem z5m {nm s : ByteArray} (h : nm.size <= 16) (hs : s.size <= 1000) : (fl nm s).size <= maxLen := by
 unfold fl; rw [ByteArray.size_append, ByteArray.size_append]
 have : sDot.size = 1 := rfl
 unfold maxLen; omega
def ManP (l : Nat) (s : ByteArray) (b3 b4 b7 b9 : Nat) (v1 v2 : Value) (x y : Nat) : World -> (Nat -> Prop) -> (Nat -> Prop) -> Prop :=
 fun w a b => (LB b3 l w a b /\ SB b4 s w a b) /\ YB b7 v1 (be 8 x) w a b /\ YB b9 v2 (be 8 y) w a b
theorem z9v (l : Nat) (s : ByteArray) (b3 b4 b7 b9 : Nat) (v1 v2 : Value) (x y : Nat) : Stable (ManP l s b3 b4 b7 b9 v1 v2 x y) := ((zr _ _).and (zr _ _)).and ((z2g _ _ _).and (z2g _ _ _))
def manF (d b3 b4 b7 b9 : Nat) : List Fv := [⟨114, #[], #[.pointer (some ⟨b3, 0, none⟩), .pointer (some ⟨b4, 0, none⟩)]⟩, ⟨116, #[], #[.pointer (some ⟨b3, 0, none⟩), .pointer (some ⟨b4, 0, none⟩), .pointer (some ⟨b7, 0, none⟩), .pointer (some ⟨b9, 0, none⟩)]⟩,
 ⟨64, #[.pointer (some ⟨d, 0, none⟩)], #[]⟩, ⟨117, #[], #[.pointer (some ⟨b3, 0, none⟩), .pointer (some ⟨b4, 0, none⟩)]⟩, ⟨64, #[.pointer (some ⟨d, 0, none⟩)], #[]⟩]
theorem man_l (l d b3 b4 b7 b9 : Nat) (L : Lg) (a1 a2 : Option Addr) (n1 n2 c1 c2 : Nat) (x y : Nat) (h16 : L.name.size <= 16) : OpL l d L (ManP l (newf L.name) b3 b4 b7 b9 (.slice a1 n1 c1) (.slice a2 n2 c2) x y) (manF d b3 b4 b7 b9)
  [rmnO (newf L.name), putO (newf L.name) (mrec x y), sdO, rnO (newf L.name) (manf L.name), sdO] [1, 5, 1, 1, 1] :=
 have hs : (newf L.name).size <= maxLen := z5m h16 (by decide)
 ⟨(man1_c l d b3 b4 L _ hs).mono (fun _ _ _ h => h.1), enters_of Tryz.func114 (by kernel_rfl) rfl, by omega, man2_c l d b3 b4 b7 b9 L _ a1 a2 n1 n2 c1 c2 x y hs, enters_of Tryz.func116 (by kernel_rfl) rfl, by omega,
  z6v l d L _, enters_of Tryz.func64 (by kernel_rfl) rfl, by omega, (man3_c l d b3 b4 L _ hs).mono (fun _ _ _ h => h.1), enters_of Tryz.func117 (by kernel_rfl) rfl, by omega, z6v l d L _, enters_of Tryz.func64 (by kernel_rfl) rfl, by omega, trivial⟩
theorem zfi (l d : Nat) (Fd Rd FL RL : Nat -> Prop) (L : Lg) (X : Ds) (x y : Nat) (w : World) (h : LgAt w l d Fd Rd FL RL L X) (hv : Vars w) (hx : x <= 4294967296) (hy : y <= 4294967296) (hp : pot X + 9 <= 999999) :
  Calls Tryz.prog 58 #[.pointer (some ⟨l, 0, none⟩), .int .i64 x, .int .i64 y] w (OpE w l d Fd Rd FL RL L X 9 (manO L.name x y)) := by
 obtain ⟨sv, lv, hcs⟩ := h.cells
 have h16 := h.nums.n16
 have H := qq h; have HV := qq hv; have HP := qq hp; have HC := qq hcs
 have P1 := qq (z6o x 8 (.inr rfl) (by omega))
 have P2 := qq (z6o y 8 (.inr rfl) (by omega))
 clear h hv hp hcs
 go_enter Tryz.func58, Tryz.ntmps58
 go_wp2_with (first | go_skip | (with_reducible refine zm (t := 40) ?_))
 refine za (vbox1 (v := .pointer (some ⟨l, 0, none⟩)) (by rfl) rfl ?_)
 intro b3 w1 n1
 simp only [Nat.reduceAdd, qn]
 have B3 := qq n1.blk
 have G3 : Hid (w.heap.size <= b3) := qq n1.ge
 have K1 := qq n1.k
 clear n1
 go_wp2_with fail
 refine (P1.out w1).mono ?_
 rintro _ w2 ⟨v1, rfl, hb1, k2⟩
 obtain ⟨a1, c1, rfl, -⟩ := id hb1
 have HB1 := qq hb1
 have K2 := qq k2
 rw [zx] at *
 clear hb1 k2
 go_wp2_with (first | go_skip | (with_reducible refine qv (by decide) ?_))
 refine za (valloc (z := .slice none 0 0) (by kernel_rfl) ?_)
 intro b7 w3 n3
 simp only [Nat.reduceAdd, qn]
 go_wp2_with (first | go_skip | (with_reducible refine qv (by decide) ?_))
 refine za (zc rfl (zd (v := .slice a1 8 c1) (n := 1) (by kernel_rfl) (by rfl) (by rfl) n3.blk (by rfl) (by simp [Value.cells]) (by simp [Value.cells, Value.oneCell'])) ?_)
 intro w4 s4
 simp only [Nat.reduceAdd, qn]
 have B7 := qq s4.blk
 have K14 : Hid (Keeps Nb w1 w4) := qq (K2.out.trans_nb (n3.k.own (k := b7) n3.ge s4.k))
 have K24 : Hid (Keeps Nb w2 w4) := qq (n3.k.own (k := b7) n3.ge s4.k)
 have G7 : Hid (w.heap.size <= b7) := qq (by have := n3.ge; have := K2.out.size; have := K1.out.size; omega)
 clear n3 s4
 go_wp2_with fail
 refine (P2.out w4).mono ?_
 rintro _ w5 ⟨v2, rfl, hb2, k5⟩
 obtain ⟨a2, c2, rfl, -⟩ := id hb2
 have HB2 := qq hb2
 have K5 := qq k5
 rw [zx] at *
 clear hb2 k5
 go_wp2_with (first | go_skip | (with_reducible refine qv (by decide) ?_))
 refine za (valloc (z := .slice none 0 0) (by kernel_rfl) ?_)
 intro b9 w6 n6
 simp only [Nat.reduceAdd, qn]
 go_wp2_with (first | go_skip | (with_reducible refine qv (by decide) ?_))
 refine za (zc rfl (zd (v := .slice a2 8 c2) (n := 1) (by kernel_rfl) (by rfl) (by rfl) n6.blk (by rfl) (by simp [Value.cells]) (by simp [Value.cells, Value.oneCell'])) ?_)
 intro w7 s7
 simp only [Nat.reduceAdd, qn]
 have B9 := qq s7.blk
 have K57 : Hid (Keeps Nb w5 w7) := qq (n6.k.own (k := b9) n6.ge s7.k)
 have G9 : Hid (w.heap.size <= b9) := qq (by have := n6.ge; have := K5.out.size; have := K14.out.size; have := K1.out.size; omega)
 clear n6 s7
 have K17 : Hid (Keeps Nb w1 w7) := qq ((K14.out.trans_nb K5.out).trans_nb K57.out)
 have K7 : Hid (Keeps Nb w w7) := qq (K1.out.trans_nb K17.out)
 have e3 : w7.cell? ⟨b3, 0, none⟩ = some (.pointer (some ⟨l, 0, none⟩)) := (cell_of_block (K17.out.nb B3.out)).trans rfl
 have FA := qq (z13 l L.name sNew w7 ((cell_of_block (HC.out w7 K7.out)).trans rfl) (by omega) (by decide))
 go_wp2_with fail
 refine FA.out.mono ?_
 rintro _ _ ⟨rfl, rfl⟩
 go_wp2_with (first | go_skip | (with_reducible refine qv (by decide) ?_))
 refine za (valloc (z := .string ByteArray.empty) (by kernel_rfl) ?_)
 intro b4 w8 n8
 simp only [Nat.reduceAdd, qn]
 go_wp2_with (first | go_skip | (with_reducible refine qv (by decide) ?_))
 refine za (zc rfl (zd (v := .string (newf L.name)) (n := 1) (by kernel_rfl) (by rfl) (by rfl) n8.blk (by rfl) (by simp [Value.cells]) (by simp [Value.cells, Value.oneCell'])) ?_)
 intro w9 s9
 simp only [Nat.reduceAdd, qn]
 have B4 := qq s9.blk
 have K79 : Hid (Keeps Nb w7 w9) := qq (n8.k.own (k := b4) n8.ge s9.k)
 have G4 : Hid (w.heap.size <= b4) := qq (by have := n8.ge; have := K7.out.size; omega)
 clear n8 s9 e3 FA
 have K9 := qq (K7.out.trans_nb K79.out)
 go_wp2
 have e3 : w9.cell? ⟨b3, 0, none⟩ = some (.pointer (some ⟨l, 0, none⟩)) := (cell_of_block ((K17.out.trans_nb K79.out).nb B3.out)).trans rfl
 have el : w9.cell? ⟨l, 0, none⟩ = some (.pointer (some ⟨d, 0, none⟩)) := (cell_of_block (HC.out w9 K9.out)).trans rfl
 refine WT.region (fun u => u.cell? ⟨b3, 0, none⟩ = some (.pointer (some ⟨l, 0, none⟩)) /\ u.cell? ⟨l, 0, none⟩ = some (.pointer (some ⟨d, 0, none⟩))) 16 17 [0, 1, 2, 3, 4, 5, 6, 7, 8, 9, 10, 11, 12, 13, 14, 15, 16] (by kernel_rfl) rfl ?_
 have HS : Hid ((fun u : World => u.cell? ⟨b3, 0, none⟩ = some (.pointer (some ⟨l, 0, none⟩)) /\ u.cell? ⟨l, 0, none⟩ = some (.pointer (some ⟨d, 0, none⟩))) w9) := qq ⟨e3, el⟩
 refine WT.t 0 (v := .pointer (some ⟨l, 0, none⟩)) (y := by rintro w ⟨C1, C2⟩; exact zb (by kernel_rfl) (by rfl) C1) (s := HS.out) (h := ?_)
 refine WT.t 1 (v := _) (y := by rintro w ⟨C1, C2⟩; go_simp; with_reducible rfl) (s := HS.out) (h := ?_)
 refine WT.t 2 (v := _) (y := by rintro w ⟨C1, C2⟩; go_simp; with_reducible rfl) (s := HS.out) (h := ?_)
 refine WT.t 3 (v := .pointer (some ⟨l, 0, none⟩)) (y := by rintro w ⟨C1, C2⟩; exact zb (by kernel_rfl) (by rfl) C1) (s := HS.out) (h := ?_)
 refine WT.t 4 (v := _) (y := by rintro w ⟨C1, C2⟩; go_simp; with_reducible rfl) (s := HS.out) (h := ?_)
 refine WT.t 5 (v := _) (y := by rintro w ⟨C1, C2⟩; go_simp; with_reducible rfl) (s := HS.out) (h := ?_)
 refine WT.t 6 (v := .pointer (some ⟨d, 0, none⟩)) (y := by rintro w ⟨C1, C2⟩; exact zb (by kernel_rfl) (by rfl) C2) (s := HS.out) (h := ?_)
 refine WT.t 7 (v := _) (y := by rintro w ⟨C1, C2⟩; go_simp; with_reducible rfl) (s := HS.out) (h := ?_)
 refine WT.t 8 (v := _) (y := by rintro w ⟨C1, C2⟩; go_simp; with_reducible rfl) (s := HS.out) (h := ?_)
 refine WT.t 9 (v := .pointer (some ⟨l, 0, none⟩)) (y := by rintro w ⟨C1, C2⟩; exact zb (by kernel_rfl) (by rfl) C1) (s := HS.out) (h := ?_)
 refine WT.t 10 (v := _) (y := by rintro w ⟨C1, C2⟩; go_simp; with_reducible rfl) (s := HS.out) (h := ?_)
 refine WT.t 11 (v := _) (y := by rintro w ⟨C1, C2⟩; go_simp; with_reducible rfl) (s := HS.out) (h := ?_)
 refine WT.t 12 (v := .pointer (some ⟨d, 0, none⟩)) (y := by rintro w ⟨C1, C2⟩; exact zb (by kernel_rfl) (by rfl) C2) (s := HS.out) (h := ?_)
 refine WT.t 13 (v := _) (y := by rintro w ⟨C1, C2⟩; go_simp; with_reducible rfl) (s := HS.out) (h := ?_)
 refine WT.o 14 (y := zl el138 ((manF d b3 b4 b7 b9).map Fv.v) rfl (by simp [List.range'_succ]; first | done | rfl | exact ⟨rfl, rfl⟩ | exact ⟨rfl, rfl, rfl⟩ | exact ⟨rfl, rfl, rfl, rfl⟩ | exact ⟨rfl, rfl, rfl, rfl, rfl⟩ | exact ⟨rfl, rfl, rfl, rfl, rfl, rfl⟩) (by simp [Value.cells, manF, Fv.v]) (by simp [manF])) (h := ?_)
 rintro _ w10 ⟨b10, rfl, n10⟩
 simp only [Nat.reduceAdd, qn]
 have N10 : Hid (Keeps Nb w9 w10) := qq (((Keeps.refl Nb w9).drew).trans_nb n10.k)
 have K10 := qq (K9.out.trans_nb N10.out)
 have H10 := H.out.nb K10.out
 have hout : ∀ {k : Nat}, w.heap.size <= k -> ¬ Fd k /\ ¬ FL k := fun hk => zq H.out hk
 have KB : Hid (Keeps Nb w1 w10) := qq ((K17.out.trans_nb K79.out).trans_nb N10.out)
 have KX : Hid (Keeps Nb w5 w10) := qq ((K57.out.trans_nb K79.out).trans_nb N10.out)
 have KY : Hid (Keeps Nb w4 w10) := qq (K5.out.trans_nb KX.out)
 have hP : ManP l (newf L.name) b3 b4 b7 b9 (.slice a1 8 c1) (.slice a2 8 c2) x y w10 Fd FL := by
  refine ⟨⟨⟨KB.out.nb B3.out, hout G3.out⟩, ⟨N10.out.nb B4.out, hout G4.out⟩⟩, ⟨⟨KY.out.nb B7.out, hout G7.out⟩, ?_⟩, ⟨⟨(K79.out.trans_nb N10.out).nb B9.out, hout G9.out⟩, ?_⟩⟩
  ·
   refine (HB1.out.keeps (K24.out.trans_nb KY.out) (fun _ _ e => e)).mono (fun k hk => ?_)
   have := hk.1; have := hk.2; have := K1.out.size; have := K24.out.size; have := KY.out.size
   exact ⟨by omega, hout (by omega)⟩
  ·
   refine (HB2.out.keeps KX.out (fun _ _ e => e)).mono (fun k hk => ?_)
   have := hk.1; have := hk.2; have := K1.out.size; have := K14.out.size; have := KX.out.size
   exact ⟨by omega, hout (by omega)⟩
 have hrow : Has w10 (some ⟨b10, 0, none⟩) ((manF d b3 b4 b7 b9).map Fv.v) := zt n10.blk
 have AR := qq (z11 (n := 5) (z9v l (newf L.name) b3 b4 b7 b9 (.slice a1 8 c1) (.slice a2 8 c2) x y) (man_l l d b3 b4 b7 b9 L a1 a2 8 8 c1 c2 x y h16) H10 (HV.out.nb K10.out) hP rfl (by omega) (by have := HP.out; simpa using this) hrow (hout (by have := n10.ge; have := N10.out.size; have := K9.out.size; have : w9.drew.heap.size = w9.heap.size := rfl; omega)))
 have G3o := hout G3.out
 clear hP hrow H10 n10
 refine ⟨⟨(cell_of_block (KB.out.nb B3.out)).trans rfl, (cell_of_block (HC.out w10 K10.out)).trans rfl⟩, ?_⟩
 refine WT.call 15 (by simp only [qi]; rfl) (by kernel_rfl) (by rfl) (by go_simp; first | done | rfl | exact ⟨⟨rfl, rfl⟩, rfl⟩ | exact ⟨⟨rfl, rfl, rfl⟩, rfl⟩ | exact ⟨⟨rfl, rfl, rfl, rfl⟩, rfl⟩) AR.out ?_
 rintro e w11 hR
 obtain ⟨er, X', L', rfl, hq⟩ := id hR
 have F := qq (hR.opE K10.out)
 have hS : w11.cell? ⟨b3, 0, none⟩ = some (.pointer (some ⟨l, 0, none⟩)) /\ w11.cell? ⟨l, 0, none⟩ = some (.pointer (some ⟨d, 0, none⟩)) := by
  obtain ⟨⟨Fd', Rd', FL', RL', k1, -, -, -, -, k6⟩, -⟩ := id hq
  obtain ⟨sv', lv', hc'⟩ := k1.cells
  refine ⟨(cell_of_block (k6.at (KB.out.nb B3.out) (fun e => e.elim G3o.1 G3o.2))).trans rfl, (cell_of_block (hc' w11 (Keeps.refl _ _))).trans rfl⟩
 clear hR hq AR
 refine ⟨_, rfl, hS, ?_⟩
 simp only [Nat.reduceAdd, qn]
 refine WT.stop (by kernel_rfl) ?_
 refine WP.o 16 (v := _) (y := by go_simp; first | with_reducible rfl | exact ⟨rfl, rfl⟩) (h := ?_)
 refine WP.done (by kernel_rfl) ?_
 go_wp2
 go_ret
 exact F.out
end Go.Proofs.YtpjomdmjohjheaaGreatDoor
end
section
namespace Go.Proofs.YtpjomdmjohjheaaGreatDoor
open Go.RowKit Go.Lk Go.Vfs Go.Log
theorem z15 {d : Nat} {D : Dk} {F R : Nat -> Prop} {fc : Nat -> Fl} {w : World} (h : DiskAt w d F R D fc) (s : ByteArray) : (readOf D fc s).1.length <= 16777216 /\ ∀ z ∈ (readOf D fc s).1, z < 256 := by
 rcases z03 D s with ⟨q1, q2⟩ | ⟨q1, q2, q3⟩ | ⟨b, q1, q2, q3⟩
 ·
  unfold readOf; rw [q2]; simp
 ·
  unfold readOf; rw [q3]; simp
 ·
  unfold readOf; rw [q3]
  obtain ⟨⟨v, z1, ⟨a, c, -, -, -, -, z5, -⟩, z3, z4⟩, -⟩ := h.file b (z1d q2)
  exact ⟨z4, z5⟩
def OneD (o : Option (List Nat)) (w : World) (e : Ending) (w' : World) : Prop :=
 (match o with | none => e = .returned (.tuple #[.slice none 0 0, .bool false]) | some b => ∃ v, e = .returned (.tuple #[v, .bool true]) /\ Bytes w' (SinceB w w') v b) /\ Keeps Nb w w'
theorem zda (l d : Nat) (s : ByteArray) (X : Ds) (F R : Nat -> Prop) (w : World) (h : DiskAt w d F R X.D X.fc) (hc : w.cell? ⟨l, 0, none⟩ = some (.pointer (some ⟨d, 0, none⟩))) (hs : s.size <= maxLen) :
  Calls Tryz.prog 110 #[.pointer (some ⟨l, 0, none⟩), .string s] w (OneD (oneR X s) w) := by
 obtain ⟨hl, hby⟩ := z15 h s
 have RA := qq (z5l d s X.D F R X.fc w h hs)
 have ho : oneR X s = if (readOf X.D X.fc s).2 = 0 /\ (whole (readOf X.D X.fc s).1).2.2 = true /\ (whole (readOf X.D X.fc s).1).1.length = 1 /\ (whole (readOf X.D X.fc s).1).2.1 = (readOf X.D X.fc s).1.length
  then (whole (readOf X.D X.fc s).1).1.head? else none := rfl
 generalize hr : readOf X.D X.fc s = rr at hl RA ho hby
 obtain ⟨bs, er⟩ := rr
 clear hr
 simp only at hl ho hby
 have HO := qq ho; have HL := qq hl; have HY := qq hby
 clear h hs ho hl hby
 go_enter Tryz.func110, Tryz.ntmps110
 go_wp2_with fail
 refine RA.out.mono ?_
 rintro _ w1 ⟨v, rfl, hv, k1⟩
 simp only at hv ⊢
 have HV : Hid (Bytes w1 (SinceB w w1) v bs) := qq (z0l hv HY.out)
 have K1 := qq k1
 have WA := qq (z65 v bs _ w1 HV.out (fun _ e => e.1.2) HL.out)
 clear hv k1 RA hc
 obtain ⟨av, cv, rfl, -⟩ := id HV.out
 go_wp2_with fail
 refine WA.out.mono ?_
 rintro _ w2 ⟨lv, vs, rfl, hrow, hbl, k2⟩
 generalize hwh : whole bs = ww at hrow hbl HO ⊢
 obtain ⟨rs, n, rt⟩ := ww
 simp only at hrow hbl HO ⊢
 obtain ⟨g1, g2, a, c, rfl, g3, g4, g5, g6, -⟩ := hrow
 obtain ⟨m, hm⟩ : ∃ m, rs.length = m := ⟨_, rfl⟩
 obtain ⟨q, hq⟩ : ∃ q, bs.length = q := ⟨_, rfl⟩
 have K2 := qq (K1.out.trans_nb k2)
 rw [hm] at HO g1 g3
 rw [hq] at HO
 have W0 := qq hwh
 have G5 := qq g5; have G1 := qq g1; have HB := qq hbl; have HM := qq hm; have K12 := qq k2
 clear hwh g5 g1 g6 g2 g3 g4 hbl k2 WA
 rw [hm, hq]
 clear hm hq
 rcases Classical.em (er ≠ 0) with h1 | h1
 ·
  have HN : Hid (oneR X s = none) := qq (by rw [HO.out, if_neg (fun e => h1 e.1)])
  have t1 : (er != 0) = true := by simpa using h1
  clear h1
  go_wp2
  go_ret2
  exact ⟨by rw [HN.out]; first | done | rfl, K2.out⟩
 have h1 := Classical.not_not.1 h1
 subst h1
 cases rt
 ·
  have HN : Hid (oneR X s = none) := qq (by rw [HO.out, if_neg (fun e => by simp at e)])
  go_wp2
  go_ret2
  exact ⟨by rw [HN.out]; first | done | rfl, K2.out⟩
 rcases Classical.em (m ≠ 1) with h3 | h3
 ·
  have HN : Hid (oneR X s = none) := qq (by rw [HO.out, if_neg (fun e => h3 e.2.2.1)])
  have t3 : ((m : Int) != 1) = true := by simpa using (by omega : (m : Int) ≠ 1)
  clear h3
  go_wp2
  go_ret2
  exact ⟨by rw [HN.out]; first | done | rfl, K2.out⟩
 have h3 := Classical.not_not.1 h3
 subst h3
 rcases Classical.em (n ≠ q) with h4 | h4
 ·
  have HN : Hid (oneR X s = none) := qq (by rw [HO.out, if_neg (fun e => h4 e.2.2.2)])
  have t4 : ((n : Int) != (q : Int)) = true := by simpa using (by omega : (n : Int) ≠ q)
  clear h4
  go_wp2
  go_ret2
  exact ⟨by rw [HN.out]; first | done | rfl, K2.out⟩
 have h4 := Classical.not_not.1 h4
 subst h4
 obtain ⟨r0, hr0⟩ : ∃ r, rs = [r] := List.length_eq_one_iff.1 HM.out
 subst hr0
 have HN : Hid (oneR X s = some r0) := qq (by rw [HO.out, if_pos ⟨rfl, rfl, rfl, rfl⟩]; rfl)
 obtain ⟨v0, hv0⟩ : ∃ v, vs = [v] := List.length_eq_one_iff.1 (by have := G1.out; omega)
 subst hv0
 obtain ⟨b0, off, rfl, hcell⟩ : ∃ b off, a = some ⟨b, off, none⟩ /\ w2.cell? ⟨b, off, none⟩ = some v0 := by
  rcases G5.out with h | ⟨b, off, e, h⟩
  ·
   cases h
  ·
   exact ⟨b, off, e, h 0 v0 rfl⟩
 have hbb := HB.out.2 0 v0 r0 rfl rfl
 have HBB : Hid (Bytes w2 (SinceB w w2) v0 r0) := qq (hbb.mono (fun k e => ⟨⟨by have := e.1.1; have := K1.out.size; omega, e.1.2⟩, e.2⟩))
 obtain ⟨av0, cv0, rfl, -⟩ := id hbb
 clear hbb
 go_wp2
 go_ret2
 exact ⟨by rw [HN.out]; exact ⟨_, rfl, HBB.out⟩, K2.out⟩
end Go.Proofs.YtpjomdmjohjheaaGreatDoor
end
section
namespace Go
theorem z0m {fn : Func} {t u v z : Tmp} (h : fn.results = #[.tmp t, .tmp u, .tmp v, .tmp z]) (tmps : Array Value) (P : Program) (w : World) :
  (results fn tmps).run P w = .ok (.tuple #[tmps.getD t undef, tmps.getD u undef, tmps.getD v undef, tmps.getD z undef]) w := by
 simp [results, h]
end Go
namespace Go.Log
open Go.Lk Go.RowKit Go.Vfs
theorem z6h : ∀ (f at' : Nat) (b : List Nat), (∀ x ∈ b, x < 256) -> ∀ q ∈ items f at' b, 0 <= q.1 -> q.2.length <= mxr /\ ∀ x ∈ q.2, x < 256
 | 0, _, _, _, q, hq => by simp [items] at hq
 | f + 1, at', b, hb, q, hq => by
  unfold items at hq
  split at hq
  ·
   simp at hq
  ·
   split at hq
   ·
    simp at hq
   ·
    split at hq
    ·
     rw [List.mem_singleton] at hq; subst hq; intro h; simp at h
    ·
     rename_i h1 h2 h3
     rcases List.mem_cons.1 hq with rfl | hq
     ·
      intro _
      refine ⟨?_, fun x hx => hb x (List.mem_of_mem_drop (List.mem_of_mem_take hx))⟩
      have : ¬ mxr < num (b.take 4) := fun e => h3 (.inl e)
      simp only [List.length_take]
      omega
     ·
      exact z6h f _ _ (fun x hx => hb x (List.mem_of_mem_drop hx)) q hq
theorem tw_p {α : Type} (f : α -> Bool) : ∀ (l : List α) (q : α), q ∈ l.takeWhile f -> f q = true /\ q ∈ l
 | [], q, h => by simp at h
 | x :: l, q, h => by
  rw [List.takeWhile_cons] at h
  split at h
  ·
   rename_i hx
   rcases List.mem_cons.1 h with rfl | h
   ·
    exact ⟨hx, by simp⟩
   ·
    have := tw_p f l q h
    exact ⟨this.1, by simp [this.2]⟩
  ·
   simp at h
theorem z4e {b : List Nat} (h : ∀ x ∈ b, x < 256) : Recs (whole b).1 := by
 intro r hr
 unfold whole wholeI at hr
 obtain ⟨q, hq, rfl⟩ := List.mem_map.1 hr
 obtain ⟨h1, h2⟩ := tw_p _ _ q hq
 exact z6h _ _ _ h q h2 (by simpa using h1)
theorem z97 {X : Ds} {s : ByteArray} {b : List Nat} (h : ∀ x ∈ (Go.Proofs.YtpjomdmjohjheaaGreatDoor.readOf X.D X.fc s).1, x < 256) (ho : oneR X s = some b) : b.length <= mxr /\ ∀ x ∈ b, x < 256 := by
 unfold oneR at ho
 split at ho
 ·
  exact z4e h b (List.mem_of_head? ho)
 ·
  cases ho
def numS (o : Option (List Nat)) : Nat × Option (List Nat) := match o with | none => (0, none) | some l => if 8 <= l.length then (num (l.take 8), some (l.drop 8)) else (0, none)
def endS (o : Option (List Nat)) : Int := match o with | none => 4 | some l => if l = [] then 0 else 4
theorem man_s (b : List Nat) : manN b = if endS (numS (numS (some b)).2).2 = 0 /\ (numS (some b)).1 <= mxn /\ 1 <= (numS (numS (some b)).2).1 /\ (numS (numS (some b)).2).1 <= mxn then some ((numS (some b)).1, (numS (numS (some b)).2).1) else none := by
 rcases Nat.lt_or_ge b.length 8 with h | h
 ·
  have e1 : numS (some b) = (0, none) := by unfold numS; simp only; rw [if_neg (by omega)]
  rw [e1]
  have : ¬ b.length = 16 := by omega
  unfold manN
  rw [if_neg (fun e => this e.1), if_neg (fun e => by have := e.1; simp [numS, endS] at this)]
 ·
  have e1 : numS (some b) = (num (b.take 8), some (b.drop 8)) := by unfold numS; simp only; rw [if_pos h]
  rw [e1]
  simp only
  rcases Nat.lt_or_ge b.length 16 with h2 | h2
  ·
   have e2 : numS (some (b.drop 8)) = (0, none) := by unfold numS; simp only; rw [if_neg (by rw [List.length_drop]; omega)]
   rw [e2]
   have : ¬ b.length = 16 := by omega
   unfold manN
   rw [if_neg (fun e => this e.1), if_neg (fun e => by have := e.1; simp [endS] at this)]
  ·
   have e2 : numS (some (b.drop 8)) = (num ((b.drop 8).take 8), some ((b.drop 8).drop 8)) := by unfold numS; simp only; rw [if_pos (by rw [List.length_drop]; omega)]
   rw [e2]
   simp only
   by_cases h16 : b.length = 16
   ·
    have e3 : (b.drop 8).drop 8 = [] := List.drop_of_length_le (by rw [List.length_drop]; omega)
    have e4 : (b.drop 8).take 8 = b.drop 8 := List.take_of_length_le (by rw [List.length_drop]; omega)
    rw [e3, e4]
    unfold manN
    simp [endS, h16]
   ·
    have e3 : (b.drop 8).drop 8 ≠ [] := fun e => by have := congrArg List.length e; simp at this; omega
    unfold manN
    rw [if_neg (fun e => h16 e.1), if_neg (fun e => by have := e.1; simp only [endS] at this; rw [if_neg e3] at this; omega)]
def fndR (nm : ByteArray) (X : Ds) : (Nat × Nat) × Bool × Int :=
 match flook X.D.files (manf nm) with
 | none => ((0, 0), false, 0)
 | some _ => match (oneR X (manf nm)).bind manN with
  | none => ((0, 0), true, 10)
  | some p => (p, true, 0)
end Go.Log
namespace Go.Proofs.YtpjomdmjohjheaaGreatDoor
open Go.RowKit Go.Lk Go.Vfs Go.Log
def RdS (w : World) (R : Nat -> Prop) (g : Nat) (o : Option (List Nat)) : Prop := match o with | none => RdNo w g | some l => RdAt w R g l
theorem zaq (g : Nat) (R : Nat -> Prop) (o : Option (List Nat)) (w : World) (h : RdS w R g o) :
  Calls Tryz.prog 103 #[.pointer (some ⟨g, 0, none⟩), .int .i64 8] w fun e w' => e = .returned (.int .u64 ((numS o).1 : Nat)) /\ RdS w' R g (numS o).2 /\ Keeps (· = g) w w' := by
 cases o with
 | none =>
  refine (zd7 g 8 (.inr rfl) w h).mono ?_
  rintro e w' ⟨rfl, rfl⟩
  exact ⟨rfl, h, Keeps.refl _ _⟩
 | some l =>
  rcases Nat.lt_or_ge l.length 8 with hl | hl
  ·
   refine (z93 g 8 (.inr rfl) R l w h hl).mono ?_
   rintro e w' ⟨rfl, h1, h2⟩
   have e1 : numS (some l) = (0, none) := by unfold numS; simp only; rw [if_neg (by omega)]
   rw [e1]
   exact ⟨rfl, h1, h2⟩
  ·
   refine (z4v g 8 (.inr rfl) R l w h hl).mono ?_
   rintro e w' ⟨rfl, h1, h2⟩
   have e1 : numS (some l) = (num (l.take 8), some (l.drop 8)) := by unfold numS; simp only; rw [if_pos hl]
   rw [e1]
   exact ⟨rfl, h1, h2⟩
theorem zfz (g : Nat) (R : Nat -> Prop) (o : Option (List Nat)) (w : World) (h : RdS w R g o) :
  Calls Tryz.prog 111 #[.pointer (some ⟨g, 0, none⟩)] w fun e w' => e = .returned (.int .i64 (endS o)) /\ w = w' := by
 cases o with
 | none => exact end_no g w h
 | some l => exact end_ok g R l w h
theorem zeb (l d : Nat) (nm : ByteArray) (X : Ds) (F R : Nat -> Prop) (w : World) (h : DiskAt w d F R X.D X.fc) (hc : w.cell? ⟨l, 0, none⟩ = some (.pointer (some ⟨d, 0, none⟩))) (hc1 : w.cell? ⟨l, 1, none⟩ = some (.string nm)) (h16 : nm.size <= 16) (hm : mnB nm = true) :
  Calls Tryz.prog 51 #[.pointer (some ⟨l, 0, none⟩)] w fun e w' => e = .returned (.tuple #[.int .i64 ((fndR nm X).1.1 : Nat), .int .i64 ((fndR nm X).1.2 : Nat), .bool (fndR nm X).2.1, .int .i64 (fndR nm X).2.2]) /\ Keeps Nb w w' := by
 have hms : (manf nm).size <= maxLen := z5m h16 (by decide)
 have FA := qq (z13 l nm sMan w.drew hc1 (by omega) (by decide))
 have LA := qq (zei d (manf nm) X.D F R X.fc w.drew (h.nb ((Keeps.refl Nb w).drew)) hms)
 have hlo : lastsOf X.D X.fc (manf nm) = match flook X.D.files (manf nm) with | none => (0, 6) | some b => (((X.fc b).lasts : Nat), 0) := by
  have := z2u hm h16
  rcases z03 X.D (manf nm) with ⟨q1, q2⟩ | ⟨q1, q2, q3⟩ | ⟨b, q1, q2, q3⟩
  ·
   rw [this] at q1; cases q1
  ·
   unfold lastsOf; rw [q3, q2]
  ·
   unfold lastsOf; rw [q3, q2]
 have H := qq h
 clear h
 go_enter Tryz.func51, Tryz.ntmps51
 go_wp2
 refine WT.region (fun u => u.cell? ⟨l, 0, none⟩ = some (.pointer (some ⟨d, 0, none⟩)) /\ u.cell? ⟨l, 1, none⟩ = some (.string nm)) 11 12 [0, 1, 2, 3, 4, 5, 6, 7, 8, 9, 10, 11] (by kernel_rfl) rfl ?_
 have HS : Hid ((fun u : World => u.cell? ⟨l, 0, none⟩ = some (.pointer (some ⟨d, 0, none⟩)) /\ u.cell? ⟨l, 1, none⟩ = some (.string nm)) w.drew) := qq ⟨hc, hc1⟩
 refine WT.t 0 (v := _) (y := by rintro w ⟨C1, C2⟩; go_simp; with_reducible rfl) (s := HS.out) (h := ?_)
 refine WT.t 1 (v := _) (y := by rintro w ⟨C1, C2⟩; go_simp; with_reducible rfl) (s := HS.out) (h := ?_)
 refine WT.t 2 (v := _) (y := by rintro w ⟨C1, C2⟩; go_simp; with_reducible rfl) (s := HS.out) (h := ?_)
 refine WT.t 3 (v := .pointer (some ⟨d, 0, none⟩)) (y := by rintro w ⟨C1, C2⟩; exact zb (by kernel_rfl) (by rfl) C1) (s := HS.out) (h := ?_)
 refine WT.t 4 (v := _) (y := by rintro w ⟨C1, C2⟩; go_simp; with_reducible rfl) (s := HS.out) (h := ?_)
 refine WT.call 5 (by simp only [qi]; rfl) (by kernel_rfl) (by rfl) (by go_simp; first | done | rfl | exact ⟨⟨rfl, rfl⟩, rfl⟩ | exact ⟨⟨rfl, rfl, rfl⟩, rfl⟩) FA.out ?_
 rintro _ _ ⟨rfl, rfl⟩
 refine ⟨_, rfl, HS.out, ?_⟩
 simp only [Nat.reduceAdd, qn]
 refine WT.call 6 (by simp only [qi]; rfl) (by kernel_rfl) (by rfl) (by go_simp; first | done | rfl | exact ⟨⟨rfl, rfl⟩, rfl⟩ | exact ⟨⟨rfl, rfl, rfl⟩, rfl⟩ | exact ⟨⟨rfl, rfl, rfl, rfl⟩, rfl⟩) LA.out ?_
 rintro _ w1 ⟨rfl, k1⟩
 have HS1 : Hid ((fun u : World => u.cell? ⟨l, 0, none⟩ = some (.pointer (some ⟨d, 0, none⟩)) /\ u.cell? ⟨l, 1, none⟩ = some (.string nm)) w1) := qq ⟨(k1.cell (lt_of_cell (w := w.drew) hc) (fun e => e)).trans hc, (k1.cell (lt_of_cell (w := w.drew) hc1) (fun e => e)).trans hc1⟩
 have K1 := qq (((Keeps.refl Nb w).drew).trans_nb k1)
 clear HS FA LA k1
 have HS := HS1
 refine ⟨_, rfl, HS.out, ?_⟩
 simp only [Nat.reduceAdd, qn]
 generalize lastsOf X.D X.fc (manf nm) = lo at hlo ⊢
 obtain ⟨la, le⟩ := lo
 have HLo := qq hlo
 clear hlo hc hc1
 refine WT.t 7 (v := _) (y := by rintro w ⟨C1, C2⟩; go_simp; with_reducible rfl) (s := HS.out) (h := ?_)
 refine WT.t 8 (v := _) (y := by rintro w ⟨C1, C2⟩; go_simp; with_reducible rfl) (s := HS.out) (h := ?_)
 refine WT.t 9 (v := _) (y := by rintro w ⟨C1, C2⟩; go_simp; with_reducible rfl) (s := HS.out) (h := ?_)
 refine WT.t 10 (v := _) (y := by rintro w ⟨C1, C2⟩; go_simp; with_reducible rfl) (s := HS.out) (h := ?_)
 refine WT.stop (by kernel_rfl) ?_
 refine WP.o 11 (v := _) (y := by go_simp; first | with_reducible rfl | exact ⟨rfl, rfl⟩) (h := ?_)
 refine WP.done (by kernel_rfl) ?_
 cases hfl : flook X.D.files (manf nm) with
 | none =>
  rw [hfl] at HLo
  have e1 : le = 6 := (congrArg Prod.snd HLo.out)
  subst e1
  have HN : Hid (fndR nm X = ((0, 0), false, 0)) := qq (by unfold fndR; rw [hfl])
  clear hfl HLo
  go_wp2
  (try simp only [Exit.inBlock, Exit.then])
  refine bodyPost_ret (z0m rfl _ _ _) rfl ?_
  exact ⟨by rw [HN.out]; first | done | rfl, K1.out⟩
 | some fb =>
  rw [hfl] at HLo
  have e1 : le = 0 := (congrArg Prod.snd HLo.out)
  subst e1
  have HFL := qq hfl
  clear hfl HLo
  have F2 := qq (z13 l nm sMan w1 HS.out.2 (by omega) (by decide))
  have O2 := qq (zda l d (manf nm) X F R w1 (H.out.nb K1.out) HS.out.1 hms)
  clear HS1
  go_wp2_with fail
  refine F2.out.mono ?_
  rintro _ _ ⟨rfl, rfl⟩
  go_wp2_with fail
  refine O2.out.mono ?_
  rintro e2 w2 ⟨ho, k2⟩
  have hby := (z15 H.out (manf nm)).2
  have fin : ∀ (v : Value) (b : List Nat) (wh : Bool), e2 = .returned (.tuple #[v, .bool wh]) -> Bytes w2 (SinceB w1 w2) v b -> b.length <= mxr -> ((wh = false /\ (oneR X (manf nm)).bind manN = none) \/ (wh = true /\ (oneR X (manf nm)).bind manN = manN b)) -> ∃ v b wh, e2 = .returned (.tuple #[v, .bool wh]) /\ Bytes w2 (SinceB w1 w2) v b /\ b.length <= mxr /\ (oneR X (manf nm)).bind manN = if wh = true then manN b else none := by
   rintro v b wh h1 h2 h3 h4
   refine ⟨v, b, wh, h1, h2, h3, ?_⟩
   rcases h4 with ⟨rfl, h4⟩ | ⟨rfl, h4⟩ <;> simp [h4]
  obtain ⟨v, b, wh, rfl, hb, hbl, hm2⟩ : ∃ v b wh, e2 = .returned (.tuple #[v, .bool wh]) /\ Bytes w2 (SinceB w1 w2) v b /\ b.length <= mxr /\ (oneR X (manf nm)).bind manN = if wh = true then manN b else none := by
   cases hor : oneR X (manf nm) with
   | none =>
    rw [hor] at ho
    exact ⟨_, [], false, ho, Bytes.nil _ _, by decide, by simp⟩
   | some b =>
    rw [hor] at ho
    obtain ⟨v, ho, hb⟩ := ho
    exact ⟨v, b, true, ho, hb, (z97 hby hor).1, by simp⟩
  clear fin ho hby
  have RA := qq (read_at' v b _ w2 hb (by unfold mxr at hbl; omega))
  have K2 := qq (K1.out.trans_nb k2)
  obtain ⟨av, cv, rfl, -⟩ := id hb
  clear hb hbl k2 O2 F2
  go_wp2_with fail
  refine RA.out.mono ?_
  rintro _ w3 ⟨g, rfl, k3, hrd, hge⟩
  have N1 := qq (zaq g _ (some b) w3 hrd)
  clear hrd RA
  go_wp2_with fail
  refine N1.out.mono ?_
  rintro _ w4 ⟨rfl, hr4, k4⟩
  have N2 := qq (zaq g _ _ w4 hr4)
  clear hr4 N1
  go_wp2_with fail
  refine N2.out.mono ?_
  rintro _ w5 ⟨rfl, hr5, k5⟩
  have E5 := qq (zfz g _ _ w5 hr5)
  have K5 : Hid (Keeps Nb w w5) := qq (((K2.out.trans_nb k3).own (k := g) (by have := K2.out.size; omega) k4).own (k := g) (by have := K2.out.size; omega) k5)
  clear hr5 N2 k3 k4 k5 hge
  have hman := man_s b
  rw [hman] at hm2
  clear hman
  generalize numS (some b) = n1 at hm2 E5 ⊢
  obtain ⟨sn, o1⟩ := n1
  simp only at hm2 E5 ⊢
  generalize numS o1 = n2 at hm2 E5 ⊢
  obtain ⟨fi, o2⟩ := n2
  simp only at hm2 E5 ⊢
  generalize endS o2 = er at hm2 E5
  have hno : (oneR X (manf nm)).bind manN = none -> fndR nm X = ((0, 0), true, 10) := fun e => by unfold fndR; rw [HFL.out, e]
  have hyes : ∀ q, (oneR X (manf nm)).bind manN = some q -> fndR nm X = (q, true, 0) := fun q e => by unfold fndR; rw [HFL.out, e]
  have HM := qq hm2; have HNO := qq hno; have HYE := qq hyes
  clear hm2 hno hyes H HS
  cases wh
  ·
   have HN := qq (HNO.out (by rw [HM.out]; rfl))
   go_wp2
   (try simp only [Exit.inBlock, Exit.then])
   refine bodyPost_ret (z0m rfl _ _ _) rfl ?_
   exact ⟨by rw [HN.out]; first | done | rfl, K5.out⟩
  ·
   go_wp2_with fail
   refine E5.out.mono ?_
   rintro _ _ ⟨rfl, rfl⟩
   rcases Classical.em (er ≠ 0) with h1 | h1
   ·
    have HN := qq (HNO.out (by rw [HM.out, if_pos trivial, if_neg (fun e => h1 e.1)]))
    have t1 : (er != 0) = true := by simpa using h1
    clear h1 E5
    go_wp2
    (try simp only [Exit.inBlock, Exit.then])
    refine bodyPost_ret (z0m rfl _ _ _) rfl ?_
    exact ⟨by rw [HN.out]; first | done | rfl, K5.out⟩
   have h1 := Classical.not_not.1 h1
   subst h1
   rcases Nat.lt_or_ge mxn sn with h2 | h2
   ·
    have HN := qq (HNO.out (by rw [HM.out, if_pos trivial, if_neg (fun e => by omega)]))
    have t1 : decide (2147483647 < (sn : Int)) = true := by unfold mxn at h2; simpa using (by omega : (2147483647 : Int) < sn)
    clear h2 E5
    go_wp2
    (try simp only [Exit.inBlock, Exit.then])
    refine bodyPost_ret (z0m rfl _ _ _) rfl ?_
    exact ⟨by rw [HN.out]; first | done | rfl, K5.out⟩
   have t2 : decide (2147483647 < (sn : Int)) = false := by unfold mxn at h2; simpa using (by omega : (sn : Int) <= 2147483647)
   rcases Nat.lt_or_ge fi 1 with h3 | h3
   ·
    have HN := qq (HNO.out (by rw [HM.out, if_pos trivial, if_neg (fun e => by omega)]))
    have t1 : decide ((fi : Int) < 1) = true := by simpa using (by omega : (fi : Int) < 1)
    clear h2 h3 E5
    go_wp2
    (try simp only [Exit.inBlock, Exit.then])
    refine bodyPost_ret (z0m rfl _ _ _) rfl ?_
    exact ⟨by rw [HN.out]; first | done | rfl, K5.out⟩
   have t3 : decide ((fi : Int) < 1) = false := by simpa using (by omega : (1 : Int) <= fi)
   rcases Nat.lt_or_ge mxn fi with h4 | h4
   ·
    have HN := qq (HNO.out (by rw [HM.out, if_pos trivial, if_neg (fun e => by omega)]))
    have t1 : decide (2147483647 < (fi : Int)) = true := by unfold mxn at h4; simpa using (by omega : (2147483647 : Int) < fi)
    clear h2 h3 h4 E5
    go_wp2
    (try simp only [Exit.inBlock, Exit.then])
    refine bodyPost_ret (z0m rfl _ _ _) rfl ?_
    exact ⟨by rw [HN.out]; first | done | rfl, K5.out⟩
   have t4 : decide (2147483647 < (fi : Int)) = false := by unfold mxn at h4; simpa using (by omega : (fi : Int) <= 2147483647)
   have HN := qq (HYE.out (sn, fi) (by rw [HM.out, if_pos trivial, if_pos ⟨rfl, h2, h3, h4⟩]))
   have hw1 : IntKind.i64.wrap (sn : Int) = sn := by unfold mxn at h2; exact IntWalk.i64_in _ (by omega)
   have hw2 : IntKind.i64.wrap (fi : Int) = fi := by unfold mxn at h4; exact IntWalk.i64_in _ (by omega)
   clear h2 h3 h4 E5
   go_wp2
   (try simp only [Exit.inBlock, Exit.then])
   refine bodyPost_ret (z0m rfl _ _ _) rfl ?_
   exact ⟨by rw [HN.out]; first | done | rfl, K5.out⟩
end Go.Proofs.YtpjomdmjohjheaaGreatDoor
end
section
namespace Go.Lk
open Go.RowKit
variable {P : Program} {w w' : World} {t e : TypeId} {size bytes : Nat} {z : Value} {a : Act} {s x : Operand} {dst : Option Tmp} {ty : TypeId} {pos : String} {aft : Array Edge} {gd : Option (Nat × Bool)}
theorem zdh (E : ElemT P t e size bytes z) {v : Value} {ad : Option Addr} {m c2 n base : Nat} {xs news : List Value} (hv : w.ownsRow base e size v n xs) (hs : a.eval s = v) (hx : a.eval x = .slice ad m c2)
  (hsrc : Has w ad news) (hl : news.length = m * size) (h1 : ∀ u ∈ news, u.oneCell' = true) (h63 : n + m <= maxLen) (hbytes : (n + m) * bytes <= 140737488355328) (hb : base <= w.heap.size) :
  ∃ v' w', (execOp a.eval ⟨dst, .call ⟨.builtin .append, #[s, x], #[t, t]⟩, ty, pos, aft, gd⟩).run P w = .ok (.value v') w' /\ (w'.ownsRow base e size v' (n + m) (xs ++ news) /\ w.grownBy w' v.ownBlock) := by
 obtain ⟨v', w', h2, h3, h4, -⟩ := z2o (P := P) (c := c2) ty E base n xs news hv hsrc hl h1 h63 hbytes hb
 exact ⟨v', w', z55 hs hx h2, h3, h4⟩
end Go.Lk
namespace Go.Proofs.YtpjomdmjohjheaaGreatDoor
open Go.RowKit Go.Lk Go.Vfs Go.Log
theorem zee {l : List Nat} {zs : List Int} (h : zs.Perm (l.map fun n : Nat => (n : Int))) (hs : zs.Pairwise (· <= ·)) : ∃ ms : List Nat, ms.Perm l /\ ms.Pairwise (· <= ·) /\ zs = ms.map fun n : Nat => (n : Int) := by
 have hz : ∀ z ∈ zs, 0 <= z := fun z hz => by
  obtain ⟨n, -, rfl⟩ := List.mem_map.1 (h.mem_iff.1 hz); omega
 have e : zs = (zs.map Int.toNat).map fun n : Nat => (n : Int) := by
  rw [List.map_map]
  conv => lhs; rw [<- List.map_id zs]
  exact List.map_congr_left fun z hz' => by have := hz z hz'; simp; omega
 refine ⟨zs.map Int.toNat, ?_, ?_, e⟩
 ·
  have := h.map Int.toNat
  rw [List.map_map] at this
  have e2 : l.map (Int.toNat ∘ fun n : Nat => (n : Int)) = l := by
   conv => rhs; rw [<- List.map_id l]
   exact List.map_congr_left fun z _ => by simp
  rwa [e2] at this
 ·
  rw [List.pairwise_map]
  exact hs.imp fun h => Int.toNat_le_toNat h
theorem zb3 (v : Value) (l : List Nat) (base : Nat) (w : World) (h : w.ownsRow base 3 1 v l.length (l.map fun n : Nat => Value.int .i64 n)) (hl : l.length <= 1000000) :
  Calls Tryz.prog 119 #[v] w fun e w' => e = .returned (.tuple #[]) /\ (∃ ms : List Nat, ms.Perm l /\ ms.Pairwise (· <= ·) /\ w'.ownsRow base 3 1 v l.length (ms.map fun n : Nat => Value.int .i64 n)) /\ Keeps (fun k => v.ownBlock = some k) w w' := by
 have hm : ∀ l : List Nat, (l.map fun n : Nat => Value.int .i64 n) = (l.map fun n : Nat => (n : Int)).map (Value.int .i64) := fun l => by rw [List.map_map]; rfl
 obtain ⟨h1, h2⟩ := id h
 rcases h2 with ⟨rfl, h0⟩ | ⟨g, cap, cur, rfl, hbg, hg, hnc, hcm, hcs, htake⟩
 ·
  have hnil : l = [] := List.length_eq_zero_iff.1 h0
  subst hnil
  refine (AnyM.slices_Sort_int_none Tryz.sort119 none 0 w).mono ?_
  rintro e w' ⟨rfl, rfl⟩
  exact ⟨rfl, ⟨[], List.Perm.refl _, List.Pairwise.nil, h⟩, Keeps.refl _ _⟩
 ·
  have hH : Go.Sort.Holds (Value.int .i64) w g 0 (l.map fun n : Nat => (n : Int)).toArray := holds_of_blockI hg (by rw [<- hm, List.length_map]; simpa using htake)
  have key := AnyM.slices_Sort_int Tryz.sort119 g 0 cap (l.map fun n : Nat => (n : Int)) w hH (lt_of_block hg) (by rw [List.length_map]; omega)
  rw [List.length_map] at key
  refine key.mono ?_
  rintro e w' ⟨rfl, n, os, rfl⟩
  obtain ⟨ms, k1, k2, k3⟩ := zee (List.mergeSort_perm (l.map fun n : Nat => (n : Int)) fun x y => decide (x <= y)) ((List.pairwise_mergeSort (le := fun x y : Int => decide (x <= y)) (fun a b c h1 h2 => by simp at *; omega) (fun a b => by simp; omega) _).imp fun h => by simpa using h)
  rw [k3]
  refine ⟨rfl, ⟨ms, k1, k2, ?_⟩, (Keeps.refl _ w).grown (grownBy_sortedI _) (fun k hk _ => by cases hk; rfl)⟩
  rw [hm ms]
  have := ownsRow_sortedI (n := n) (os := os) (ss := l.map fun n : Nat => (n : Int)) (ts := ms.map fun n : Nat => (n : Int)) (by simp [k1.length_eq]) hbg hg (by rw [List.length_map]; exact hnc) hcm hcs
  rw [List.length_map] at this
  exact this
theorem el35 : ElemT Tryz.prog 35 3 1 8 (.int .i64 0) := ⟨by kernel_rfl, by kernel_rfl, rfl, by decide⟩
end Go.Proofs.YtpjomdmjohjheaaGreatDoor
end
section
namespace Go.Lk
open Go.RowKit
variable {P : Program} {w w' : World} {F R : Nat -> Prop} {t e : TypeId} {size bytes : Nat} {z : Value} {a : Act} {s x : Operand} {dst : Option Tmp} {ty : TypeId} {pos : String} {aft : Array Edge} {gd : Option (Nat × Bool)}
theorem zdm (ty : TypeId) (E : ElemT P t e size bytes z) {ad ad2 : Option Addr} {c2 n c : Nat} (hn : n <= c) :
  (Builtin.append_ #[t, t] ty #[.slice ad n c, .slice ad2 0 c2]).run P w = .ok (.slice ad n c) w := by
 obtain ⟨i, hi, h4⟩ := Option.map_eq_some_iff.1 E.hi
 cases ad2 with
 | none => cases ad <;> simp [Builtin.append_, run_underlying E.ht, sizeOf, typeInfo, hi, Builtin.lenOf, Builtin.firstCells, hn, storeCells]
 | some p => cases ad <;> simp [Builtin.append_, run_underlying E.ht, sizeOf, typeInfo, hi, Builtin.lenOf, Builtin.firstCells, hn, storeCells, loadCells, loadCellsFrom]
theorem re_push' (E : ElemT P t e size bytes z) {v : Value} {ad : Option Addr} {m c2 n : Nat} {xs news : List Value} (hv : RowS w F R e size v n xs) (hs : a.eval s = v) (hx : a.eval x = .slice ad m c2)
  (hsrc : Has w ad news) (hl : news.length = m * size) (h1 : ∀ u ∈ news, u.oneCell' = true) (h63 : n + m <= maxLen) (hbytes : (n + m) * bytes <= 140737488355328) :
  ∃ v' w', (execOp a.eval ⟨dst, .call ⟨.builtin .append, #[s, x], #[t, t]⟩, ty, pos, aft, gd⟩).run P w = .ok (.value v') w' /\ IsPush F R e size (n + m) (xs ++ news) w v' w' := by
 rcases Nat.eq_zero_or_pos m with h | h
 ·
  subst h
  have hn : news = [] := List.length_eq_zero_iff.1 (by omega)
  subst hn
  obtain ⟨k1, k2, a', c, rfl, k4, k5, k6, k7, k8⟩ := id hv
  refine ⟨_, w, z55 hs hx (zdm ty E k4), ?_⟩
  rw [List.append_nil]
  exact ⟨hv.mono (fun k h => .inl h) (fun _ h => h), Nb, Keeps.refl _ _, fun k h => h.elim⟩
 ·
  exact z2a E hv hs hx hsrc hl h1 h h63 hbytes
end Go.Lk
namespace Go.Lk
theorem RowS.typed {w : World} {F R : Nat -> Prop} {e : TypeId} {size n : Nat} {v : Value} {xs : List Value} (h : RowS w F R e size v n xs) : RowS w (fun k => F k /\ IsT w e k) R e size v n xs := by
 obtain ⟨h1, h2, a, c, rfl, h4, h5, h6, h7, h8⟩ := h
 refine ⟨h1, h2, a, c, rfl, h4, h5, h6, fun b off e hz => ⟨(h7 b off e hz).1.imp (fun hf => ⟨hf, (h7 b off e hz).2⟩) id, (h7 b off e hz).2⟩, h8.imp id fun ⟨x, y⟩ => ⟨x, fun g hg => ⟨y g hg, ?_⟩⟩⟩
 rcases x.2 with ⟨e, -⟩ | ⟨g', cap, cur, e, -, hb, -⟩
 ·
  rw [e] at hg; cases hg
 ·
  rw [e] at hg; cases hg; exact ⟨_, _, hb⟩
end Go.Lk
namespace Go.Log
open Go.Lk Go.RowKit Go.Vfs
variable {w w' w2 : World} {l d : Nat} {Fd Rd FL RL FN RN S : Nat -> Prop} {L L' : Lg} {X : Ds}
def LUp (w w' : World) (l d : Nat) (Fd Rd FL RL : Nat -> Prop) (L : Lg) (X : Ds) : Prop :=
 ∃ FL' RL', LgAt w' l d Fd Rd FL' RL' L X /\ (∀ k, FL' k -> FL k \/ w.heap.size <= k) /\ (∀ k, RL' k -> RL k \/ w.heap.size <= k) /\ Keeps FL w w'
theorem LUp.of (h : LgAt w' l d Fd Rd FL RL L X) (hk : Keeps FL w w') : LUp w w' l d Fd Rd FL RL L X := ⟨FL, RL, h, fun _ e => .inl e, fun _ e => .inl e, hk⟩
theorem LgAt.lt6 (h : LgAt w l d Fd Rd FL RL L X) : 6 <= w.heap.size := by
 have := h.low l (.inr h.fl); have := h.ltF l h.fl; omega
theorem LgAt.put {w0 wa : World} {sv lv : Value} {vs : List Value} (h : LgAt wa l d Fd Rd FL RL L X) (hz : wa.heap.size <= w.heap.size) (hd : DiskAt w d Fd Rd X.D X.fc) (hT : ∃ cs, w.heap[l]? = some (.cells cs 78 (0, 0))) (hs : SetAt w w' l (.cells (lcs d sv lv L') 78 (0, 0)))
  (h0 : ∀ k, (Fd k \/ Rd k \/ FL k \/ RL k) -> k < w0.heap.size) (h6 : 6 <= w0.heap.size) (hn : NumL L')
  (hb : Bytes w (fun k => RL k \/ (w0.heap.size <= k /\ k < w.heap.size /\ IsT w 5 k)) sv L'.snap) (hr : RowS w (fun k => FL k \/ (w0.heap.size <= k /\ k < w.heap.size /\ IsT w 22 k)) (fun _ => False) 22 1 lv L'.recs.length vs)
  (hl : BytesL w (fun k => RL k \/ (w0.heap.size <= k /\ k < w.heap.size /\ IsT w 5 k)) vs L'.recs) :
  LgAt w' l d Fd Rd (fun k => FL k \/ (w0.heap.size <= k /\ k < w.heap.size /\ IsT w 22 k)) (fun k => RL k \/ (w0.heap.size <= k /\ k < w.heap.size /\ IsT w 5 k)) L' X := by
 obtain ⟨-, -, g3, g4, g5, g6, g7, g8, g9⟩ := h
 have g1 := hd
 have k := hs.k
 have hll : l < w0.heap.size := h0 l (.inr (.inr (.inl g3)))
 have hRl : ∀ k, (RL k \/ (w0.heap.size <= k /\ k < w.heap.size /\ IsT w 5 k)) -> ¬ k = l := fun k e h => by
  rw [h] at e; exact e.elim (fun e => (g5 l e).2 g3) (fun e => by omega)
 have hTl : ∀ k, IsT w 22 k -> ¬ k = l := fun k ht e => by subst e; obtain ⟨cs, hc⟩ := hT; exact (ht.ne ⟨_, _, hc⟩ (by decide)) rfl
 refine ⟨g1.keeps k (fun k hk e => (g4 l g3).1 (e ▸ hk)) (fun k hk e => (g4 l g3).2 (e ▸ hk)), ⟨sv, lv, vs, hs.blk, hb.keeps k hRl, hr.keeps k (fun k hk ht => hTl k ht), hl.keeps k hRl⟩, .inl g3, ?_, ?_, ?_, ?_, hn, ?_⟩
 ·
  rintro k (e | e)
  ·
   exact g4 k e
  ·
   exact ⟨fun e2 => by have := h0 k (.inl e2); omega, fun e2 => by have := h0 k (.inr (.inl e2)); omega⟩
 ·
  rintro k (e | e)
  ·
   exact ⟨(g5 k e).1, fun e2 => e2.elim (g5 k e).2 (fun e2 => by have := h0 k (.inr (.inr (.inr e))); omega)⟩
  ·
   exact ⟨fun e2 => by have := h0 k (.inl e2); omega, fun e2 => e2.elim (fun e2 => by have := h0 k (.inr (.inr (.inl e2))); omega) (fun e2 => (e2.2.2.ne e.2.2 (by decide)) rfl)⟩
 ·
  rintro k (e | e)
  ·
   exact Nat.lt_of_lt_of_le (g6 k e) (Nat.le_trans hz hs.k.size)
  ·
   exact Nat.lt_of_lt_of_le e.2.1 hs.k.size
 ·
  rintro k (e | e)
  ·
   exact Nat.lt_of_lt_of_le (g7 k e) (Nat.le_trans hz hs.k.size)
  ·
   exact Nat.lt_of_lt_of_le e.2.1 hs.k.size
 ·
  rintro k (e | e | e)
  ·
   exact g9 k (.inl e)
  ·
   exact g9 k (.inr e)
  ·
   omega
end Go.Log
end
section
namespace Go.Proofs.YtpjomdmjohjheaaGreatDoor
open Go.RowKit Go.Lk Go.Vfs Go.Log
theorem z5x (X : Ds) (n : Nat) (ns : List Nat) (L : Lg) (e : Nat) : rdl X (n :: ns) L e =
  if (whole (readOf X.D X.fc (sgf L.name n)).1).2.2 = true /\ ((readOf X.D X.fc (sgf L.name n)).1.length <= (whole (readOf X.D X.fc (sgf L.name n)).1).2.1 \/ ns = []) then
   rdl X ns { L with recs := L.recs ++ (whole (readOf X.D X.fc (sgf L.name n)).1).1, segment := n, size := (readOf X.D X.fc (sgf L.name n)).1.length } (whole (readOf X.D X.fc (sgf L.name n)).1).2.1
  else none := rfl
def ReadD (w : World) (l d : Nat) (Fd Rd FL RL : Nat -> Prop) (X : Ds) (r : Option (Lg × Nat)) (e : Ending) (w' : World) : Prop :=
 match r with
 | none => e = .returned (.tuple #[.int .i64 0, .int .i64 10]) /\ DiskAt w' d Fd Rd X.D X.fc /\ Keeps FL w w'
 | some p => e = .returned (.tuple #[.int .i64 (p.2 : Nat), .int .i64 0]) /\ LUp w w' l d Fd Rd FL RL p.1 X
def segL (nm : ByteArray) (first : Nat) (l : List ByteArray) : List Nat := (l.map (sgn nm)).filter fun n => decide (first <= n)
def NumsI (w6 : World) (b6 : Nat) (nm : ByteArray) (first : Nat) (l : List ByteArray) (W : World) : Prop :=
 ∃ v, W.heap[b6]? = some (.cells #[v] 35 (0, 0)) /\ W.ownsRow (w6.heap.size + 2) 3 1 v (segL nm first l).length ((segL nm first l).map fun n : Nat => Value.int .i64 n) /\ Keeps (fun b => w6.heap.size <= b \/ b = b6) w6 W
theorem NumsI.book {w6 A B : World} {b6 : Nat} {nm : ByteArray} {first : Nat} {l : List ByteArray} (h : NumsI w6 b6 nm first l A) (k : Keeps (Book w6) A B) (hb : b6 < w6.heap.size) : NumsI w6 b6 nm first l B := by
 obtain ⟨v, h1, h2, h3⟩ := h
 exact ⟨v, k.at h1 (fun e => by unfold Book at e; omega), z07 h2 k (fun j hj e => by unfold Book at e; omega), h3.trans k (fun j hj e => by unfold Book at e; omega)⟩
def ReadI (X : Ds) (ms : List Nat) (W1 : World) (l d : Nat) (Fd Rd FL RL : Nat -> Prop) (L1 : Lg) (k : Nat) (Lk : Lg) (en : Nat) (wr : World) : Prop :=
 LUp W1 wr l d Fd Rd FL RL Lk X /\ rdl X ms L1 0 = rdl X (ms.drop k) Lk en /\ Lk.name = L1.name /\ Lk.recs.length <= k * 2097153
theorem zej (l d s : Nat) (Fd Rd FL RL : Nat -> Prop) (L : Lg) (X : Ds) (w : World) (h : LgAt w l d Fd Rd FL RL L X) (hv : Vars w) (hs : s <= mxn) (hr0 : L.recs = []) :
  Calls Tryz.prog 59 #[.pointer (some ⟨l, 0, none⟩), .int .i64 s] w fun e w' => ∃ r, readR X L s r /\ ReadD w l d Fd Rd FL RL X r e w' := by
 have H := qq h; have HV := qq hv
 have h6 : Hid (6 <= w.heap.size) := qq h.lt6
 clear h hv
 refine z1h Tryz.func59 rfl ?_
 simp only [Tryz.ntmps59, List.size_toArray, List.length_cons, List.length_nil, Nat.reduceAdd, Nat.reduceSub, Array.replicate_succ, Array.replicate_zero, List.push_toArray, List.append_toArray, List.nil_append, List.cons_append]
 go_wp2_with (first | go_skip | (with_reducible refine zm (t := 40) ?_))
 refine za (vbox1 (v := .pointer (some ⟨l, 0, none⟩)) (by rfl) rfl ?_)
 intro b2 w1 n1
 simp only [Nat.reduceAdd, qn]
 have B2 := qq n1.blk
 have G2 : Hid (w.heap.size <= b2 /\ b2 < w1.heap.size) := qq ⟨n1.ge, n1.lt⟩
 have K1 := qq n1.k
 clear n1
 have H1 := qq (H.out.nb K1.out)
 by_cases h0 : s = 0
 ·
  have hb2l : b2 ≠ l := fun e => by have := H.out.ltF l H.out.fl; have := G2.out.1; omega
  have c2 : w1.cell? ⟨b2, 0, none⟩ = some (.pointer (some ⟨l, 0, none⟩)) := (cell_of_block B2.out).trans rfl
  obtain ⟨L1, HG, HSN, hnm, hfi, hrc⟩ : ∃ L1, Hid (LUp w1 w1 l d Fd Rd FL RL L1 X) /\ Hid (snapR X L s = some L1) /\ L1.name = L.name /\ L1.first = L.first /\ L1.recs = [] :=
   ⟨L, qq (LUp.of H1.out (Keeps.refl _ _)), qq (by unfold snapR; rw [if_pos h0]), rfl, rfl, hr0⟩
  have t0 : ¬ 0 < s := by omega
  clear h0
  obtain ⟨FL1, RL1, H1', hFL1, hRL1, kA⟩ := HG.out
  have HA := qq H1'
  have KA := qq kA
  have HFL1 := qq hFL1; have HRL1 := qq hRL1
  have HNM := qq hnm; have HFI := qq hfi; have HRC := qq hrc
  clear H1' hFL1 hRL1 kA HG hnm hfi hrc
  go_wp2_with (first | go_skip | (with_reducible refine qv (by decide) ?_))
  refine za (valloc (z := .slice none 0 0) (by kernel_rfl) ?_)
  intro b6 wB nB
  simp only [Nat.reduceAdd, qn]
  have B6 := qq nB.blk
  have KB := qq nB.k
  have G6 : Hid (w1.heap.size <= b6 /\ b6 < wB.heap.size) := qq ⟨nB.ge, nB.lt⟩
  clear nB
  have HB' := qq (HA.out.nb KB.out)
  obtain ⟨sv', lv', hcs⟩ := HB'.out.cells
  have HC := qq hcs
  have B2B := qq (KB.out.nb B2.out)
  have cB2 : wB.cell? ⟨b2, 0, none⟩ = some (.pointer (some ⟨l, 0, none⟩)) := (cell_of_block B2B.out).trans rfl
  have cl : wB.cell? ⟨l, 0, none⟩ = some (.pointer (some ⟨d, 0, none⟩)) := (cell_of_block (HC.out wB (Keeps.refl _ _))).trans rfl
  have FA := qq (z42 d X.D Fd Rd X.fc wB HB'.out.disk)
  clear hcs c2
  go_wp2_with fail
  refine FA.out.mono ?_
  rintro _ w6 ⟨ns, hperm, a3, a4, rfl, hfa, k6⟩
  obtain ⟨ps, hps⟩ : ∃ ps, (ns.map fun s => (s, szOf X.D X.fc s)) = ps := ⟨_, rfl⟩
  rw [hps] at hfa
  have HPS := qq hps
  have HPM := qq hperm
  have HFA := qq hfa
  have K6 := qq k6
  have HLEN : Hid (ps.length = ns.length) := qq (by rw [<- hps, List.length_map])
  have W6 : Hid (w6.heap[b6]? = some (.cells #[.slice none 0 0] 35 (0, 0))) := qq (k6.nb B6.out)
  have L6 : b6 < wB.heap.size := lt_of_block B6.out
  have z36 := k6.size
  have HV6 : Hid (Vars w6) := qq ((((HV.out.nb K1.out).keeps KA.out (fun k hk e => by have := H.out.low k (.inr e); omega)).nb KB.out).nb K6.out)
  clear hps hperm hfa k6 FA cB2 cl
  go_wp2_with (with_reducible refine z16 ?_)
  refine za ((wpIn_wide (n := 9)).1 ?_)
  have hlw : l < w.heap.size := H.out.ltF l H.out.fl
  have hzA : w1.heap.size <= w1.heap.size := KA.out.size
  refine z2c (gf := 95) (lb := #[.pointer (some ⟨a3, 0, none⟩), .pointer (some ⟨a4, 0, none⟩)]) (by rfl) (enters_of Tryz.func95 (by kernel_rfl) rfl)
   (z2i 8 (by omega) wB.heap.size a3 a4 ps (fun b => w6.heap.size <= b \/ b = b6) w6 HFA.out (fun b h1 h2 e => by omega))
   (fun b hb => .inl (by unfold Book at hb; omega)) (fun i args W h => by obtain ⟨p, -, rfl⟩ := h; rfl)
   (fun i W => NumsI w6 b6 L1.name L1.first (ns.take i) W) (fun _ _ => False)
   (fun i A B h k => h.book k (by omega)) (fun c A B h => h.elim) ⟨_, W6.out, ⟨rfl, .inl ⟨rfl, rfl⟩⟩, Keeps.refl _ _⟩ ?_ ?_ (fun _ _ h => h.elim)
  ·
   rintro lm i args W rfl hW2 hI hi ⟨p, hp, rfl⟩
   simp only [List.zip_toArray, List.zip_cons_cons, List.zip_nil_right, List.foldl_toArray, List.foldl_cons, List.foldl_nil, List.setIfInBounds_toArray, List.set_cons_succ, List.set_cons_zero]
   have hns : ns[i]? = some p.1 := by
    rw [<- HPS.out, List.getElem?_map] at hp
    obtain ⟨s, h1, h2⟩ := Option.map_eq_some_iff.1 hp
    rw [h1, <- h2]
   have hmn : mnB p.1 = true := by
    have h1 := HPM.out.mem_iff.1 (List.mem_of_getElem? hns)
    obtain ⟨q, hq, e⟩ := List.mem_map.1 h1
    rw [<- e]; exact H.out.disk.names.files q hq
   obtain ⟨nm, sz⟩ := p
   have HNS := qq hns
   have hsz := z0x hmn
   have HI := qq hI
   clear hI hp hns hmn
   repeat (first | (with_reducible refine zg ?_) | (with_reducible refine stop_range ?_) | gi_step)
   refine za (zi (by kernel_rfl) (by rintro ⟨_, _, h⟩; exact h) ?_)
   go_wp2
   refine ⟨Keeps.refl _ _, fun W3 k3 => ?_⟩
   have kb3 : Keeps (Book w6) W W3 := k3.mono (fun i _ e => .inr e)
   obtain ⟨v, e1, e2, e3⟩ := HI.out.book kb3 (by omega)
   have KW3 := qq e3
   have E1 := qq e1; have E2 := qq e2
   have c2 : W3.cell? ⟨b2, 0, none⟩ = some (.pointer (some ⟨l, 0, none⟩)) := (cell_of_block (KW3.out.at (K6.out.nb B2B.out) (fun e => by have := G2.out; have := G6.out; omega))).trans rfl
   have bl3 : W3.heap[l]? = some (.cells (lcs d sv' lv' L1) 78 (0, 0)) := KW3.out.at (HC.out w6 K6.out) (fun e => by have := G2.out; have := G6.out; omega)
   have BL3 := qq bl3
   have HV3 : Hid (Vars W3) := qq (HV6.out.keeps KW3.out (fun k hk e => by have := h6.out; have := G2.out; have := G6.out; omega))
   have PA := qq (z3i l L1.name nm ByteArray.empty W3 HV3.out ((cell_of_block bl3).trans rfl) (by rw [HNM.out]; have := H.out.nums.n16; omega) (by omega) (by decide))
   have zW3 : w6.heap.size + 2 <= W3.heap.size := by have := k3.size; omega
   clear k3 e1 e2 e3 kb3 bl3
   repeat (first | (with_reducible refine zg ?_) | (with_reducible refine stop_range ?_) | gi_step)
   refine za (zi (by kernel_rfl) (by rintro ⟨_, _, h⟩; exact h) ?_)
   go_wp2_with fail
   refine PA.out.mono ?_
   rintro _ W4 ⟨rfl, k4⟩
   have c4 : W4.cell? ⟨b2, 0, none⟩ = some (.pointer (some ⟨l, 0, none⟩)) := (k4.cell (lt_of_cell c2) (fun e => e)).trans c2
   have c43 : W4.cell? ⟨l, 3, none⟩ = some (.int .i64 (L1.first : Nat)) := (cell_of_block (k4.nb BL3.out)).trans rfl
   have E14 := qq (k4.nb E1.out)
   have c46 : W4.cell? ⟨b6, 0, none⟩ = some v := (cell_of_block E14.out).trans rfl
   have E24 := qq (z07 E2.out k4 (fun _ _ e => e))
   have KW4 := qq k4
   clear k4 c2 PA HI
   have hsg : pn (fl L1.name ByteArray.empty) nm = sgn L1.name nm := rfl
   rw [hsg]
   have hsplit : segL L1.name L1.first (ns.take (i + 1)) = segL L1.name L1.first (ns.take i) ++ (if L1.first <= sgn L1.name nm then [sgn L1.name nm] else []) := by
    have hil := (List.getElem?_eq_some_iff.1 HNS.out).1
    rw [List.take_succ_eq_append_getElem hil, (List.getElem?_eq_some_iff.1 HNS.out).2]
    unfold segL
    rw [List.map_append, List.filter_append]
    by_cases hle : L1.first <= sgn L1.name nm <;> simp [hle]
   have HSP := qq hsplit
   clear hsplit hsg
   obtain ⟨n, hn⟩ : ∃ n, sgn L1.name nm = n := ⟨_, rfl⟩
   rw [hn] at HSP ⊢
   clear hn
   have c43' : Hid (W4.cell? ⟨b2, 0, none⟩ = some (.pointer (some ⟨l, 0, none⟩))) := qq c4
   by_cases hle : L1.first <= n
   ·
    rw [if_pos hle] at HSP
    go_wp2
    repeat (first | (with_reducible refine zg ?_) | (with_reducible refine stop_range ?_) | gi_step)
    refine za (zi (by kernel_rfl) (by rintro ⟨_, _, h⟩; exact h) ?_)
    go_wp2
    repeat (first | (with_reducible refine zg ?_) | (with_reducible refine stop_range ?_) | gi_step)
    refine za (zi (by kernel_rfl) (by rintro ⟨_, _, h⟩; exact h) ?_)
    go_wp2_with (first | go_skip | (with_reducible refine qv (by decide) ?_))
    refine za (zj rfl (zl el35 [.int .i64 n] rfl (by simp [List.range'_succ]; first | done | rfl | exact ⟨rfl, rfl⟩ | exact ⟨rfl, rfl, rfl⟩ | exact ⟨rfl, rfl, rfl, rfl⟩ | exact ⟨rfl, rfl, rfl, rfl, rfl⟩ | exact ⟨rfl, rfl, rfl, rfl, rfl, rfl⟩) (by simp [Value.cells]) (by simp)) ?_)
    rintro _ W5 ⟨g8, rfl, n8⟩
    simp only [Nat.reduceAdd, qn]
    have HH8 : Hid (Has W5 (some ⟨g8, 0, none⟩) [.int .i64 n]) := qq (zt n8.blk)
    have K5 := qq n8.k
    have O5 := qq (z07 E24.out K5.out (fun _ _ e => e))
    have zk : (segL L1.name L1.first (ns.take i)).length <= 1000000 := by
     have h1 : (segL L1.name L1.first (ns.take i)).length <= (ns.take i).length := by unfold segL; exact Nat.le_trans (List.length_filter_le _ _) (by simp)
     have h2 := HPM.out.length_eq
     have h3 := H.out.disk.nums.nf
     simp at h1 h2; omega
    clear n8
    go_wp2_with (first | go_skip | (with_reducible refine qv (by decide) ?_))
    refine za (zj rfl (zdh (base := w6.heap.size + 2) el35 O5.out (by rfl) (by rfl) HH8.out rfl (by intro u hu; rw [List.mem_singleton.1 hu]; rfl) (by unfold maxLen; omega) (by omega) (by have := KW4.out.size; have := K5.out.size; omega)) ?_)
    rintro v2 W6 ⟨o6, g6⟩
    simp only [Nat.reduceAdd, qn]
    obtain ⟨a6, c6, rfl, -, -, -, -⟩ := z05 o6
    have hob : ∀ k, v.ownBlock = some k -> w6.heap.size + 2 <= k := fun k e => by
     rcases E2.out.2 with ⟨e2, -⟩ | ⟨g, cap, cur, e2, hg, -⟩
     ·
      rw [e2] at e; simp [Value.ownBlock] at e
     ·
      rw [e2] at e; simp only [Value.ownBlock, Option.some.injEq] at e; omega
    have kk6 : Keeps (fun k => w6.heap.size + 2 <= k) W5 W6 := (Keeps.refl _ W5).grown g6 (fun k hk _ => hob k hk)
    have b66 : W6.heap[b6]? = some (.cells #[v] 35 (0, 0)) := kk6.at (K5.out.nb E14.out) (fun e => by have := G6.out; omega)
    have kf6 : Keeps (fun b => (w6.heap.size <= b \/ b = b6) /\ ¬ Book w6 b) W3 W6 := ((KW4.out.trans_nb K5.out).of_nb).trans kk6 (fun j _ e => ⟨.inl (by omega), fun h => by unfold Book at h; omega⟩)
    have O6 := qq o6
    clear kk6 g6 o6
    go_wp2_with (first | go_skip | (with_reducible refine qv (by decide) ?_))
    refine za (zc rfl (zd (v := .slice a6 ((segL L1.name L1.first (ns.take i)).length + 1) c6) (n := 1) (by kernel_rfl) (by rfl) (by rfl) b66 (by rfl) (by simp [Value.cells]) (by simp [Value.cells, Value.oneCell'])) ?_)
    intro W7 s7
    simp only [Nat.reduceAdd, qn]
    refine wpList_nil ?_
    have hk7 : b6 < w6.heap.size := by have := G6.out; omega
    have kf : Keeps (fun b => (w6.heap.size <= b \/ b = b6) /\ ¬ Book w6 b) W3 W7 := kf6.trans s7.k (fun j _ e => by have h1 : j = b6 := e; subst h1; exact ⟨.inr rfl, by unfold Book; omega⟩)
    refine ⟨kf, _, s7.blk, ?_, KW3.out.trans kf (fun j _ e => e.1)⟩
    rw [HSP.out, List.length_append, List.map_append]
    exact z07 O6.out s7.k (fun j hj e => by have h1 : j = b6 := e; omega)
   ·
    rw [if_neg hle, List.append_nil] at HSP
    go_wp2
    repeat (first | (with_reducible refine zg ?_) | (with_reducible refine stop_range ?_) | gi_step)
    refine za (zi (by kernel_rfl) (by rintro ⟨_, _, h⟩; exact h) ?_)
    go_wp2
    gi_wp2
    have kf : Keeps (fun b => (w6.heap.size <= b \/ b = b6) /\ ¬ Book w6 b) W3 W4 := KW4.out.of_nb
    refine ⟨kf, v, E14.out, ?_, KW3.out.trans kf (fun j _ e => e.1)⟩
    rw [HSP.out]
    exact E24.out
  ·
   rintro W ⟨nv, en1, en2, en3⟩ hD
   rw [HLEN.out, List.take_length] at en2
   obtain ⟨nums, hnums⟩ : ∃ q, segL L1.name L1.first ns = q := ⟨_, rfl⟩
   rw [hnums] at en2
   have hn6 : nums.length <= 1000000 := by
    have h1 : (segL L1.name L1.first ns).length <= ns.length := by unfold segL; exact Nat.le_trans (List.length_filter_le _ _) (by simp)
    have h2 := HPM.out.length_eq
    have h3 := H.out.disk.nums.nf
    rw [hnums] at h1; simp at h2; omega
   have hnb : ∀ n ∈ nums, n <= mxn := fun n hn => by
    rw [<- hnums] at hn
    obtain ⟨q, -, rfl⟩ := List.mem_map.1 (List.mem_filter.1 hn).1
    by_cases h0 : sgn L1.name q = 0
    ·
     rw [h0]; exact Nat.zero_le _
    ·
     exact (z3a h0).2.2
   have hsegs : ∀ ms : List Nat, ms.Perm nums -> ms.Pairwise (· <= ·) -> SegsOf L1.name L1.first X ms := fun ms h1 h2 => ⟨h2, by
    rw [<- hnums] at h1
    exact h1.trans ((HPM.out.map _).filter _)⟩
   have HSEG := qq hsegs; have HN6 := qq hn6; have HNB := qq hnb
   clear hnums hn6 hnb hsegs
   obtain ⟨an, cn, rfl, hcn1, hcn2, -, han⟩ := z05 en2
   obtain ⟨m, hm⟩ : ∃ m, nums.length = m := ⟨_, rfl⟩
   have ltA : Hid (∀ k, (Fd k \/ Rd k \/ FL1 k \/ RL1 k) -> k < w1.heap.size) := qq (fun k e => e.elim (HA.out.disk.ltF k) fun e => e.elim (HA.out.disk.ltR k) fun e => e.elim (HA.out.ltF k) (HA.out.ltR k))
   have HW : Hid (LgAt W l d Fd Rd FL1 RL1 L1 X) := qq ((HA.out.nb (KB.out.trans_nb K6.out)).keeps en3 (fun k hk e => by have := ltA.out k (.inl hk); have := G6.out; omega) (fun k hk e => by have := ltA.out k (.inr (.inl hk)); have := G6.out; omega) (fun k hk e => by have := ltA.out k (.inr (.inr (.inl hk))); have := G6.out; omega) (fun k hk e => by have := ltA.out k (.inr (.inr (.inr hk))); have := G6.out; omega))
   have SO := qq (zb3 _ nums (w6.heap.size + 2) W en2 HN6.out)
   have c6 : W.cell? ⟨b6, 0, none⟩ = some (.slice an nums.length cn) := (cell_of_block en1).trans rfl
   have EN1 := qq en1; have EN3 := qq en3; have HD := qq hD
   clear en1 en2 en3 hD han
   have HM := qq hm
   rw [hm] at SO c6 HN6 EN1
   clear hm
   go_wp2_with fail
   refine SO.out.mono ?_
   rintro _ W1 ⟨rfl, ⟨ms, hperm, hsort, ho⟩, k1⟩
   have KS : Hid (Keeps (fun k => w6.heap.size + 2 <= k) W W1) := qq (k1.mono (fun k _ e => by
    have e : (Value.slice an m cn).ownBlock = some k := e
    rcases ho.2 with ⟨e2, -⟩ | ⟨g, cap, cur, e2, hg, -⟩
    ·
     rw [e2] at e; simp [Value.ownBlock] at e
    ·
     rw [e2] at e; simp only [Value.ownBlock, Option.some.injEq] at e; omega))
   have hml : ms.length = m := by rw [hperm.length_eq]; exact HM.out
   have HSG := qq (HSEG.out ms hperm hsort)
   have HMB : Hid (∀ n ∈ ms, n <= mxn) := qq (fun n hn => HNB.out n (hperm.mem_iff.1 hn))
   have HML := qq hml
   obtain ⟨a', c', ea, -, -, hhas, hbl⟩ := z05 ho
   cases ea
   have HHAS := qq hhas
   have HBL : Hid (∀ b off, an = some ⟨b, off, none⟩ -> w6.heap.size + 2 <= b) := qq (fun b off e => (hbl b off e).2.2.1)
   have hzs : w6.heap.size < W.heap.size := lt_of_block HD.out
   have B61 := qq (KS.out.at EN1.out (fun e => by have := G6.out; omega))
   have HD1 := qq (KS.out.at HD.out (fun e => by omega))
   have B21 := qq (KS.out.at (EN3.out.at (K6.out.nb B2B.out) (fun e => by have := G2.out; have := G6.out; omega)) (fun e => by have := G2.out; have := G6.out; omega))
   have HW1 : Hid (LgAt W1 l d Fd Rd FL1 RL1 L1 X) := qq (HW.out.keeps KS.out (fun k hk e => by have := ltA.out k (.inl hk); have := G6.out; omega) (fun k hk e => by have := ltA.out k (.inr (.inl hk)); have := G6.out; omega) (fun k hk e => by have := ltA.out k (.inr (.inr (.inl hk))); have := G6.out; omega) (fun k hk e => by have := ltA.out k (.inr (.inr (.inr hk))); have := G6.out; omega))
   have HV1 : Hid (Vars W1) := qq ((HV6.out.keeps EN3.out (fun k hk e => by have := h6.out; have := G2.out; have := G6.out; omega)).keeps KS.out (fun k hk e => by have := h6.out; have := G2.out; have := G6.out; omega))
   have KW1 : Hid (Keeps FL w W1) := qq (((((K1.out.of_nb).trans KA.out (fun _ _ e => e)).trans_nb (KB.out.trans_nb K6.out)).trans EN3.out (fun j hj e => by have := G2.out; have := G6.out; omega)).trans KS.out (fun j hj e => by have := G2.out; have := G6.out; omega))
   have hF2 : ¬ FL1 b2 := fun e => (HFL1.out b2 e).elim (fun e => by have := H.out.ltF b2 e; have := G2.out; omega) (fun e => by have := G2.out; omega)
   have hF6 : ¬ FL1 b6 := fun e => by have := ltA.out b6 (.inr (.inr (.inl e))); have := G6.out; omega
   have hzw : w1.heap.size <= W1.heap.size /\ w6.heap.size < W1.heap.size := by have := KS.out.size; have := G6.out; omega
   have HF := qq (And.intro hF2 hF6); have HZW := qq hzw
   clear SO k1 hperm hsort ho hml hhas hbl c6 hF2 hF6 hzw
   have c61 : W1.cell? ⟨b6, 0, none⟩ = some (.slice an m cn) := (cell_of_block B61.out).trans rfl
   go_wp2
   go_loopw [9, 62] (fun ev iv wr => ∃ k Lk en, k <= m /\ ev = .int .i64 (en : Nat) /\ iv = .int .i64 (k : Nat) /\ ReadI X ms W1 l d Fd Rd FL1 RL1 L1 k Lk en wr) (fun _ iv _ => m - (intOf iv).toNat)
   case atStart => exact ⟨0, L1, 0, Nat.zero_le _, rfl, rfl, LUp.of HW1.out (Keeps.refl _ _), rfl, rfl, by rw [HRC.out]; simp⟩
   case round =>
    obtain ⟨k, Lk, en, hk, rfl, rfl, hup, hrd, hkn, hkr⟩ := hrel
    obtain ⟨FLk, RLk, hlk, hFk, hRk, kk⟩ := hup
    have HLK := qq hlk; have HFK := qq hFk; have HRK := qq hRk; have KK := qq kk; have HRD := qq hrd; have HKN := qq hkn; have HKR := qq hkr
    clear hlk hFk hRk kk hrd hkn hkr
    have B2r := qq (KK.out.at B21.out HF.out.1)
    have B6r := qq (KK.out.at B61.out HF.out.2)
    have HDr := qq (KK.out.at HD1.out (fun e => by have := ltA.out _ (.inr (.inr (.inl e))); have := G6.out; omega))
    have HVr : Hid (Vars wr) := qq (HV1.out.keeps KK.out (fun k hk e => by have := HW1.out.low k (.inr e); omega))
    have KWr : Hid (Keeps FL w wr) := qq (KW1.out.trans KK.out (fun j hj e => (HFL1.out j e).elim id (fun e => by have := G2.out; omega)))
    have c2 : wr.cell? ⟨b2, 0, none⟩ = some (.pointer (some ⟨l, 0, none⟩)) := (cell_of_block B2r.out).trans rfl
    have c6 : wr.cell? ⟨b6, 0, none⟩ = some (.slice an m cn) := (cell_of_block B6r.out).trans rfl
    by_cases hlt : k < m
    ·
     have HLT := qq hlt
     have i1 : (k : Int) < (m : Int) := by omega
     obtain ⟨n, rest, hdr⟩ : ∃ n rest, ms.drop k = n :: rest := ⟨ms[k]'(by rw [HML.out]; exact hlt), _, List.drop_eq_getElem_cons (by rw [HML.out]; exact hlt)⟩
     have hnk : ms[k]? = some n := by have h := congrArg (·[0]?) hdr; simpa using h
     obtain ⟨g, off, rfl, hck⟩ : ∃ b off, an = some ⟨b, off, none⟩ /\ wr.cell? ⟨b, off + k, none⟩ = some (.int .i64 (n : Nat)) := by
      rcases HHAS.out.keeps KK.out (fun b off e _ h => by have := HBL.out b off e; have := ltA.out b (.inr (.inr (.inl h))); have := G6.out; omega) with h | ⟨b, off, h, hc⟩
      ·
       have : ms = [] := List.map_eq_nil_iff.1 h
       rw [this] at hnk; cases hnk
      ·
       exact ⟨b, off, h, hc k _ (by rw [List.getElem?_map, hnk]; rfl)⟩
     have hnm : n <= mxn := HMB.out n (List.mem_of_getElem? hnk)
     have HDR := qq hdr; have HNK := qq hnk
     have hrest : (rest = [] ↔ k + 1 = m) := by
      have := congrArg List.length hdr
      rw [List.length_drop, HML.out, List.length_cons] at this
      rw [<- List.length_eq_zero_iff]; omega
     have HRS := qq hrest
     obtain ⟨sv3, lv3, vs3, q1, q2, q3, q4⟩ := HLK.out.ex
     have Q1 := qq q1; have Q3 := qq q3; have Q4 := qq q4; have Q2 := qq q2
     clear hdr hnk hrest q1 q2 q3 q4
     go_wp2
     refine WT.region (fun u => u.cell? ⟨b2, 0, none⟩ = some (.pointer (some ⟨l, 0, none⟩)) /\ u.cell? ⟨l, 0, none⟩ = some (.pointer (some ⟨d, 0, none⟩))) 12 13 [0, 1, 2, 3, 4, 5, 6, 7, 8, 9, 10, 11, 12] (by kernel_rfl) rfl ?_
     have HS : Hid ((fun u : World => u.cell? ⟨b2, 0, none⟩ = some (.pointer (some ⟨l, 0, none⟩)) /\ u.cell? ⟨l, 0, none⟩ = some (.pointer (some ⟨d, 0, none⟩))) wr.drew) := qq ⟨c2, (cell_of_block (w := wr.drew) Q1.out).trans rfl⟩
     have SA := qq (z0n l Lk.name n wr.drew (HVr.out.nb ((Keeps.refl Nb wr).drew)) ((cell_of_block (w := wr.drew) Q1.out).trans rfl) (by have := HLK.out.nums.n16; omega) (by unfold mxn at hnm; omega))
     refine WT.t 0 (v := .pointer (some ⟨l, 0, none⟩)) (y := by rintro w ⟨C1, C2⟩; exact zb (by kernel_rfl) (by rfl) C1) (s := HS.out) (h := ?_)
     refine WT.t 1 (v := _) (y := by rintro w ⟨C1, C2⟩; go_simp; with_reducible rfl) (s := HS.out) (h := ?_)
     refine WT.t 2 (v := _) (y := by rintro w ⟨C1, C2⟩; go_simp; with_reducible rfl) (s := HS.out) (h := ?_)
     refine WT.t 3 (v := .pointer (some ⟨d, 0, none⟩)) (y := by rintro w ⟨C1, C2⟩; exact zb (by kernel_rfl) (by rfl) C2) (s := HS.out) (h := ?_)
     refine WT.t 4 (v := .pointer (some ⟨l, 0, none⟩)) (y := by rintro w ⟨C1, C2⟩; exact zb (by kernel_rfl) (by rfl) C1) (s := HS.out) (h := ?_)
     refine WT.t 5 (v := _) (y := by rintro w ⟨C1, C2⟩; go_simp; with_reducible rfl) (s := HS.out) (h := ?_)
     refine WT.call 6 (by simp only [qi]; rfl) (by kernel_rfl) (by rfl) (by go_simp; first | done | rfl | exact ⟨⟨rfl, rfl⟩, rfl⟩ | exact ⟨⟨rfl, rfl, rfl⟩, rfl⟩) SA.out ?_
     rintro _ wa ⟨rfl, ka⟩
     have KA2 : Hid (Keeps Nb wr wa) := qq (((Keeps.refl Nb wr).drew).trans_nb ka)
     clear ka SA
     replace HS : Hid ((fun u : World => u.cell? ⟨b2, 0, none⟩ = some (.pointer (some ⟨l, 0, none⟩)) /\ u.cell? ⟨l, 0, none⟩ = some (.pointer (some ⟨d, 0, none⟩))) wa) := qq ⟨(cell_of_block (KA2.out.nb B2r.out)).trans rfl, (cell_of_block (KA2.out.nb Q1.out)).trans rfl⟩
     refine ⟨_, rfl, HS.out, ?_⟩
     simp only [Nat.reduceAdd, qn]
     have RA := qq (z5l d (sgf Lk.name n) X.D Fd Rd X.fc wa (HLK.out.disk.nb KA2.out) (by have := z0x (z0o HLK.out.nums.name HLK.out.nums.n16 hnm); unfold maxLen; omega))
     have hrf := z15 HLK.out.disk (sgf Lk.name n)
     have HRF := qq hrf
     clear hrf
     generalize hro : readOf X.D X.fc (sgf Lk.name n) = ro at RA HRF
     obtain ⟨bs, er⟩ := ro
     have HRO := qq hro
     clear hro
     refine WT.call 7 (by simp only [qi]; rfl) (by kernel_rfl) (by rfl) (by go_simp; first | done | rfl | exact ⟨⟨rfl, rfl⟩, rfl⟩ | exact ⟨⟨rfl, rfl, rfl⟩, rfl⟩) RA.out ?_
     rintro _ wb ⟨bv, rfl, hbv, kb⟩
     have HBV : Hid (Bytes wb (SinceB wa wb) bv bs) := qq (z0l hbv HRF.out.2)
     have KB2 : Hid (Keeps Nb wr wb) := qq (KA2.out.trans_nb kb)
     clear hbv kb RA
     replace HS : Hid ((fun u : World => u.cell? ⟨b2, 0, none⟩ = some (.pointer (some ⟨l, 0, none⟩)) /\ u.cell? ⟨l, 0, none⟩ = some (.pointer (some ⟨d, 0, none⟩))) wb) := qq ⟨(cell_of_block (KB2.out.nb B2r.out)).trans rfl, (cell_of_block (KB2.out.nb Q1.out)).trans rfl⟩
     refine ⟨_, rfl, HS.out, ?_⟩
     simp only [Nat.reduceAdd, qn]
     refine WT.t 8 (v := _) (y := by rintro w ⟨C1, C2⟩; go_simp; with_reducible rfl) (s := HS.out) (h := ?_)
     refine WT.t 9 (v := _) (y := by rintro w ⟨C1, C2⟩; go_simp; with_reducible rfl) (s := HS.out) (h := ?_)
     refine WT.t 10 (v := _) (y := by rintro w ⟨C1, C2⟩; go_simp; with_reducible rfl) (s := HS.out) (h := ?_)
     refine WT.t 11 (v := _) (y := by rintro w ⟨C1, C2⟩; go_simp; with_reducible rfl) (s := HS.out) (h := ?_)
     refine WT.stop (by kernel_rfl) ?_
     refine WP.o 12 (v := _) (y := by go_simp; first | with_reducible rfl | exact ⟨rfl, rfl⟩) (h := ?_)
     refine WP.done (by kernel_rfl) ?_
     obtain ⟨bva, bvc, rfl, -⟩ := id HBV.out
     have WA := qq (z65 _ bs _ wb HBV.out (fun _ e => e.1.2) HRF.out.1)
     clear HS hck c6
     go_wp2_with fail
     refine WA.out.mono ?_
     rintro _ wq ⟨lv4, vs4, rfl, r4, bl4, k4⟩
     have hrw := z4e HRF.out.2
     have hil := z3e (bs.length + 1) 0 bs
     have hwl : (whole bs).1.length <= 2097153 := by
      have h1 : (whole bs).1.length <= (items (bs.length + 1) 0 bs).length := by unfold whole wholeI good; simp only [List.length_map]; exact (List.takeWhile_sublist _).length_le
      have := HRF.out.1
      omega
     generalize hwo : whole bs = wo at r4 bl4 hrw hwl ⊢
     obtain ⟨rs, wn, rt⟩ := wo
     simp only at r4 bl4 hrw hwl ⊢
     obtain ⟨p1, p2, a4', c4', rfl, p4, p5, p6, p7, p8⟩ := id r4
     have R4 := qq r4; have BL4 := qq bl4; have HRW := qq hrw; have HWL := qq hwl; have HWO := qq hwo
     have K4 : Hid (Keeps Nb wb wq) := qq k4
     have KQ : Hid (Keeps Nb wr wq) := qq (KB2.out.trans_nb k4)
     obtain ⟨q, hq⟩ : ∃ q, bs.length = q := ⟨_, rfl⟩
     obtain ⟨r4n, hr4n⟩ : ∃ q, rs.length = q := ⟨_, rfl⟩
     have HQ := qq hq; have HR4 := qq hr4n
     rw [hq, hr4n]
     have hstep : rdl X ms L1 0 = if rt = true /\ (q <= wn \/ rest = []) then rdl X rest { Lk with recs := Lk.recs ++ rs, segment := n, size := q } wn else none := by
      rw [HRD.out, HDR.out, z5x, HRO.out]
      simp only
      rw [hwo]
      simp only
      rw [hq]
     have HST := qq hstep
     have HDq := qq (KQ.out.nb HDr.out)
     have c2q : wq.cell? ⟨b2, 0, none⟩ = some (.pointer (some ⟨l, 0, none⟩)) := (cell_of_block (KQ.out.nb B2r.out)).trans rfl
     have c6q : wq.cell? ⟨b6, 0, none⟩ = some (.slice (some ⟨g, off, none⟩) m cn) := (cell_of_block (KQ.out.nb B6r.out)).trans rfl
     have iw : IntKind.i64.wrap ((m : Int) - 1) = (m : Int) - 1 := IntWalk.i64_in _ (by have := HN6.out; omega)
     have hbad : ¬ (rt = true /\ (q <= wn \/ rest = [])) -> readR X L s none := fun hb => by
      unfold readR
      rw [HSN.out]
      exact ⟨ms, HSG.out, by rw [hstep, if_neg hb]; split <;> rfl⟩
     have HBAD := qq hbad
     have HRS2 := qq (HRS.out)
     clear hwo p1 p2 p4 p5 p6 p7 p8 r4 bl4 hrw hwl hil k4 hq hr4n hstep hbad WA c2
     cases rt
     ·
      have HB := qq (HBAD.out (fun e => by simp at e))
      go_wp2
      have kp := zv wq w6.heap.size (.deferred none)
      have hle6 : w.heap.size <= w6.heap.size := by have := G2.out; have := G6.out; omega
      have KF : Hid (Keeps FL w (wq.putObj w6.heap.size (.deferred none))) := qq ((KWr.out.trans_nb KQ.out).trans kp (fun j hj e => by have : j = w6.heap.size := e; omega))
      have DF : Hid (DiskAt (wq.putObj w6.heap.size (.deferred none)) d Fd Rd X.D X.fc) := qq ((HLK.out.disk.nb KQ.out).keeps kp (fun j hj e => by have : j = w6.heap.size := e; have := H.out.disk.ltF j hj; omega) (fun j hj e => by have : j = w6.heap.size := e; have := H.out.disk.ltR j hj; omega))
      refine ⟨by simp, .inl ⟨_, _, rfl, run_takeDeferred HDq.out, ?_⟩⟩
      exact ⟨.tuple #[.int .i64 0, .int .i64 10], by simp [results, Tryz.f59, go_sem], none, HB.out, rfl, DF.out, KF.out⟩
     ·
      rcases Nat.lt_or_ge wn q with hwq | hwq
      ·
       rcases Nat.lt_or_ge (k + 1) m with hkm | hkm
       ·
        have HB := qq (HBAD.out (fun e => e.2.elim (fun e => by omega) (fun e => by have := HRS2.out.1 e; omega)))
        have t1 : decide ((k : Int) < (m : Int) - 1) = true := by simp; omega
        have t2 : (k : Int) < (m : Int) - 1 := by omega
        clear hkm
        go_wp2
        have kp := zv wq w6.heap.size (.deferred none)
        have hle6 : w.heap.size <= w6.heap.size := by have := G2.out; have := G6.out; omega
        have KF : Hid (Keeps FL w (wq.putObj w6.heap.size (.deferred none))) := qq ((KWr.out.trans_nb KQ.out).trans kp (fun j hj e => by have : j = w6.heap.size := e; omega))
        have DF : Hid (DiskAt (wq.putObj w6.heap.size (.deferred none)) d Fd Rd X.D X.fc) := qq ((HLK.out.disk.nb KQ.out).keeps kp (fun j hj e => by have : j = w6.heap.size := e; have := H.out.disk.ltF j hj; omega) (fun j hj e => by have : j = w6.heap.size := e; have := H.out.disk.ltR j hj; omega))
        refine ⟨by simp, .inl ⟨_, _, rfl, run_takeDeferred HDq.out, ?_⟩⟩
        exact ⟨.tuple #[.int .i64 0, .int .i64 10], by simp [results, Tryz.f59, go_sem], none, HB.out, rfl, DF.out, KF.out⟩
       ·
        have t1 : ¬ ((k : Int) < (m : Int) - 1) := by omega
        have HOK : Hid (rdl X ms L1 0 = rdl X (ms.drop (k + 1)) { Lk with recs := Lk.recs ++ rs, segment := n, size := q } wn) := qq (by
         have hr : rest = [] := HRS2.out.2 (by omega)
         rw [HST.out, if_pos ⟨rfl, .inr hr⟩]
         have := congrArg (List.drop 1) HDR.out
         rw [List.drop_drop] at this
         simp at this
         rw [this])
        clear hkm
        have c9 : wq.cell? ⟨l, 9, none⟩ = some lv3 := (cell_of_block (KQ.out.nb Q1.out)).trans rfl
        have HLQ := qq (HLK.out.nb KQ.out)
        have R3 := qq (Q3.out.keeps KQ.out (fun _ _ _ e => e))
        obtain ⟨-, p2, a4, c4, ea, p4, p5, p6, p7, p8⟩ := id R4.out
        cases ea
        have HAS4 := qq p6; have ONE4 := qq p2
        have hvl : vs4.length = r4n := by rw [BL4.out.1]; exact HR4.out
        have HVL := qq hvl
        obtain ⟨lk, hlk⟩ : ∃ q, Lk.recs.length = q := ⟨_, rfl⟩
        have HLKN := qq hlk
        rw [hlk] at R3
        have hkr : lk <= 2097153000000 := by have h1 := HKR.out; rw [hlk] at h1; have := HN6.out; omega
        have hwl : r4n <= 2097153 := by have := HWL.out; have := HR4.out; omega
        clear p2 p4 p5 p6 p7 p8 hvl hlk
        go_wp2
        clear c6q
        refine WT.region (fun u => u.cell? ⟨b2, 0, none⟩ = some (.pointer (some ⟨l, 0, none⟩)) /\ u.cell? ⟨l, 9, none⟩ = some lv3) 7 10 [0, 1, 2, 3, 4, 5, 6, 7, 8, 9] (by kernel_rfl) rfl ?_
        have HS : Hid ((fun u : World => u.cell? ⟨b2, 0, none⟩ = some (.pointer (some ⟨l, 0, none⟩)) /\ u.cell? ⟨l, 9, none⟩ = some lv3) wq.drew) := qq ⟨c2q, c9⟩
        refine WT.t 0 (v := .pointer (some ⟨l, 0, none⟩)) (y := by rintro w ⟨C1, C2⟩; exact zb (by kernel_rfl) (by rfl) C1) (s := HS.out) (h := ?_)
        refine WT.t 1 (v := .pointer (some ⟨l, 0, none⟩)) (y := by rintro w ⟨C1, C2⟩; exact zb (by kernel_rfl) (by rfl) C1) (s := HS.out) (h := ?_)
        refine WT.t 2 (v := _) (y := by rintro w ⟨C1, C2⟩; go_simp; with_reducible rfl) (s := HS.out) (h := ?_)
        refine WT.t 3 (v := _) (y := by rintro w ⟨C1, C2⟩; go_simp; with_reducible rfl) (s := HS.out) (h := ?_)
        refine WT.t 4 (v := lv3) (y := by rintro w ⟨C1, C2⟩; exact zb (by kernel_rfl) (by rfl) C2) (s := HS.out) (h := ?_)
        refine WT.t 5 (v := _) (y := by rintro w ⟨C1, C2⟩; go_simp; with_reducible rfl) (s := HS.out) (h := ?_)
        refine WT.o 6 (y := re_push' el27 (R3.out.keeps ((Keeps.refl Nb wq).drew) (fun _ _ _ e => e)) (by rfl) (by rfl) (HAS4.out.nb ((Keeps.refl Nb wq).drew)) (by rw [HVL.out]; omega) ONE4.out (by unfold maxLen; omega) (by omega)) (h := ?_)
        rintro lv5 w7 ⟨r5, S5, k5, hS5⟩
        simp only [Nat.reduceAdd, qn]
        have kq7 : Keeps S5 wq w7 := ((Keeps.refl Nb wq).drew.of_nb).trans k5 (fun _ _ e => e)
        have hS5' : ∀ k, S5 k -> FLk k /\ IsT wq 22 k := hS5
        have hnb2 : ¬ S5 b2 := fun e => (HFK.out b2 (hS5' b2 e).1).elim HF.out.1 (fun e => by have := G2.out; have := HZW.out; omega)
        have hnl : ¬ S5 l := fun e => by have := (hS5' l e).2; exact (this.ne ⟨_, _, KQ.out.nb Q1.out⟩ (by decide)) rfl
        have B27 := qq (kq7.at (KQ.out.nb B2r.out) hnb2)
        have Q17 := qq (kq7.at (KQ.out.nb Q1.out) hnl)
        have KQ7 := qq kq7; have HS5 := qq hS5'
        have R5 : Hid (RowS w7 (Up FLk wq.drew w7) (fun _ => False) 22 1 lv5 (lk + r4n) (vs3 ++ vs4)) := qq r5
        obtain ⟨-, -, a5, c5', rfl, -⟩ := id r5
        clear kq7 hS5' hnb2 hnl r5 k5 hS5
        replace HS : Hid ((fun u : World => u.cell? ⟨b2, 0, none⟩ = some (.pointer (some ⟨l, 0, none⟩)) /\ u.cell? ⟨l, 9, none⟩ = some lv3) w7) := qq ⟨(cell_of_block B27.out).trans rfl, (cell_of_block Q17.out).trans rfl⟩
        refine ⟨HS.out, ?_⟩
        refine WT.stop (by kernel_rfl) ?_
        refine WP.o 7 (v := _) (y := by go_simp; first | with_reducible rfl | exact ⟨rfl, rfl⟩) (h := ?_)
        refine WP.o 8 (v := _) (y := by go_simp; first | with_reducible rfl | exact ⟨rfl, rfl⟩) (h := ?_)
        refine WP.onlySkipE 9 (by simp only [qi]; rfl) (by kernel_rfl) (by rfl) (zd (v := .slice a5 (lk + r4n) c5') (n := 1) (by kernel_rfl) (by rfl) (by rfl) Q17.out (by rfl) (by simp [Value.cells, lcs]) (by simp [Value.cells, Value.oneCell'])) ?_
        intro w8 s8
        simp only [Nat.reduceAdd, qn]
        refine WP.done (by kernel_rfl) ?_
        have B28 := qq (s8.k.at B27.out (fun e => hb2l e))
        have S8 : Hid (SetAt w7 w8 l (.cells (lcs d sv3 (.slice a5 (lk + r4n) c5') Lk) 78 (0, 0))) := qq ⟨s8.blk, s8.k⟩
        have c28 : w8.cell? ⟨b2, 0, none⟩ = some (.pointer (some ⟨l, 0, none⟩)) := (cell_of_block B28.out).trans rfl
        clear s8 HS c2q c9
        go_wp2
        refine WT.region (fun u => u.cell? ⟨b2, 0, none⟩ = some (.pointer (some ⟨l, 0, none⟩))) 12 13 [0, 1, 2, 3, 4, 5, 6, 7, 8, 9, 10, 11, 12] (by kernel_rfl) rfl ?_
        have HS : Hid ((fun u : World => u.cell? ⟨b2, 0, none⟩ = some (.pointer (some ⟨l, 0, none⟩))) w8.drew) := qq c28
        refine WT.t 0 (v := .pointer (some ⟨l, 0, none⟩)) (y := by rintro w C1; exact zb (by kernel_rfl) (by rfl) C1) (s := HS.out) (h := ?_)
        refine WT.t 1 (v := .pointer (some ⟨l, 0, none⟩)) (y := by rintro w C1; exact zb (by kernel_rfl) (by rfl) C1) (s := HS.out) (h := ?_)
        refine WT.t 2 (v := _) (y := by rintro w C1; go_simp; with_reducible rfl) (s := HS.out) (h := ?_)
        refine WT.t 3 (v := _) (y := by rintro w C1; go_simp; with_reducible rfl) (s := HS.out) (h := ?_)
        refine WT.t 4 (v := _) (y := by rintro w C1; go_simp; with_reducible rfl) (s := HS.out) (h := ?_)
        refine WT.t 5 (v := _) (y := by rintro w C1; go_simp; with_reducible rfl) (s := HS.out) (h := ?_)
        refine WT.t 6 (v := _) (y := by rintro w C1; go_simp; with_reducible rfl) (s := HS.out) (h := ?_)
        refine WT.t 7 (v := _) (y := by rintro w C1; go_simp; with_reducible rfl) (s := HS.out) (h := ?_)
        refine WT.onlySkipE 8 (by simp only [qi]; rfl) (by kernel_rfl) (by rfl) (zd (w := w8.drew) (v := .int .i64 (n : Nat)) (n := 1) (by kernel_rfl) (by rfl) (by rfl) S8.out.blk (by rfl) (by simp [Value.cells, lcs]) (by simp [Value.cells, Value.oneCell'])) ?_
        intro w9 s9
        have B29 := qq (s9.k.at (w := w8.drew) B28.out (fun e => hb2l e))
        have S9 : Hid (SetAt w7 w9 l (.cells (lcs d sv3 (.slice a5 (lk + r4n) c5') { Lk with segment := n }) 78 (0, 0))) := qq ⟨s9.blk, (S8.out.k.drew).trans s9.k (fun _ _ e => e)⟩
        replace HS : Hid ((fun u : World => u.cell? ⟨b2, 0, none⟩ = some (.pointer (some ⟨l, 0, none⟩))) w9) := qq ((cell_of_block B29.out).trans rfl)
        refine ⟨HS.out, ?_⟩
        simp only [Nat.reduceAdd, qn]
        clear s9
        refine WT.t 9 (v := _) (y := by rintro w C1; go_simp; with_reducible rfl) (s := HS.out) (h := ?_)
        refine WT.t 10 (v := _) (y := by rintro w C1; go_simp; with_reducible rfl) (s := HS.out) (h := ?_)
        refine WT.onlySkipE 11 (by simp only [qi]; rfl) (by kernel_rfl) (by rfl) (zd (v := .int .i64 (q : Nat)) (n := 1) (by kernel_rfl) (by rfl) (by rfl) S9.out.blk (by rfl) (by simp [Value.cells, lcs]) (by simp [Value.cells, Value.oneCell'])) ?_
        intro w10 s10
        have S10 : Hid (SetAt w7 w10 l (.cells (lcs d sv3 (.slice a5 (lk + r4n) c5') { Lk with recs := Lk.recs ++ rs, segment := n, size := q }) 78 (0, 0))) := qq ⟨s10.blk, S9.out.k.trans s10.k (fun _ _ e => e)⟩
        replace HS : Hid ((fun u : World => u.cell? ⟨b2, 0, none⟩ = some (.pointer (some ⟨l, 0, none⟩))) w10) := qq ((cell_of_block (s10.k.at B29.out (fun e => hb2l e))).trans rfl)
        refine ⟨HS.out, ?_⟩
        simp only [Nat.reduceAdd, qn]
        clear s10
        refine WT.stop (by kernel_rfl) ?_
        refine WP.o 12 (v := _) (y := by go_simp; first | with_reducible rfl | exact ⟨rfl, rfl⟩) (h := ?_)
        refine WP.done (by kernel_rfl) ?_
        have hI : ReadI X ms W1 l d Fd Rd FL1 RL1 L1 (k + 1) { Lk with recs := Lk.recs ++ rs, segment := n, size := q } wn w10 := by
         have z1 := KK.out.size; have z2 := KQ.out.size; have z3 := KQ7.out.size; have z4 := KB2.out.size
         have hRS : ∀ k, RLk k -> ¬ S5 k := fun k hk e => (HLK.out.apR k hk).2 (HS5.out k e).1
         have hSB : ∀ k, SinceB wb wq k -> ¬ S5 k := fun k hk e => (hk.2.ne (HS5.out k e).2 (by decide)) rfl
         refine ⟨⟨_, _, LgAt.put (w0 := wr) (vs := vs3 ++ vs4) HLK.out (by omega) ((HLK.out.disk.nb KQ.out).keeps KQ7.out (fun k hk e => (HLK.out.apF k (HS5.out k e).1).1 hk) (fun k hk e => (HLK.out.apF k (HS5.out k e).1).2 hk)) ⟨_, Q17.out⟩ S10.out ?_ (by have := h6.out; have := KWr.out.size; omega) ?_ ?_ ?_ ?_, ?_, ?_, ?_⟩, HOK.out, HKN.out, ?_⟩
         ·
          rintro k (e | e | e | e)
          ·
           exact HLK.out.disk.ltF k e
          ·
           exact HLK.out.disk.ltR k e
          ·
           exact HLK.out.ltF k e
          ·
           exact HLK.out.ltR k e
         ·
          have hh := HLK.out.nums
          exact ⟨hh.name, hh.n16, hh.most, hh.first, (by have := hnm; unfold mxn at this; exact Nat.le_trans this (by decide)), hh.segments, (by have := HRF.out.1; have := HQ.out; show q <= 33554432; omega), hh.recs.append HRW.out, (by show (Lk.recs ++ rs).length <= _; rw [List.length_append, HLKN.out, HR4.out]; omega), hh.snap⟩
         ·
          exact (Q2.out.keeps KQ.out (fun _ _ e => e)).keeps KQ7.out hRS |>.mono (fun k e => .inl e)
         ·
          have e1 : (Lk.recs ++ rs).length = lk + r4n := by rw [List.length_append, HLKN.out, HR4.out]
          show RowS w7 _ _ 22 1 _ (Lk.recs ++ rs).length _
          rw [e1]
          refine R5.out.typed.mono (fun k e => ?_) (fun _ e => e)
          rcases e with ⟨e | e, ht⟩
          ·
           exact .inl e
          ·
           have e1 : wq.heap.size <= k := e.1
           exact .inr ⟨by omega, e.2, ht⟩
         ·
          exact (((Q4.out.keeps KQ.out (fun _ _ e => e)).keeps KQ7.out hRS).mono (fun k e => .inl e)).append ((BL4.out.keeps KQ7.out hSB).mono (fun k e => .inr ⟨by have := e.1.1; omega, by have := e.1.2; omega, e.2.keeps KQ7.out (hSB k e)⟩))
         ·
          rintro k (e | e)
          ·
           exact HFK.out k e
          ·
           exact .inr (by omega)
         ·
          rintro k (e | e)
          ·
           exact HRK.out k e
          ·
           exact .inr (by omega)
         ·
          exact ((KK.out.trans_nb KQ.out).trans KQ7.out (fun j hj e => (HFK.out j (HS5.out j e).1).elim id (fun e => by omega))).trans S10.out.k (fun j hj e => by have e : j = l := e; subst e; exact HW1.out.fl)
         ·
          show (Lk.recs ++ rs).length <= _
          rw [List.length_append, HLKN.out, HR4.out]
          have := HKR.out; rw [HLKN.out] at this; omega
        have HI := qq hI
        clear hI HS c28
        have hk6 : k <= 1000000 := by have := HN6.out; have := HLT.out; omega
        go_wp2
        go_roundw
        case rel => exact ⟨k + 1, _, wn, HLT.out, rfl, by go_num, HI.out⟩
        case measure => have hlt2 := HLT.out; simp [intOf]; omega
      ·
       have HOK : Hid (rdl X ms L1 0 = rdl X (ms.drop (k + 1)) { Lk with recs := Lk.recs ++ rs, segment := n, size := q } wn) := qq (by
        rw [HST.out, if_pos ⟨rfl, .inl hwq⟩]
        have := congrArg (List.drop 1) HDR.out
        rw [List.drop_drop] at this
        simp at this
        rw [this])
       have c9 : wq.cell? ⟨l, 9, none⟩ = some lv3 := (cell_of_block (KQ.out.nb Q1.out)).trans rfl
       have HLQ := qq (HLK.out.nb KQ.out)
       have R3 := qq (Q3.out.keeps KQ.out (fun _ _ _ e => e))
       obtain ⟨-, p2, a4, c4, ea, p4, p5, p6, p7, p8⟩ := id R4.out
       cases ea
       have HAS4 := qq p6; have ONE4 := qq p2
       have hvl : vs4.length = r4n := by rw [BL4.out.1]; exact HR4.out
       have HVL := qq hvl
       obtain ⟨lk, hlk⟩ : ∃ q, Lk.recs.length = q := ⟨_, rfl⟩
       have HLKN := qq hlk
       rw [hlk] at R3
       have hkr : lk <= 2097153000000 := by have h1 := HKR.out; rw [hlk] at h1; have := HN6.out; omega
       have hwl : r4n <= 2097153 := by have := HWL.out; have := HR4.out; omega
       clear p2 p4 p5 p6 p7 p8 hvl hlk
       go_wp2
       clear c6q
       refine WT.region (fun u => u.cell? ⟨b2, 0, none⟩ = some (.pointer (some ⟨l, 0, none⟩)) /\ u.cell? ⟨l, 9, none⟩ = some lv3) 7 10 [0, 1, 2, 3, 4, 5, 6, 7, 8, 9] (by kernel_rfl) rfl ?_
       have HS : Hid ((fun u : World => u.cell? ⟨b2, 0, none⟩ = some (.pointer (some ⟨l, 0, none⟩)) /\ u.cell? ⟨l, 9, none⟩ = some lv3) wq.drew) := qq ⟨c2q, c9⟩
       refine WT.t 0 (v := .pointer (some ⟨l, 0, none⟩)) (y := by rintro w ⟨C1, C2⟩; exact zb (by kernel_rfl) (by rfl) C1) (s := HS.out) (h := ?_)
       refine WT.t 1 (v := .pointer (some ⟨l, 0, none⟩)) (y := by rintro w ⟨C1, C2⟩; exact zb (by kernel_rfl) (by rfl) C1) (s := HS.out) (h := ?_)
       refine WT.t 2 (v := _) (y := by rintro w ⟨C1, C2⟩; go_simp; with_reducible rfl) (s := HS.out) (h := ?_)
       refine WT.t 3 (v := _) (y := by rintro w ⟨C1, C2⟩; go_simp; with_reducible rfl) (s := HS.out) (h := ?_)
       refine WT.t 4 (v := lv3) (y := by rintro w ⟨C1, C2⟩; exact zb (by kernel_rfl) (by rfl) C2) (s := HS.out) (h := ?_)
       refine WT.t 5 (v := _) (y := by rintro w ⟨C1, C2⟩; go_simp; with_reducible rfl) (s := HS.out) (h := ?_)
       refine WT.o 6 (y := re_push' el27 (R3.out.keeps ((Keeps.refl Nb wq).drew) (fun _ _ _ e => e)) (by rfl) (by rfl) (HAS4.out.nb ((Keeps.refl Nb wq).drew)) (by rw [HVL.out]; omega) ONE4.out (by unfold maxLen; omega) (by omega)) (h := ?_)
       rintro lv5 w7 ⟨r5, S5, k5, hS5⟩
       simp only [Nat.reduceAdd, qn]
       have kq7 : Keeps S5 wq w7 := ((Keeps.refl Nb wq).drew.of_nb).trans k5 (fun _ _ e => e)
       have hS5' : ∀ k, S5 k -> FLk k /\ IsT wq 22 k := hS5
       have hnb2 : ¬ S5 b2 := fun e => (HFK.out b2 (hS5' b2 e).1).elim HF.out.1 (fun e => by have := G2.out; have := HZW.out; omega)
       have hnl : ¬ S5 l := fun e => by have := (hS5' l e).2; exact (this.ne ⟨_, _, KQ.out.nb Q1.out⟩ (by decide)) rfl
       have B27 := qq (kq7.at (KQ.out.nb B2r.out) hnb2)
       have Q17 := qq (kq7.at (KQ.out.nb Q1.out) hnl)
       have KQ7 := qq kq7; have HS5 := qq hS5'
       have R5 : Hid (RowS w7 (Up FLk wq.drew w7) (fun _ => False) 22 1 lv5 (lk + r4n) (vs3 ++ vs4)) := qq r5
       obtain ⟨-, -, a5, c5', rfl, -⟩ := id r5
       clear kq7 hS5' hnb2 hnl r5 k5 hS5
       replace HS : Hid ((fun u : World => u.cell? ⟨b2, 0, none⟩ = some (.pointer (some ⟨l, 0, none⟩)) /\ u.cell? ⟨l, 9, none⟩ = some lv3) w7) := qq ⟨(cell_of_block B27.out).trans rfl, (cell_of_block Q17.out).trans rfl⟩
       refine ⟨HS.out, ?_⟩
       refine WT.stop (by kernel_rfl) ?_
       refine WP.o 7 (v := _) (y := by go_simp; first | with_reducible rfl | exact ⟨rfl, rfl⟩) (h := ?_)
       refine WP.o 8 (v := _) (y := by go_simp; first | with_reducible rfl | exact ⟨rfl, rfl⟩) (h := ?_)
       refine WP.onlySkipE 9 (by simp only [qi]; rfl) (by kernel_rfl) (by rfl) (zd (v := .slice a5 (lk + r4n) c5') (n := 1) (by kernel_rfl) (by rfl) (by rfl) Q17.out (by rfl) (by simp [Value.cells, lcs]) (by simp [Value.cells, Value.oneCell'])) ?_
       intro w8 s8
       simp only [Nat.reduceAdd, qn]
       refine WP.done (by kernel_rfl) ?_
       have B28 := qq (s8.k.at B27.out (fun e => hb2l e))
       have S8 : Hid (SetAt w7 w8 l (.cells (lcs d sv3 (.slice a5 (lk + r4n) c5') Lk) 78 (0, 0))) := qq ⟨s8.blk, s8.k⟩
       have c28 : w8.cell? ⟨b2, 0, none⟩ = some (.pointer (some ⟨l, 0, none⟩)) := (cell_of_block B28.out).trans rfl
       clear s8 HS c2q c9
       go_wp2
       refine WT.region (fun u => u.cell? ⟨b2, 0, none⟩ = some (.pointer (some ⟨l, 0, none⟩))) 12 13 [0, 1, 2, 3, 4, 5, 6, 7, 8, 9, 10, 11, 12] (by kernel_rfl) rfl ?_
       have HS : Hid ((fun u : World => u.cell? ⟨b2, 0, none⟩ = some (.pointer (some ⟨l, 0, none⟩))) w8.drew) := qq c28
       refine WT.t 0 (v := .pointer (some ⟨l, 0, none⟩)) (y := by rintro w C1; exact zb (by kernel_rfl) (by rfl) C1) (s := HS.out) (h := ?_)
       refine WT.t 1 (v := .pointer (some ⟨l, 0, none⟩)) (y := by rintro w C1; exact zb (by kernel_rfl) (by rfl) C1) (s := HS.out) (h := ?_)
       refine WT.t 2 (v := _) (y := by rintro w C1; go_simp; with_reducible rfl) (s := HS.out) (h := ?_)
       refine WT.t 3 (v := _) (y := by rintro w C1; go_simp; with_reducible rfl) (s := HS.out) (h := ?_)
       refine WT.t 4 (v := _) (y := by rintro w C1; go_simp; with_reducible rfl) (s := HS.out) (h := ?_)
       refine WT.t 5 (v := _) (y := by rintro w C1; go_simp; with_reducible rfl) (s := HS.out) (h := ?_)
       refine WT.t 6 (v := _) (y := by rintro w C1; go_simp; with_reducible rfl) (s := HS.out) (h := ?_)
       refine WT.t 7 (v := _) (y := by rintro w C1; go_simp; with_reducible rfl) (s := HS.out) (h := ?_)
       refine WT.onlySkipE 8 (by simp only [qi]; rfl) (by kernel_rfl) (by rfl) (zd (w := w8.drew) (v := .int .i64 (n : Nat)) (n := 1) (by kernel_rfl) (by rfl) (by rfl) S8.out.blk (by rfl) (by simp [Value.cells, lcs]) (by simp [Value.cells, Value.oneCell'])) ?_
       intro w9 s9
       have B29 := qq (s9.k.at (w := w8.drew) B28.out (fun e => hb2l e))
       have S9 : Hid (SetAt w7 w9 l (.cells (lcs d sv3 (.slice a5 (lk + r4n) c5') { Lk with segment := n }) 78 (0, 0))) := qq ⟨s9.blk, (S8.out.k.drew).trans s9.k (fun _ _ e => e)⟩
       replace HS : Hid ((fun u : World => u.cell? ⟨b2, 0, none⟩ = some (.pointer (some ⟨l, 0, none⟩))) w9) := qq ((cell_of_block B29.out).trans rfl)
       refine ⟨HS.out, ?_⟩
       simp only [Nat.reduceAdd, qn]
       clear s9
       refine WT.t 9 (v := _) (y := by rintro w C1; go_simp; with_reducible rfl) (s := HS.out) (h := ?_)
       refine WT.t 10 (v := _) (y := by rintro w C1; go_simp; with_reducible rfl) (s := HS.out) (h := ?_)
       refine WT.onlySkipE 11 (by simp only [qi]; rfl) (by kernel_rfl) (by rfl) (zd (v := .int .i64 (q : Nat)) (n := 1) (by kernel_rfl) (by rfl) (by rfl) S9.out.blk (by rfl) (by simp [Value.cells, lcs]) (by simp [Value.cells, Value.oneCell'])) ?_
       intro w10 s10
       have S10 : Hid (SetAt w7 w10 l (.cells (lcs d sv3 (.slice a5 (lk + r4n) c5') { Lk with recs := Lk.recs ++ rs, segment := n, size := q }) 78 (0, 0))) := qq ⟨s10.blk, S9.out.k.trans s10.k (fun _ _ e => e)⟩
       replace HS : Hid ((fun u : World => u.cell? ⟨b2, 0, none⟩ = some (.pointer (some ⟨l, 0, none⟩))) w10) := qq ((cell_of_block (s10.k.at B29.out (fun e => hb2l e))).trans rfl)
       refine ⟨HS.out, ?_⟩
       simp only [Nat.reduceAdd, qn]
       clear s10
       refine WT.stop (by kernel_rfl) ?_
       refine WP.o 12 (v := _) (y := by go_simp; first | with_reducible rfl | exact ⟨rfl, rfl⟩) (h := ?_)
       refine WP.done (by kernel_rfl) ?_
       have hI : ReadI X ms W1 l d Fd Rd FL1 RL1 L1 (k + 1) { Lk with recs := Lk.recs ++ rs, segment := n, size := q } wn w10 := by
        have z1 := KK.out.size; have z2 := KQ.out.size; have z3 := KQ7.out.size; have z4 := KB2.out.size
        have hRS : ∀ k, RLk k -> ¬ S5 k := fun k hk e => (HLK.out.apR k hk).2 (HS5.out k e).1
        have hSB : ∀ k, SinceB wb wq k -> ¬ S5 k := fun k hk e => (hk.2.ne (HS5.out k e).2 (by decide)) rfl
        refine ⟨⟨_, _, LgAt.put (w0 := wr) (vs := vs3 ++ vs4) HLK.out (by omega) ((HLK.out.disk.nb KQ.out).keeps KQ7.out (fun k hk e => (HLK.out.apF k (HS5.out k e).1).1 hk) (fun k hk e => (HLK.out.apF k (HS5.out k e).1).2 hk)) ⟨_, Q17.out⟩ S10.out ?_ (by have := h6.out; have := KWr.out.size; omega) ?_ ?_ ?_ ?_, ?_, ?_, ?_⟩, HOK.out, HKN.out, ?_⟩
        ·
         rintro k (e | e | e | e)
         ·
          exact HLK.out.disk.ltF k e
         ·
          exact HLK.out.disk.ltR k e
         ·
          exact HLK.out.ltF k e
         ·
          exact HLK.out.ltR k e
        ·
         have hh := HLK.out.nums
         exact ⟨hh.name, hh.n16, hh.most, hh.first, (by have := hnm; unfold mxn at this; exact Nat.le_trans this (by decide)), hh.segments, (by have := HRF.out.1; have := HQ.out; show q <= 33554432; omega), hh.recs.append HRW.out, (by show (Lk.recs ++ rs).length <= _; rw [List.length_append, HLKN.out, HR4.out]; omega), hh.snap⟩
        ·
         exact (Q2.out.keeps KQ.out (fun _ _ e => e)).keeps KQ7.out hRS |>.mono (fun k e => .inl e)
        ·
         have e1 : (Lk.recs ++ rs).length = lk + r4n := by rw [List.length_append, HLKN.out, HR4.out]
         show RowS w7 _ _ 22 1 _ (Lk.recs ++ rs).length _
         rw [e1]
         refine R5.out.typed.mono (fun k e => ?_) (fun _ e => e)
         rcases e with ⟨e | e, ht⟩
         ·
          exact .inl e
         ·
          have e1 : wq.heap.size <= k := e.1
          exact .inr ⟨by omega, e.2, ht⟩
        ·
         exact (((Q4.out.keeps KQ.out (fun _ _ e => e)).keeps KQ7.out hRS).mono (fun k e => .inl e)).append ((BL4.out.keeps KQ7.out hSB).mono (fun k e => .inr ⟨by have := e.1.1; omega, by have := e.1.2; omega, e.2.keeps KQ7.out (hSB k e)⟩))
        ·
         rintro k (e | e)
         ·
          exact HFK.out k e
         ·
          exact .inr (by omega)
        ·
         rintro k (e | e)
         ·
          exact HRK.out k e
         ·
          exact .inr (by omega)
        ·
         exact ((KK.out.trans_nb KQ.out).trans KQ7.out (fun j hj e => (HFK.out j (HS5.out j e).1).elim id (fun e => by omega))).trans S10.out.k (fun j hj e => by have e : j = l := e; subst e; exact HW1.out.fl)
        ·
         show (Lk.recs ++ rs).length <= _
         rw [List.length_append, HLKN.out, HR4.out]
         have := HKR.out; rw [HLKN.out] at this; omega
       have HI := qq hI
       clear hI HS c28
       have hk6 : k <= 1000000 := by have := HN6.out; have := HLT.out; omega
       go_wp2
       go_roundw
       case rel => exact ⟨k + 1, _, wn, HLT.out, rfl, by go_num, HI.out⟩
       case measure => have hlt2 := HLT.out; simp [intOf]; omega
    ·
     obtain rfl : k = m := by omega
     obtain ⟨sv3, lv3, vs3, q1, q2, q3, q4⟩ := HLK.out.ex
     have Q1 := qq q1; have Q3 := qq q3; have Q4 := qq q4; have Q2 := qq q2
     clear q1 q2 q3 q4
     go_wp2_with (first | go_skip | (with_reducible refine qv (by decide) ?_))
     refine za (zc rfl (zd (v := .int .i64 (k : Nat)) (n := 1) (by kernel_rfl) (by rfl) (by rfl) Q1.out (by rfl) (by simp [Value.cells, lcs]) (by simp [Value.cells, Value.oneCell'])) ?_)
     intro w7 s7
     simp only [Nat.reduceAdd, qn]
     have hlr : rdl X ms L1 0 = some (Lk, en) := by
      rw [HRD.out, List.drop_of_length_le (by rw [HML.out]; exact Nat.le_refl _)]; rfl
     have c26 : w7.cell? ⟨b6, 0, none⟩ = some (.slice an k cn) := (cell_of_block (s7.k.at B6r.out (fun e => by have := G2.out; have := G6.out; omega))).trans rfl
     have HD7 := qq (s7.k.at HDr.out (fun e => by have := G2.out; have := G6.out; omega))
     have hmg : LgAt w7 l d Fd Rd (fun j => FLk j \/ (wr.heap.size <= j /\ j < wr.heap.size /\ IsT wr 22 j)) (fun j => RLk j \/ (wr.heap.size <= j /\ j < wr.heap.size /\ IsT wr 5 j)) { Lk with segments := k } X := by
      have hh := HLK.out.nums
      refine LgAt.put (w0 := wr) (vs := vs3) HLK.out (Nat.le_refl _) HLK.out.disk ⟨_, Q1.out⟩ (sv := sv3) (lv := lv3) ⟨s7.blk, s7.k⟩ ?_ (by have := h6.out; have := KWr.out.size; omega) ⟨hh.name, hh.n16, hh.most, hh.first, hh.segment, HN6.out, hh.size, hh.recs, hh.nrec, hh.snap⟩ (Q2.out.mono fun j e => .inl e) (Q3.out.mono (fun j e => .inl e) (fun _ e => e)) (Q4.out.mono fun j e => .inl e)
      rintro j (e | e | e | e)
      ·
       exact HLK.out.disk.ltF j e
      ·
       exact HLK.out.disk.ltR j e
      ·
       exact HLK.out.ltF j e
      ·
       exact HLK.out.ltR j e
     have HMG := qq hmg; have HLR := qq hlr; have S7 := qq s7.k
     have hle6 : w.heap.size <= w6.heap.size := by have := G2.out; have := G6.out; omega
     have kp := zv w7 w6.heap.size (.deferred none)
     have KWW : Hid (Keeps FL w (w7.putObj w6.heap.size (.deferred none))) := qq ((KWr.out.trans s7.k (fun j hj e => by have e : j = l := e; subst e; exact H.out.fl)).trans kp (fun j hj e => by have : j = w6.heap.size := e; omega))
     have ncl : Hid (∀ j, (Fd j \/ Rd j \/ (FLk j \/ (wr.heap.size <= j /\ j < wr.heap.size /\ IsT wr 22 j)) \/ (RLk j \/ (wr.heap.size <= j /\ j < wr.heap.size /\ IsT wr 5 j))) -> ¬ j = w6.heap.size) := qq (fun j e h => by
      have hz1 := HZW.out.2
      rcases e with e | e | (e | e) | (e | e)
      ·
       have := H.out.disk.ltF j e; omega
      ·
       have := H.out.disk.ltR j e; omega
      ·
       rcases HFK.out j e with e | e
       ·
        have := ltA.out j (.inr (.inr (.inl e))); have := G6.out; omega
       ·
        omega
      ·
       omega
      ·
       rcases HRK.out j e with e | e
       ·
        have := ltA.out j (.inr (.inr (.inr e))); have := G6.out; omega
       ·
        omega
      ·
       omega)
     have HG2 : Hid (LgAt (w7.putObj w6.heap.size (.deferred none)) l d Fd Rd (fun j => FLk j \/ (wr.heap.size <= j /\ j < wr.heap.size /\ IsT wr 22 j)) (fun j => RLk j \/ (wr.heap.size <= j /\ j < wr.heap.size /\ IsT wr 5 j)) { Lk with segments := k } X) := qq (hmg.keeps kp (fun j e => ncl.out j (.inl e)) (fun j e => ncl.out j (.inr (.inl e))) (fun j e => ncl.out j (.inr (.inr (.inl e)))) (fun j e => ncl.out j (.inr (.inr (.inr e)))))
     clear s7 hlr hmg kp c2 c6
     by_cases hk0 : k = 0
     ·
      have HR : Hid (readR X L s none) := qq (by
       unfold readR
       rw [HSN.out]
       exact ⟨ms, HSG.out, by rw [if_pos (List.length_eq_zero_iff.1 (by rw [HML.out]; exact hk0))]⟩)
      subst hk0
      go_wp2
      refine ⟨by simp, .inl ⟨_, _, rfl, run_takeDeferred HD7.out, ?_⟩⟩
      exact ⟨.tuple #[.int .i64 0, .int .i64 10], by simp [results, Tryz.f59, go_sem], none, HR.out, rfl, HG2.out.disk, KWW.out⟩
     ·
      have HR : Hid (readR X L s (some ({ Lk with segments := k }, en))) := qq (by
       unfold readR
       rw [HSN.out]
       refine ⟨ms, HSG.out, ?_⟩
       rw [if_neg (fun e => hk0 (by rw [<- HML.out, e]; rfl)), HLR.out, HML.out]; rfl)
      have HU : Hid (LUp w (w7.putObj w6.heap.size (.deferred none)) l d Fd Rd FL RL { Lk with segments := k } X) := qq (by
       refine ⟨_, _, HG2.out, ?_, ?_, KWW.out⟩
       ·
        have hz := KWr.out.size
        have hz1 := KW1.out.size
        rintro j (e | e)
        ·
         rcases HFK.out j e with e | e
         ·
          exact (HFL1.out j e).imp id (fun e => by have := G2.out; omega)
         ·
          exact .inr (by omega)
        ·
         omega
       ·
        have hz := KWr.out.size
        have hz1 := KW1.out.size
        rintro j (e | e)
        ·
         rcases HRK.out j e with e | e
         ·
          exact (HRL1.out j e).imp id (fun e => by have := G2.out; omega)
         ·
          exact .inr (by omega)
        ·
         omega)
      have t1 : ((k : Int) == 0) = false := by simpa using hk0
      clear hk0
      go_wp2
      refine ⟨by simp, .inl ⟨_, _, rfl, run_takeDeferred HD7.out, ?_⟩⟩
      exact ⟨.tuple #[.int .i64 (en : Nat), .int .i64 0], by simp [results, Tryz.f59, go_sem], _, HR.out, rfl, HU.out⟩
 ·
  have t0 : decide (0 < (s : Int)) = true := by simp; omega
  have c2 : w1.cell? ⟨b2, 0, none⟩ = some (.pointer (some ⟨l, 0, none⟩)) := (cell_of_block B2.out).trans rfl
  obtain ⟨sv, lv, vs, e1, e2, e3, e4⟩ := H1.out.ex
  have E1 := qq e1; have E3 := qq e3; have E4 := qq e4
  clear e1 e2 e3 e4
  go_wp2
  refine WT.region (fun u => u.cell? ⟨b2, 0, none⟩ = some (.pointer (some ⟨l, 0, none⟩))) 13 16 [0, 1, 2, 3, 4, 5, 6, 7, 8, 9, 10, 11, 12, 13, 14, 15] (by kernel_rfl) rfl ?_
  have HS : Hid ((fun u : World => u.cell? ⟨b2, 0, none⟩ = some (.pointer (some ⟨l, 0, none⟩))) w1.drew) := qq c2
  have SA := qq (z3w l L.name s w1.drew (HV.out.nb (K1.out.drew)) ((cell_of_block (w := w1.drew) E1.out).trans rfl) (by have := H.out.nums.n16; omega) (by unfold mxn at hs; omega))
  refine WT.t 0 (v := .pointer (some ⟨l, 0, none⟩)) (y := by rintro w C1; exact zb (by kernel_rfl) (by rfl) C1) (s := HS.out) (h := ?_)
  refine WT.t 1 (v := .pointer (some ⟨l, 0, none⟩)) (y := by rintro w C1; exact zb (by kernel_rfl) (by rfl) C1) (s := HS.out) (h := ?_)
  refine WT.t 2 (v := .pointer (some ⟨l, 0, none⟩)) (y := by rintro w C1; exact zb (by kernel_rfl) (by rfl) C1) (s := HS.out) (h := ?_)
  refine WT.t 3 (v := .pointer (some ⟨l, 0, none⟩)) (y := by rintro w C1; exact zb (by kernel_rfl) (by rfl) C1) (s := HS.out) (h := ?_)
  refine WT.t 4 (v := _) (y := by rintro w C1; go_simp; with_reducible rfl) (s := HS.out) (h := ?_)
  refine WT.call 5 (by simp only [qi]; rfl) (by kernel_rfl) (by rfl) (by go_simp; first | done | rfl | exact ⟨⟨rfl, rfl⟩, rfl⟩ | exact ⟨⟨rfl, rfl, rfl⟩, rfl⟩) SA.out ?_
  rintro _ w2 ⟨rfl, k2⟩
  have K2 : Hid (Keeps Nb w1 w2) := qq (((Keeps.refl Nb w1).drew).trans_nb k2)
  clear k2 SA
  replace HS : Hid ((fun u : World => u.cell? ⟨b2, 0, none⟩ = some (.pointer (some ⟨l, 0, none⟩))) w2) := qq ((cell_of_block (K2.out.nb B2.out)).trans rfl)
  refine ⟨_, rfl, HS.out, ?_⟩
  simp only [Nat.reduceAdd, qn]
  have OA := qq (zda l d (snf L.name s) X Fd Rd w2 ((H1.out.nb K2.out).disk) ((cell_of_block (K2.out.nb E1.out)).trans rfl) (by have := z0x (z5g H.out.nums.name H.out.nums.n16 hs); unfold maxLen; omega))
  refine WT.call 6 (by simp only [qi]; rfl) (by kernel_rfl) (by rfl) (by go_simp; first | done | rfl | exact ⟨⟨rfl, rfl⟩, rfl⟩ | exact ⟨⟨rfl, rfl, rfl⟩, rfl⟩) OA.out ?_
  rintro e3' w3 ⟨ho, k3⟩
  have K3 : Hid (Keeps Nb w1 w3) := qq (K2.out.trans_nb k3)
  obtain ⟨v, b, ok, rfl, hb, hbl⟩ : ∃ v b ok, e3' = .returned (.tuple #[v, .bool ok]) /\ Bytes w3 (SinceB w2 w3) v b /\ ((ok = false /\ oneR X (snf L.name s) = none) \/ (ok = true /\ oneR X (snf L.name s) = some b /\ b.length <= mxr)) := by
   have hby := (z15 H.out.disk (snf L.name s)).2
   cases hor : oneR X (snf L.name s) with
   | none =>
    rw [hor] at ho
    exact ⟨_, [], false, ho, Bytes.nil _ _, .inl ⟨rfl, rfl⟩⟩
   | some b =>
    rw [hor] at ho
    obtain ⟨v, ho, hb⟩ := ho
    exact ⟨v, b, true, ho, hb, .inr ⟨rfl, rfl, (z97 hby hor).1⟩⟩
  clear ho OA k3
  replace HS : Hid ((fun u : World => u.cell? ⟨b2, 0, none⟩ = some (.pointer (some ⟨l, 0, none⟩))) w3) := qq ((cell_of_block (K3.out.nb B2.out)).trans rfl)
  refine ⟨_, rfl, HS.out, ?_⟩
  simp only [Nat.reduceAdd, qn]
  refine WT.t 7 (v := _) (y := by rintro w C1; go_simp; with_reducible rfl) (s := HS.out) (h := ?_)
  refine WT.t 8 (v := _) (y := by rintro w C1; go_simp; with_reducible rfl) (s := HS.out) (h := ?_)
  refine WT.t 9 (v := _) (y := by rintro w C1; go_simp; with_reducible rfl) (s := HS.out) (h := ?_)
  refine WT.t 10 (v := _) (y := by rintro w C1; go_simp; with_reducible rfl) (s := HS.out) (h := ?_)
  refine WT.t 11 (v := _) (y := by rintro w C1; go_simp; with_reducible rfl) (s := HS.out) (h := ?_)
  obtain ⟨av, cv, rfl, -⟩ := id hb
  have HB := qq hb
  have HBL := qq hbl
  clear hb hbl
  refine WT.onlySkipE 12 (by simp only [qi]; rfl) (by kernel_rfl) (by rfl) (zd (v := .slice av b.length cv) (n := 1) (by kernel_rfl) (by rfl) (by rfl) (K3.out.nb E1.out) (by rfl) (by simp [Value.cells, lcs]) (by simp [Value.cells, Value.oneCell'])) ?_
  intro w4 s4
  have hne : b2 ≠ l := fun e => by have := H.out.ltF l H.out.fl; have := G2.out.1; omega
  replace HS : Hid ((fun u : World => u.cell? ⟨b2, 0, none⟩ = some (.pointer (some ⟨l, 0, none⟩))) w4) := qq ((cell_of_block (s4.k.at (K3.out.nb B2.out) hne)).trans rfl)
  refine ⟨HS.out, ?_⟩
  simp only [Nat.reduceAdd, qn]
  refine WT.stop (by kernel_rfl) ?_
  refine WP.o 13 (v := _) (y := by go_simp; first | with_reducible rfl | exact ⟨rfl, rfl⟩) (h := ?_)
  refine WP.o 14 (v := _) (y := by go_simp; first | with_reducible rfl | exact ⟨rfl, rfl⟩) (h := ?_)
  refine WP.onlySkipE 15 (by simp only [qi]; rfl) (by kernel_rfl) (by rfl) (zd (v := .bool ok) (n := 1) (by kernel_rfl) (by rfl) (by rfl) s4.blk (by rfl) (by simp [Value.cells, lcs, splice]) (by simp [Value.cells, Value.oneCell'])) ?_
  intro w5 s5
  simp only [Nat.reduceAdd, qn]
  refine WP.done (by kernel_rfl) ?_
  have S5 : SetAt w3 w5 l (.cells (lcs d (.slice av b.length cv) lv { L with snap := b, has := ok }) 78 (0, 0)) := ⟨s5.blk, s4.k.trans s5.k (fun _ _ e => e)⟩
  have B5 := qq (S5.k.at (K3.out.nb B2.out) hne)
  have c5 : w5.cell? ⟨b2, 0, none⟩ = some (.pointer (some ⟨l, 0, none⟩)) := (cell_of_block B5.out).trans rfl
  have c5' : w5.cell? ⟨l, 8, none⟩ = some (.bool ok) := (cell_of_block S5.blk).trans rfl
  have HS5 := qq S5
  clear s4 s5 S5 HS
  rcases HBL.out with ⟨rfl, hno⟩ | ⟨rfl, hyes, hlen⟩
  ·
   have HR : Hid (readR X L s none) := qq (by unfold readR snapR; rw [if_neg h0, hno]; rfl)
   have KF : Hid (Keeps FL w w5) := qq (((K1.out.trans_nb K3.out).of_nb).trans HS5.out.k (fun j _ e => by have e : j = l := e; subst e; exact H.out.fl))
   have HD : Hid (DiskAt w5 d Fd Rd X.D X.fc) := qq ((H1.out.nb K3.out).disk.keeps HS5.out.k (fun k hk e => by have e : k = l := e; subst e; exact (H.out.apF _ H.out.fl).1 hk) (fun k hk e => by have e : k = l := e; subst e; exact (H.out.apF _ H.out.fl).2 hk))
   clear hno HBL
   go_wp2
   exact ⟨.tuple #[.int .i64 0, .int .i64 10], by simp [results, Tryz.f59, go_sem], none, HR.out, rfl, HD.out, KF.out⟩
  ·
   obtain ⟨L1, HG, HSN, hnm, hfi, hrc⟩ : ∃ L1, Hid (LUp w1 w5 l d Fd Rd FL RL L1 X) /\ Hid (snapR X L s = some L1) /\ L1.name = L.name /\ L1.first = L.first /\ L1.recs = [] := by
    have hz := K1.out.size; have hz3 := K3.out.size
    have hz2 : w1.heap.size <= w2.heap.size := K2.out.size
    refine ⟨{ L with snap := b, has := true }, qq ⟨_, _, LgAt.put (w0 := w1) (vs := vs) H1.out hz3 (H1.out.nb K3.out).disk ⟨_, K3.out.nb E1.out⟩ HS5.out ?_ (by have := h6.out; omega) ?_ ?_ ?_ ?_, ?_, ?_, ?_⟩, qq ?_, rfl, rfl, hr0⟩
    ·
     rintro k (e | e | e | e)
     ·
      exact H1.out.disk.ltF k e
     ·
      exact H1.out.disk.ltR k e
     ·
      exact H1.out.ltF k e
     ·
      exact H1.out.ltR k e
    ·
     have := H.out.nums
     exact ⟨this.name, this.n16, this.most, this.first, this.segment, this.segments, this.size, this.recs, this.nrec, hlen⟩
    ·
     exact HB.out.mono (fun k e => .inr ⟨by have := e.1.1; omega, e.1.2, e.2⟩)
    ·
     exact (E3.out.keeps K3.out (fun _ _ _ e => e)).mono (fun k e => .inl e) (fun _ e => e)
    ·
     exact (E4.out.keeps K3.out (fun _ _ e => e)).mono (fun k e => .inl e)
    ·
     rintro k (e | e)
     ·
      exact .inl e
     ·
      exact .inr (by omega)
    ·
     rintro k (e | e)
     ·
      exact .inl e
     ·
      exact .inr (by omega)
    ·
     exact (K3.out.of_nb).trans HS5.out.k (fun j _ e => by have e : j = l := e; subst e; exact H.out.fl)
    ·
     unfold snapR; rw [if_neg h0, hyes]; rfl
   have hb2l := hne
   clear hyes hlen HBL HS5 HB E1 E3 E4
   obtain ⟨FL1, RL1, H1', hFL1, hRL1, kA⟩ := HG.out
   have HA := qq H1'
   have KA := qq kA
   have HFL1 := qq hFL1; have HRL1 := qq hRL1
   have HNM := qq hnm; have HFI := qq hfi; have HRC := qq hrc
   clear H1' hFL1 hRL1 kA HG hnm hfi hrc
   go_wp2_with (first | go_skip | (with_reducible refine qv (by decide) ?_))
   refine za (valloc (z := .slice none 0 0) (by kernel_rfl) ?_)
   intro b6 wB nB
   simp only [Nat.reduceAdd, qn]
   have B6 := qq nB.blk
   have KB := qq nB.k
   have G6 : Hid (w5.heap.size <= b6 /\ b6 < wB.heap.size) := qq ⟨nB.ge, nB.lt⟩
   clear nB
   have HB' := qq (HA.out.nb KB.out)
   obtain ⟨sv', lv', hcs⟩ := HB'.out.cells
   have HC := qq hcs
   have B2B := qq (KB.out.nb B5.out)
   have cB2 : wB.cell? ⟨b2, 0, none⟩ = some (.pointer (some ⟨l, 0, none⟩)) := (cell_of_block B2B.out).trans rfl
   have cl : wB.cell? ⟨l, 0, none⟩ = some (.pointer (some ⟨d, 0, none⟩)) := (cell_of_block (HC.out wB (Keeps.refl _ _))).trans rfl
   have FA := qq (z42 d X.D Fd Rd X.fc wB HB'.out.disk)
   clear hcs c5
   go_wp2_with fail
   refine FA.out.mono ?_
   rintro _ w6 ⟨ns, hperm, a3, a4, rfl, hfa, k6⟩
   obtain ⟨ps, hps⟩ : ∃ ps, (ns.map fun s => (s, szOf X.D X.fc s)) = ps := ⟨_, rfl⟩
   rw [hps] at hfa
   have HPS := qq hps
   have HPM := qq hperm
   have HFA := qq hfa
   have K6 := qq k6
   have HLEN : Hid (ps.length = ns.length) := qq (by rw [<- hps, List.length_map])
   have W6 : Hid (w6.heap[b6]? = some (.cells #[.slice none 0 0] 35 (0, 0))) := qq (k6.nb B6.out)
   have L6 : b6 < wB.heap.size := lt_of_block B6.out
   have z36 := k6.size
   have HV6 : Hid (Vars w6) := qq ((((HV.out.nb K1.out).keeps KA.out (fun k hk e => by have := H.out.low k (.inr e); omega)).nb KB.out).nb K6.out)
   clear hps hperm hfa k6 FA cB2 cl
   go_wp2_with (with_reducible refine z16 ?_)
   refine za ((wpIn_wide (n := 9)).1 ?_)
   have hlw : l < w.heap.size := H.out.ltF l H.out.fl
   have hzA : w1.heap.size <= w5.heap.size := KA.out.size
   refine z2c (gf := 95) (lb := #[.pointer (some ⟨a3, 0, none⟩), .pointer (some ⟨a4, 0, none⟩)]) (by rfl) (enters_of Tryz.func95 (by kernel_rfl) rfl)
    (z2i 8 (by omega) wB.heap.size a3 a4 ps (fun b => w6.heap.size <= b \/ b = b6) w6 HFA.out (fun b h1 h2 e => by omega))
    (fun b hb => .inl (by unfold Book at hb; omega)) (fun i args W h => by obtain ⟨p, -, rfl⟩ := h; rfl)
    (fun i W => NumsI w6 b6 L1.name L1.first (ns.take i) W) (fun _ _ => False)
    (fun i A B h k => h.book k (by omega)) (fun c A B h => h.elim) ⟨_, W6.out, ⟨rfl, .inl ⟨rfl, rfl⟩⟩, Keeps.refl _ _⟩ ?_ ?_ (fun _ _ h => h.elim)
   ·
    rintro lm i args W rfl hW2 hI hi ⟨p, hp, rfl⟩
    simp only [List.zip_toArray, List.zip_cons_cons, List.zip_nil_right, List.foldl_toArray, List.foldl_cons, List.foldl_nil, List.setIfInBounds_toArray, List.set_cons_succ, List.set_cons_zero]
    have hns : ns[i]? = some p.1 := by
     rw [<- HPS.out, List.getElem?_map] at hp
     obtain ⟨s, h1, h2⟩ := Option.map_eq_some_iff.1 hp
     rw [h1, <- h2]
    have hmn : mnB p.1 = true := by
     have h1 := HPM.out.mem_iff.1 (List.mem_of_getElem? hns)
     obtain ⟨q, hq, e⟩ := List.mem_map.1 h1
     rw [<- e]; exact H.out.disk.names.files q hq
    obtain ⟨nm, sz⟩ := p
    have HNS := qq hns
    have hsz := z0x hmn
    have HI := qq hI
    clear hI hp hns hmn
    repeat (first | (with_reducible refine zg ?_) | (with_reducible refine stop_range ?_) | gi_step)
    refine za (zi (by kernel_rfl) (by rintro ⟨_, _, h⟩; exact h) ?_)
    go_wp2
    refine ⟨Keeps.refl _ _, fun W3 k3 => ?_⟩
    have kb3 : Keeps (Book w6) W W3 := k3.mono (fun i _ e => .inr e)
    obtain ⟨v, e1, e2, e3⟩ := HI.out.book kb3 (by omega)
    have KW3 := qq e3
    have E1 := qq e1; have E2 := qq e2
    have c2 : W3.cell? ⟨b2, 0, none⟩ = some (.pointer (some ⟨l, 0, none⟩)) := (cell_of_block (KW3.out.at (K6.out.nb B2B.out) (fun e => by have := G2.out; have := G6.out; omega))).trans rfl
    have bl3 : W3.heap[l]? = some (.cells (lcs d sv' lv' L1) 78 (0, 0)) := KW3.out.at (HC.out w6 K6.out) (fun e => by have := G2.out; have := G6.out; omega)
    have BL3 := qq bl3
    have HV3 : Hid (Vars W3) := qq (HV6.out.keeps KW3.out (fun k hk e => by have := h6.out; have := G2.out; have := G6.out; omega))
    have PA := qq (z3i l L1.name nm ByteArray.empty W3 HV3.out ((cell_of_block bl3).trans rfl) (by rw [HNM.out]; have := H.out.nums.n16; omega) (by omega) (by decide))
    have zW3 : w6.heap.size + 2 <= W3.heap.size := by have := k3.size; omega
    clear k3 e1 e2 e3 kb3 bl3
    repeat (first | (with_reducible refine zg ?_) | (with_reducible refine stop_range ?_) | gi_step)
    refine za (zi (by kernel_rfl) (by rintro ⟨_, _, h⟩; exact h) ?_)
    go_wp2_with fail
    refine PA.out.mono ?_
    rintro _ W4 ⟨rfl, k4⟩
    have c4 : W4.cell? ⟨b2, 0, none⟩ = some (.pointer (some ⟨l, 0, none⟩)) := (k4.cell (lt_of_cell c2) (fun e => e)).trans c2
    have c43 : W4.cell? ⟨l, 3, none⟩ = some (.int .i64 (L1.first : Nat)) := (cell_of_block (k4.nb BL3.out)).trans rfl
    have E14 := qq (k4.nb E1.out)
    have c46 : W4.cell? ⟨b6, 0, none⟩ = some v := (cell_of_block E14.out).trans rfl
    have E24 := qq (z07 E2.out k4 (fun _ _ e => e))
    have KW4 := qq k4
    clear k4 c2 PA HI
    have hsg : pn (fl L1.name ByteArray.empty) nm = sgn L1.name nm := rfl
    rw [hsg]
    have hsplit : segL L1.name L1.first (ns.take (i + 1)) = segL L1.name L1.first (ns.take i) ++ (if L1.first <= sgn L1.name nm then [sgn L1.name nm] else []) := by
     have hil := (List.getElem?_eq_some_iff.1 HNS.out).1
     rw [List.take_succ_eq_append_getElem hil, (List.getElem?_eq_some_iff.1 HNS.out).2]
     unfold segL
     rw [List.map_append, List.filter_append]
     by_cases hle : L1.first <= sgn L1.name nm <;> simp [hle]
    have HSP := qq hsplit
    clear hsplit hsg
    obtain ⟨n, hn⟩ : ∃ n, sgn L1.name nm = n := ⟨_, rfl⟩
    rw [hn] at HSP ⊢
    clear hn
    have c43' : Hid (W4.cell? ⟨b2, 0, none⟩ = some (.pointer (some ⟨l, 0, none⟩))) := qq c4
    by_cases hle : L1.first <= n
    ·
     rw [if_pos hle] at HSP
     go_wp2
     repeat (first | (with_reducible refine zg ?_) | (with_reducible refine stop_range ?_) | gi_step)
     refine za (zi (by kernel_rfl) (by rintro ⟨_, _, h⟩; exact h) ?_)
     go_wp2
     repeat (first | (with_reducible refine zg ?_) | (with_reducible refine stop_range ?_) | gi_step)
     refine za (zi (by kernel_rfl) (by rintro ⟨_, _, h⟩; exact h) ?_)
     go_wp2_with (first | go_skip | (with_reducible refine qv (by decide) ?_))
     refine za (zj rfl (zl el35 [.int .i64 n] rfl (by simp [List.range'_succ]; first | done | rfl | exact ⟨rfl, rfl⟩ | exact ⟨rfl, rfl, rfl⟩ | exact ⟨rfl, rfl, rfl, rfl⟩ | exact ⟨rfl, rfl, rfl, rfl, rfl⟩ | exact ⟨rfl, rfl, rfl, rfl, rfl, rfl⟩) (by simp [Value.cells]) (by simp)) ?_)
     rintro _ W5 ⟨g8, rfl, n8⟩
     simp only [Nat.reduceAdd, qn]
     have HH8 : Hid (Has W5 (some ⟨g8, 0, none⟩) [.int .i64 n]) := qq (zt n8.blk)
     have K5 := qq n8.k
     have O5 := qq (z07 E24.out K5.out (fun _ _ e => e))
     have zk : (segL L1.name L1.first (ns.take i)).length <= 1000000 := by
      have h1 : (segL L1.name L1.first (ns.take i)).length <= (ns.take i).length := by unfold segL; exact Nat.le_trans (List.length_filter_le _ _) (by simp)
      have h2 := HPM.out.length_eq
      have h3 := H.out.disk.nums.nf
      simp at h1 h2; omega
     clear n8
     go_wp2_with (first | go_skip | (with_reducible refine qv (by decide) ?_))
     refine za (zj rfl (zdh (base := w6.heap.size + 2) el35 O5.out (by rfl) (by rfl) HH8.out rfl (by intro u hu; rw [List.mem_singleton.1 hu]; rfl) (by unfold maxLen; omega) (by omega) (by have := KW4.out.size; have := K5.out.size; omega)) ?_)
     rintro v2 W6 ⟨o6, g6⟩
     simp only [Nat.reduceAdd, qn]
     obtain ⟨a6, c6, rfl, -, -, -, -⟩ := z05 o6
     have hob : ∀ k, v.ownBlock = some k -> w6.heap.size + 2 <= k := fun k e => by
      rcases E2.out.2 with ⟨e2, -⟩ | ⟨g, cap, cur, e2, hg, -⟩
      ·
       rw [e2] at e; simp [Value.ownBlock] at e
      ·
       rw [e2] at e; simp only [Value.ownBlock, Option.some.injEq] at e; omega
     have kk6 : Keeps (fun k => w6.heap.size + 2 <= k) W5 W6 := (Keeps.refl _ W5).grown g6 (fun k hk _ => hob k hk)
     have b66 : W6.heap[b6]? = some (.cells #[v] 35 (0, 0)) := kk6.at (K5.out.nb E14.out) (fun e => by have := G6.out; omega)
     have kf6 : Keeps (fun b => (w6.heap.size <= b \/ b = b6) /\ ¬ Book w6 b) W3 W6 := ((KW4.out.trans_nb K5.out).of_nb).trans kk6 (fun j _ e => ⟨.inl (by omega), fun h => by unfold Book at h; omega⟩)
     have O6 := qq o6
     clear kk6 g6 o6
     go_wp2_with (first | go_skip | (with_reducible refine qv (by decide) ?_))
     refine za (zc rfl (zd (v := .slice a6 ((segL L1.name L1.first (ns.take i)).length + 1) c6) (n := 1) (by kernel_rfl) (by rfl) (by rfl) b66 (by rfl) (by simp [Value.cells]) (by simp [Value.cells, Value.oneCell'])) ?_)
     intro W7 s7
     simp only [Nat.reduceAdd, qn]
     refine wpList_nil ?_
     have hk7 : b6 < w6.heap.size := by have := G6.out; omega
     have kf : Keeps (fun b => (w6.heap.size <= b \/ b = b6) /\ ¬ Book w6 b) W3 W7 := kf6.trans s7.k (fun j _ e => by have h1 : j = b6 := e; subst h1; exact ⟨.inr rfl, by unfold Book; omega⟩)
     refine ⟨kf, _, s7.blk, ?_, KW3.out.trans kf (fun j _ e => e.1)⟩
     rw [HSP.out, List.length_append, List.map_append]
     exact z07 O6.out s7.k (fun j hj e => by have h1 : j = b6 := e; omega)
    ·
     rw [if_neg hle, List.append_nil] at HSP
     go_wp2
     repeat (first | (with_reducible refine zg ?_) | (with_reducible refine stop_range ?_) | gi_step)
     refine za (zi (by kernel_rfl) (by rintro ⟨_, _, h⟩; exact h) ?_)
     go_wp2
     gi_wp2
     have kf : Keeps (fun b => (w6.heap.size <= b \/ b = b6) /\ ¬ Book w6 b) W3 W4 := KW4.out.of_nb
     refine ⟨kf, v, E14.out, ?_, KW3.out.trans kf (fun j _ e => e.1)⟩
     rw [HSP.out]
     exact E24.out
   ·
    rintro W ⟨nv, en1, en2, en3⟩ hD
    rw [HLEN.out, List.take_length] at en2
    obtain ⟨nums, hnums⟩ : ∃ q, segL L1.name L1.first ns = q := ⟨_, rfl⟩
    rw [hnums] at en2
    have hn6 : nums.length <= 1000000 := by
     have h1 : (segL L1.name L1.first ns).length <= ns.length := by unfold segL; exact Nat.le_trans (List.length_filter_le _ _) (by simp)
     have h2 := HPM.out.length_eq
     have h3 := H.out.disk.nums.nf
     rw [hnums] at h1; simp at h2; omega
    have hnb : ∀ n ∈ nums, n <= mxn := fun n hn => by
     rw [<- hnums] at hn
     obtain ⟨q, -, rfl⟩ := List.mem_map.1 (List.mem_filter.1 hn).1
     by_cases h0 : sgn L1.name q = 0
     ·
      rw [h0]; exact Nat.zero_le _
     ·
      exact (z3a h0).2.2
    have hsegs : ∀ ms : List Nat, ms.Perm nums -> ms.Pairwise (· <= ·) -> SegsOf L1.name L1.first X ms := fun ms h1 h2 => ⟨h2, by
     rw [<- hnums] at h1
     exact h1.trans ((HPM.out.map _).filter _)⟩
    have HSEG := qq hsegs; have HN6 := qq hn6; have HNB := qq hnb
    clear hnums hn6 hnb hsegs
    obtain ⟨an, cn, rfl, hcn1, hcn2, -, han⟩ := z05 en2
    obtain ⟨m, hm⟩ : ∃ m, nums.length = m := ⟨_, rfl⟩
    have ltA : Hid (∀ k, (Fd k \/ Rd k \/ FL1 k \/ RL1 k) -> k < w5.heap.size) := qq (fun k e => e.elim (HA.out.disk.ltF k) fun e => e.elim (HA.out.disk.ltR k) fun e => e.elim (HA.out.ltF k) (HA.out.ltR k))
    have HW : Hid (LgAt W l d Fd Rd FL1 RL1 L1 X) := qq ((HA.out.nb (KB.out.trans_nb K6.out)).keeps en3 (fun k hk e => by have := ltA.out k (.inl hk); have := G6.out; omega) (fun k hk e => by have := ltA.out k (.inr (.inl hk)); have := G6.out; omega) (fun k hk e => by have := ltA.out k (.inr (.inr (.inl hk))); have := G6.out; omega) (fun k hk e => by have := ltA.out k (.inr (.inr (.inr hk))); have := G6.out; omega))
    have SO := qq (zb3 _ nums (w6.heap.size + 2) W en2 HN6.out)
    have c6 : W.cell? ⟨b6, 0, none⟩ = some (.slice an nums.length cn) := (cell_of_block en1).trans rfl
    have EN1 := qq en1; have EN3 := qq en3; have HD := qq hD
    clear en1 en2 en3 hD han
    have HM := qq hm
    rw [hm] at SO c6 HN6 EN1
    clear hm
    go_wp2_with fail
    refine SO.out.mono ?_
    rintro _ W1 ⟨rfl, ⟨ms, hperm, hsort, ho⟩, k1⟩
    have KS : Hid (Keeps (fun k => w6.heap.size + 2 <= k) W W1) := qq (k1.mono (fun k _ e => by
     have e : (Value.slice an m cn).ownBlock = some k := e
     rcases ho.2 with ⟨e2, -⟩ | ⟨g, cap, cur, e2, hg, -⟩
     ·
      rw [e2] at e; simp [Value.ownBlock] at e
     ·
      rw [e2] at e; simp only [Value.ownBlock, Option.some.injEq] at e; omega))
    have hml : ms.length = m := by rw [hperm.length_eq]; exact HM.out
    have HSG := qq (HSEG.out ms hperm hsort)
    have HMB : Hid (∀ n ∈ ms, n <= mxn) := qq (fun n hn => HNB.out n (hperm.mem_iff.1 hn))
    have HML := qq hml
    obtain ⟨a', c', ea, -, -, hhas, hbl⟩ := z05 ho
    cases ea
    have HHAS := qq hhas
    have HBL : Hid (∀ b off, an = some ⟨b, off, none⟩ -> w6.heap.size + 2 <= b) := qq (fun b off e => (hbl b off e).2.2.1)
    have hzs : w6.heap.size < W.heap.size := lt_of_block HD.out
    have B61 := qq (KS.out.at EN1.out (fun e => by have := G6.out; omega))
    have HD1 := qq (KS.out.at HD.out (fun e => by omega))
    have B21 := qq (KS.out.at (EN3.out.at (K6.out.nb B2B.out) (fun e => by have := G2.out; have := G6.out; omega)) (fun e => by have := G2.out; have := G6.out; omega))
    have HW1 : Hid (LgAt W1 l d Fd Rd FL1 RL1 L1 X) := qq (HW.out.keeps KS.out (fun k hk e => by have := ltA.out k (.inl hk); have := G6.out; omega) (fun k hk e => by have := ltA.out k (.inr (.inl hk)); have := G6.out; omega) (fun k hk e => by have := ltA.out k (.inr (.inr (.inl hk))); have := G6.out; omega) (fun k hk e => by have := ltA.out k (.inr (.inr (.inr hk))); have := G6.out; omega))
    have HV1 : Hid (Vars W1) := qq ((HV6.out.keeps EN3.out (fun k hk e => by have := h6.out; have := G2.out; have := G6.out; omega)).keeps KS.out (fun k hk e => by have := h6.out; have := G2.out; have := G6.out; omega))
    have KW1 : Hid (Keeps FL w W1) := qq (((((K1.out.of_nb).trans KA.out (fun _ _ e => e)).trans_nb (KB.out.trans_nb K6.out)).trans EN3.out (fun j hj e => by have := G2.out; have := G6.out; omega)).trans KS.out (fun j hj e => by have := G2.out; have := G6.out; omega))
    have hF2 : ¬ FL1 b2 := fun e => (HFL1.out b2 e).elim (fun e => by have := H.out.ltF b2 e; have := G2.out; omega) (fun e => by have := G2.out; omega)
    have hF6 : ¬ FL1 b6 := fun e => by have := ltA.out b6 (.inr (.inr (.inl e))); have := G6.out; omega
    have hzw : w1.heap.size <= W1.heap.size /\ w6.heap.size < W1.heap.size := by have := KS.out.size; have := G6.out; omega
    have HF := qq (And.intro hF2 hF6); have HZW := qq hzw
    clear SO k1 hperm hsort ho hml hhas hbl c6 hF2 hF6 hzw
    have c61 : W1.cell? ⟨b6, 0, none⟩ = some (.slice an m cn) := (cell_of_block B61.out).trans rfl
    go_wp2
    go_loopw [9, 62] (fun ev iv wr => ∃ k Lk en, k <= m /\ ev = .int .i64 (en : Nat) /\ iv = .int .i64 (k : Nat) /\ ReadI X ms W1 l d Fd Rd FL1 RL1 L1 k Lk en wr) (fun _ iv _ => m - (intOf iv).toNat)
    case atStart => exact ⟨0, L1, 0, Nat.zero_le _, rfl, rfl, LUp.of HW1.out (Keeps.refl _ _), rfl, rfl, by rw [HRC.out]; simp⟩
    case round =>
     obtain ⟨k, Lk, en, hk, rfl, rfl, hup, hrd, hkn, hkr⟩ := hrel
     obtain ⟨FLk, RLk, hlk, hFk, hRk, kk⟩ := hup
     have HLK := qq hlk; have HFK := qq hFk; have HRK := qq hRk; have KK := qq kk; have HRD := qq hrd; have HKN := qq hkn; have HKR := qq hkr
     clear hlk hFk hRk kk hrd hkn hkr
     have B2r := qq (KK.out.at B21.out HF.out.1)
     have B6r := qq (KK.out.at B61.out HF.out.2)
     have HDr := qq (KK.out.at HD1.out (fun e => by have := ltA.out _ (.inr (.inr (.inl e))); have := G6.out; omega))
     have HVr : Hid (Vars wr) := qq (HV1.out.keeps KK.out (fun k hk e => by have := HW1.out.low k (.inr e); omega))
     have KWr : Hid (Keeps FL w wr) := qq (KW1.out.trans KK.out (fun j hj e => (HFL1.out j e).elim id (fun e => by have := G2.out; omega)))
     have c2 : wr.cell? ⟨b2, 0, none⟩ = some (.pointer (some ⟨l, 0, none⟩)) := (cell_of_block B2r.out).trans rfl
     have c6 : wr.cell? ⟨b6, 0, none⟩ = some (.slice an m cn) := (cell_of_block B6r.out).trans rfl
     by_cases hlt : k < m
     ·
      have HLT := qq hlt
      have i1 : (k : Int) < (m : Int) := by omega
      obtain ⟨n, rest, hdr⟩ : ∃ n rest, ms.drop k = n :: rest := ⟨ms[k]'(by rw [HML.out]; exact hlt), _, List.drop_eq_getElem_cons (by rw [HML.out]; exact hlt)⟩
      have hnk : ms[k]? = some n := by have h := congrArg (·[0]?) hdr; simpa using h
      obtain ⟨g, off, rfl, hck⟩ : ∃ b off, an = some ⟨b, off, none⟩ /\ wr.cell? ⟨b, off + k, none⟩ = some (.int .i64 (n : Nat)) := by
       rcases HHAS.out.keeps KK.out (fun b off e _ h => by have := HBL.out b off e; have := ltA.out b (.inr (.inr (.inl h))); have := G6.out; omega) with h | ⟨b, off, h, hc⟩
       ·
        have : ms = [] := List.map_eq_nil_iff.1 h
        rw [this] at hnk; cases hnk
       ·
        exact ⟨b, off, h, hc k _ (by rw [List.getElem?_map, hnk]; rfl)⟩
      have hnm : n <= mxn := HMB.out n (List.mem_of_getElem? hnk)
      have HDR := qq hdr; have HNK := qq hnk
      have hrest : (rest = [] ↔ k + 1 = m) := by
       have := congrArg List.length hdr
       rw [List.length_drop, HML.out, List.length_cons] at this
       rw [<- List.length_eq_zero_iff]; omega
      have HRS := qq hrest
      obtain ⟨sv3, lv3, vs3, q1, q2, q3, q4⟩ := HLK.out.ex
      have Q1 := qq q1; have Q3 := qq q3; have Q4 := qq q4; have Q2 := qq q2
      clear hdr hnk hrest q1 q2 q3 q4
      go_wp2
      refine WT.region (fun u => u.cell? ⟨b2, 0, none⟩ = some (.pointer (some ⟨l, 0, none⟩)) /\ u.cell? ⟨l, 0, none⟩ = some (.pointer (some ⟨d, 0, none⟩))) 12 13 [0, 1, 2, 3, 4, 5, 6, 7, 8, 9, 10, 11, 12] (by kernel_rfl) rfl ?_
      have HS : Hid ((fun u : World => u.cell? ⟨b2, 0, none⟩ = some (.pointer (some ⟨l, 0, none⟩)) /\ u.cell? ⟨l, 0, none⟩ = some (.pointer (some ⟨d, 0, none⟩))) wr.drew) := qq ⟨c2, (cell_of_block (w := wr.drew) Q1.out).trans rfl⟩
      have SA := qq (z0n l Lk.name n wr.drew (HVr.out.nb ((Keeps.refl Nb wr).drew)) ((cell_of_block (w := wr.drew) Q1.out).trans rfl) (by have := HLK.out.nums.n16; omega) (by unfold mxn at hnm; omega))
      refine WT.t 0 (v := .pointer (some ⟨l, 0, none⟩)) (y := by rintro w ⟨C1, C2⟩; exact zb (by kernel_rfl) (by rfl) C1) (s := HS.out) (h := ?_)
      refine WT.t 1 (v := _) (y := by rintro w ⟨C1, C2⟩; go_simp; with_reducible rfl) (s := HS.out) (h := ?_)
      refine WT.t 2 (v := _) (y := by rintro w ⟨C1, C2⟩; go_simp; with_reducible rfl) (s := HS.out) (h := ?_)
      refine WT.t 3 (v := .pointer (some ⟨d, 0, none⟩)) (y := by rintro w ⟨C1, C2⟩; exact zb (by kernel_rfl) (by rfl) C2) (s := HS.out) (h := ?_)
      refine WT.t 4 (v := .pointer (some ⟨l, 0, none⟩)) (y := by rintro w ⟨C1, C2⟩; exact zb (by kernel_rfl) (by rfl) C1) (s := HS.out) (h := ?_)
      refine WT.t 5 (v := _) (y := by rintro w ⟨C1, C2⟩; go_simp; with_reducible rfl) (s := HS.out) (h := ?_)
      refine WT.call 6 (by simp only [qi]; rfl) (by kernel_rfl) (by rfl) (by go_simp; first | done | rfl | exact ⟨⟨rfl, rfl⟩, rfl⟩ | exact ⟨⟨rfl, rfl, rfl⟩, rfl⟩) SA.out ?_
      rintro _ wa ⟨rfl, ka⟩
      have KA2 : Hid (Keeps Nb wr wa) := qq (((Keeps.refl Nb wr).drew).trans_nb ka)
      clear ka SA
      replace HS : Hid ((fun u : World => u.cell? ⟨b2, 0, none⟩ = some (.pointer (some ⟨l, 0, none⟩)) /\ u.cell? ⟨l, 0, none⟩ = some (.pointer (some ⟨d, 0, none⟩))) wa) := qq ⟨(cell_of_block (KA2.out.nb B2r.out)).trans rfl, (cell_of_block (KA2.out.nb Q1.out)).trans rfl⟩
      refine ⟨_, rfl, HS.out, ?_⟩
      simp only [Nat.reduceAdd, qn]
      have RA := qq (z5l d (sgf Lk.name n) X.D Fd Rd X.fc wa (HLK.out.disk.nb KA2.out) (by have := z0x (z0o HLK.out.nums.name HLK.out.nums.n16 hnm); unfold maxLen; omega))
      have hrf := z15 HLK.out.disk (sgf Lk.name n)
      have HRF := qq hrf
      clear hrf
      generalize hro : readOf X.D X.fc (sgf Lk.name n) = ro at RA HRF
      obtain ⟨bs, er⟩ := ro
      have HRO := qq hro
      clear hro
      refine WT.call 7 (by simp only [qi]; rfl) (by kernel_rfl) (by rfl) (by go_simp; first | done | rfl | exact ⟨⟨rfl, rfl⟩, rfl⟩ | exact ⟨⟨rfl, rfl, rfl⟩, rfl⟩) RA.out ?_
      rintro _ wb ⟨bv, rfl, hbv, kb⟩
      have HBV : Hid (Bytes wb (SinceB wa wb) bv bs) := qq (z0l hbv HRF.out.2)
      have KB2 : Hid (Keeps Nb wr wb) := qq (KA2.out.trans_nb kb)
      clear hbv kb RA
      replace HS : Hid ((fun u : World => u.cell? ⟨b2, 0, none⟩ = some (.pointer (some ⟨l, 0, none⟩)) /\ u.cell? ⟨l, 0, none⟩ = some (.pointer (some ⟨d, 0, none⟩))) wb) := qq ⟨(cell_of_block (KB2.out.nb B2r.out)).trans rfl, (cell_of_block (KB2.out.nb Q1.out)).trans rfl⟩
      refine ⟨_, rfl, HS.out, ?_⟩
      simp only [Nat.reduceAdd, qn]
      refine WT.t 8 (v := _) (y := by rintro w ⟨C1, C2⟩; go_simp; with_reducible rfl) (s := HS.out) (h := ?_)
      refine WT.t 9 (v := _) (y := by rintro w ⟨C1, C2⟩; go_simp; with_reducible rfl) (s := HS.out) (h := ?_)
      refine WT.t 10 (v := _) (y := by rintro w ⟨C1, C2⟩; go_simp; with_reducible rfl) (s := HS.out) (h := ?_)
      refine WT.t 11 (v := _) (y := by rintro w ⟨C1, C2⟩; go_simp; with_reducible rfl) (s := HS.out) (h := ?_)
      refine WT.stop (by kernel_rfl) ?_
      refine WP.o 12 (v := _) (y := by go_simp; first | with_reducible rfl | exact ⟨rfl, rfl⟩) (h := ?_)
      refine WP.done (by kernel_rfl) ?_
      obtain ⟨bva, bvc, rfl, -⟩ := id HBV.out
      have WA := qq (z65 _ bs _ wb HBV.out (fun _ e => e.1.2) HRF.out.1)
      clear HS hck c6
      go_wp2_with fail
      refine WA.out.mono ?_
      rintro _ wq ⟨lv4, vs4, rfl, r4, bl4, k4⟩
      have hrw := z4e HRF.out.2
      have hil := z3e (bs.length + 1) 0 bs
      have hwl : (whole bs).1.length <= 2097153 := by
       have h1 : (whole bs).1.length <= (items (bs.length + 1) 0 bs).length := by unfold whole wholeI good; simp only [List.length_map]; exact (List.takeWhile_sublist _).length_le
       have := HRF.out.1
       omega
      generalize hwo : whole bs = wo at r4 bl4 hrw hwl ⊢
      obtain ⟨rs, wn, rt⟩ := wo
      simp only at r4 bl4 hrw hwl ⊢
      obtain ⟨p1, p2, a4', c4', rfl, p4, p5, p6, p7, p8⟩ := id r4
      have R4 := qq r4; have BL4 := qq bl4; have HRW := qq hrw; have HWL := qq hwl; have HWO := qq hwo
      have K4 : Hid (Keeps Nb wb wq) := qq k4
      have KQ : Hid (Keeps Nb wr wq) := qq (KB2.out.trans_nb k4)
      obtain ⟨q, hq⟩ : ∃ q, bs.length = q := ⟨_, rfl⟩
      obtain ⟨r4n, hr4n⟩ : ∃ q, rs.length = q := ⟨_, rfl⟩
      have HQ := qq hq; have HR4 := qq hr4n
      rw [hq, hr4n]
      have hstep : rdl X ms L1 0 = if rt = true /\ (q <= wn \/ rest = []) then rdl X rest { Lk with recs := Lk.recs ++ rs, segment := n, size := q } wn else none := by
       rw [HRD.out, HDR.out, z5x, HRO.out]
       simp only
       rw [hwo]
       simp only
       rw [hq]
      have HST := qq hstep
      have HDq := qq (KQ.out.nb HDr.out)
      have c2q : wq.cell? ⟨b2, 0, none⟩ = some (.pointer (some ⟨l, 0, none⟩)) := (cell_of_block (KQ.out.nb B2r.out)).trans rfl
      have c6q : wq.cell? ⟨b6, 0, none⟩ = some (.slice (some ⟨g, off, none⟩) m cn) := (cell_of_block (KQ.out.nb B6r.out)).trans rfl
      have iw : IntKind.i64.wrap ((m : Int) - 1) = (m : Int) - 1 := IntWalk.i64_in _ (by have := HN6.out; omega)
      have hbad : ¬ (rt = true /\ (q <= wn \/ rest = [])) -> readR X L s none := fun hb => by
       unfold readR
       rw [HSN.out]
       exact ⟨ms, HSG.out, by rw [hstep, if_neg hb]; split <;> rfl⟩
      have HBAD := qq hbad
      have HRS2 := qq (HRS.out)
      clear hwo p1 p2 p4 p5 p6 p7 p8 r4 bl4 hrw hwl hil k4 hq hr4n hstep hbad WA c2
      cases rt
      ·
       have HB := qq (HBAD.out (fun e => by simp at e))
       go_wp2
       have kp := zv wq w6.heap.size (.deferred none)
       have hle6 : w.heap.size <= w6.heap.size := by have := G2.out; have := G6.out; omega
       have KF : Hid (Keeps FL w (wq.putObj w6.heap.size (.deferred none))) := qq ((KWr.out.trans_nb KQ.out).trans kp (fun j hj e => by have : j = w6.heap.size := e; omega))
       have DF : Hid (DiskAt (wq.putObj w6.heap.size (.deferred none)) d Fd Rd X.D X.fc) := qq ((HLK.out.disk.nb KQ.out).keeps kp (fun j hj e => by have : j = w6.heap.size := e; have := H.out.disk.ltF j hj; omega) (fun j hj e => by have : j = w6.heap.size := e; have := H.out.disk.ltR j hj; omega))
       refine ⟨by simp, .inl ⟨_, _, rfl, run_takeDeferred HDq.out, ?_⟩⟩
       exact ⟨.tuple #[.int .i64 0, .int .i64 10], by simp [results, Tryz.f59, go_sem], none, HB.out, rfl, DF.out, KF.out⟩
      ·
       rcases Nat.lt_or_ge wn q with hwq | hwq
       ·
        rcases Nat.lt_or_ge (k + 1) m with hkm | hkm
        ·
         have HB := qq (HBAD.out (fun e => e.2.elim (fun e => by omega) (fun e => by have := HRS2.out.1 e; omega)))
         have t1 : decide ((k : Int) < (m : Int) - 1) = true := by simp; omega
         have t2 : (k : Int) < (m : Int) - 1 := by omega
         clear hkm
         go_wp2
         have kp := zv wq w6.heap.size (.deferred none)
         have hle6 : w.heap.size <= w6.heap.size := by have := G2.out; have := G6.out; omega
         have KF : Hid (Keeps FL w (wq.putObj w6.heap.size (.deferred none))) := qq ((KWr.out.trans_nb KQ.out).trans kp (fun j hj e => by have : j = w6.heap.size := e; omega))
         have DF : Hid (DiskAt (wq.putObj w6.heap.size (.deferred none)) d Fd Rd X.D X.fc) := qq ((HLK.out.disk.nb KQ.out).keeps kp (fun j hj e => by have : j = w6.heap.size := e; have := H.out.disk.ltF j hj; omega) (fun j hj e => by have : j = w6.heap.size := e; have := H.out.disk.ltR j hj; omega))
         refine ⟨by simp, .inl ⟨_, _, rfl, run_takeDeferred HDq.out, ?_⟩⟩
         exact ⟨.tuple #[.int .i64 0, .int .i64 10], by simp [results, Tryz.f59, go_sem], none, HB.out, rfl, DF.out, KF.out⟩
        ·
         have t1 : ¬ ((k : Int) < (m : Int) - 1) := by omega
         have HOK : Hid (rdl X ms L1 0 = rdl X (ms.drop (k + 1)) { Lk with recs := Lk.recs ++ rs, segment := n, size := q } wn) := qq (by
          have hr : rest = [] := HRS2.out.2 (by omega)
          rw [HST.out, if_pos ⟨rfl, .inr hr⟩]
          have := congrArg (List.drop 1) HDR.out
          rw [List.drop_drop] at this
          simp at this
          rw [this])
         clear hkm
         have c9 : wq.cell? ⟨l, 9, none⟩ = some lv3 := (cell_of_block (KQ.out.nb Q1.out)).trans rfl
         have HLQ := qq (HLK.out.nb KQ.out)
         have R3 := qq (Q3.out.keeps KQ.out (fun _ _ _ e => e))
         obtain ⟨-, p2, a4, c4, ea, p4, p5, p6, p7, p8⟩ := id R4.out
         cases ea
         have HAS4 := qq p6; have ONE4 := qq p2
         have hvl : vs4.length = r4n := by rw [BL4.out.1]; exact HR4.out
         have HVL := qq hvl
         obtain ⟨lk, hlk⟩ : ∃ q, Lk.recs.length = q := ⟨_, rfl⟩
         have HLKN := qq hlk
         rw [hlk] at R3
         have hkr : lk <= 2097153000000 := by have h1 := HKR.out; rw [hlk] at h1; have := HN6.out; omega
         have hwl : r4n <= 2097153 := by have := HWL.out; have := HR4.out; omega
         clear p2 p4 p5 p6 p7 p8 hvl hlk
         go_wp2
         clear c6q
         refine WT.region (fun u => u.cell? ⟨b2, 0, none⟩ = some (.pointer (some ⟨l, 0, none⟩)) /\ u.cell? ⟨l, 9, none⟩ = some lv3) 7 10 [0, 1, 2, 3, 4, 5, 6, 7, 8, 9] (by kernel_rfl) rfl ?_
         have HS : Hid ((fun u : World => u.cell? ⟨b2, 0, none⟩ = some (.pointer (some ⟨l, 0, none⟩)) /\ u.cell? ⟨l, 9, none⟩ = some lv3) wq.drew) := qq ⟨c2q, c9⟩
         refine WT.t 0 (v := .pointer (some ⟨l, 0, none⟩)) (y := by rintro w ⟨C1, C2⟩; exact zb (by kernel_rfl) (by rfl) C1) (s := HS.out) (h := ?_)
         refine WT.t 1 (v := .pointer (some ⟨l, 0, none⟩)) (y := by rintro w ⟨C1, C2⟩; exact zb (by kernel_rfl) (by rfl) C1) (s := HS.out) (h := ?_)
         refine WT.t 2 (v := _) (y := by rintro w ⟨C1, C2⟩; go_simp; with_reducible rfl) (s := HS.out) (h := ?_)
         refine WT.t 3 (v := _) (y := by rintro w ⟨C1, C2⟩; go_simp; with_reducible rfl) (s := HS.out) (h := ?_)
         refine WT.t 4 (v := lv3) (y := by rintro w ⟨C1, C2⟩; exact zb (by kernel_rfl) (by rfl) C2) (s := HS.out) (h := ?_)
         refine WT.t 5 (v := _) (y := by rintro w ⟨C1, C2⟩; go_simp; with_reducible rfl) (s := HS.out) (h := ?_)
         refine WT.o 6 (y := re_push' el27 (R3.out.keeps ((Keeps.refl Nb wq).drew) (fun _ _ _ e => e)) (by rfl) (by rfl) (HAS4.out.nb ((Keeps.refl Nb wq).drew)) (by rw [HVL.out]; omega) ONE4.out (by unfold maxLen; omega) (by omega)) (h := ?_)
         rintro lv5 w7 ⟨r5, S5, k5, hS5⟩
         simp only [Nat.reduceAdd, qn]
         have kq7 : Keeps S5 wq w7 := ((Keeps.refl Nb wq).drew.of_nb).trans k5 (fun _ _ e => e)
         have hS5' : ∀ k, S5 k -> FLk k /\ IsT wq 22 k := hS5
         have hnb2 : ¬ S5 b2 := fun e => (HFK.out b2 (hS5' b2 e).1).elim HF.out.1 (fun e => by have := G2.out; have := HZW.out; omega)
         have hnl : ¬ S5 l := fun e => by have := (hS5' l e).2; exact (this.ne ⟨_, _, KQ.out.nb Q1.out⟩ (by decide)) rfl
         have B27 := qq (kq7.at (KQ.out.nb B2r.out) hnb2)
         have Q17 := qq (kq7.at (KQ.out.nb Q1.out) hnl)
         have KQ7 := qq kq7; have HS5 := qq hS5'
         have R5 : Hid (RowS w7 (Up FLk wq.drew w7) (fun _ => False) 22 1 lv5 (lk + r4n) (vs3 ++ vs4)) := qq r5
         obtain ⟨-, -, a5, c5', rfl, -⟩ := id r5
         clear kq7 hS5' hnb2 hnl r5 k5 hS5
         replace HS : Hid ((fun u : World => u.cell? ⟨b2, 0, none⟩ = some (.pointer (some ⟨l, 0, none⟩)) /\ u.cell? ⟨l, 9, none⟩ = some lv3) w7) := qq ⟨(cell_of_block B27.out).trans rfl, (cell_of_block Q17.out).trans rfl⟩
         refine ⟨HS.out, ?_⟩
         refine WT.stop (by kernel_rfl) ?_
         refine WP.o 7 (v := _) (y := by go_simp; first | with_reducible rfl | exact ⟨rfl, rfl⟩) (h := ?_)
         refine WP.o 8 (v := _) (y := by go_simp; first | with_reducible rfl | exact ⟨rfl, rfl⟩) (h := ?_)
         refine WP.onlySkipE 9 (by simp only [qi]; rfl) (by kernel_rfl) (by rfl) (zd (v := .slice a5 (lk + r4n) c5') (n := 1) (by kernel_rfl) (by rfl) (by rfl) Q17.out (by rfl) (by simp [Value.cells, lcs]) (by simp [Value.cells, Value.oneCell'])) ?_
         intro w8 s8
         simp only [Nat.reduceAdd, qn]
         refine WP.done (by kernel_rfl) ?_
         have B28 := qq (s8.k.at B27.out (fun e => hb2l e))
         have S8 : Hid (SetAt w7 w8 l (.cells (lcs d sv3 (.slice a5 (lk + r4n) c5') Lk) 78 (0, 0))) := qq ⟨s8.blk, s8.k⟩
         have c28 : w8.cell? ⟨b2, 0, none⟩ = some (.pointer (some ⟨l, 0, none⟩)) := (cell_of_block B28.out).trans rfl
         clear s8 HS c2q c9
         go_wp2
         refine WT.region (fun u => u.cell? ⟨b2, 0, none⟩ = some (.pointer (some ⟨l, 0, none⟩))) 12 13 [0, 1, 2, 3, 4, 5, 6, 7, 8, 9, 10, 11, 12] (by kernel_rfl) rfl ?_
         have HS : Hid ((fun u : World => u.cell? ⟨b2, 0, none⟩ = some (.pointer (some ⟨l, 0, none⟩))) w8.drew) := qq c28
         refine WT.t 0 (v := .pointer (some ⟨l, 0, none⟩)) (y := by rintro w C1; exact zb (by kernel_rfl) (by rfl) C1) (s := HS.out) (h := ?_)
         refine WT.t 1 (v := .pointer (some ⟨l, 0, none⟩)) (y := by rintro w C1; exact zb (by kernel_rfl) (by rfl) C1) (s := HS.out) (h := ?_)
         refine WT.t 2 (v := _) (y := by rintro w C1; go_simp; with_reducible rfl) (s := HS.out) (h := ?_)
         refine WT.t 3 (v := _) (y := by rintro w C1; go_simp; with_reducible rfl) (s := HS.out) (h := ?_)
         refine WT.t 4 (v := _) (y := by rintro w C1; go_simp; with_reducible rfl) (s := HS.out) (h := ?_)
         refine WT.t 5 (v := _) (y := by rintro w C1; go_simp; with_reducible rfl) (s := HS.out) (h := ?_)
         refine WT.t 6 (v := _) (y := by rintro w C1; go_simp; with_reducible rfl) (s := HS.out) (h := ?_)
         refine WT.t 7 (v := _) (y := by rintro w C1; go_simp; with_reducible rfl) (s := HS.out) (h := ?_)
         refine WT.onlySkipE 8 (by simp only [qi]; rfl) (by kernel_rfl) (by rfl) (zd (w := w8.drew) (v := .int .i64 (n : Nat)) (n := 1) (by kernel_rfl) (by rfl) (by rfl) S8.out.blk (by rfl) (by simp [Value.cells, lcs]) (by simp [Value.cells, Value.oneCell'])) ?_
         intro w9 s9
         have B29 := qq (s9.k.at (w := w8.drew) B28.out (fun e => hb2l e))
         have S9 : Hid (SetAt w7 w9 l (.cells (lcs d sv3 (.slice a5 (lk + r4n) c5') { Lk with segment := n }) 78 (0, 0))) := qq ⟨s9.blk, (S8.out.k.drew).trans s9.k (fun _ _ e => e)⟩
         replace HS : Hid ((fun u : World => u.cell? ⟨b2, 0, none⟩ = some (.pointer (some ⟨l, 0, none⟩))) w9) := qq ((cell_of_block B29.out).trans rfl)
         refine ⟨HS.out, ?_⟩
         simp only [Nat.reduceAdd, qn]
         clear s9
         refine WT.t 9 (v := _) (y := by rintro w C1; go_simp; with_reducible rfl) (s := HS.out) (h := ?_)
         refine WT.t 10 (v := _) (y := by rintro w C1; go_simp; with_reducible rfl) (s := HS.out) (h := ?_)
         refine WT.onlySkipE 11 (by simp only [qi]; rfl) (by kernel_rfl) (by rfl) (zd (v := .int .i64 (q : Nat)) (n := 1) (by kernel_rfl) (by rfl) (by rfl) S9.out.blk (by rfl) (by simp [Value.cells, lcs]) (by simp [Value.cells, Value.oneCell'])) ?_
         intro w10 s10
         have S10 : Hid (SetAt w7 w10 l (.cells (lcs d sv3 (.slice a5 (lk + r4n) c5') { Lk with recs := Lk.recs ++ rs, segment := n, size := q }) 78 (0, 0))) := qq ⟨s10.blk, S9.out.k.trans s10.k (fun _ _ e => e)⟩
         replace HS : Hid ((fun u : World => u.cell? ⟨b2, 0, none⟩ = some (.pointer (some ⟨l, 0, none⟩))) w10) := qq ((cell_of_block (s10.k.at B29.out (fun e => hb2l e))).trans rfl)
         refine ⟨HS.out, ?_⟩
         simp only [Nat.reduceAdd, qn]
         clear s10
         refine WT.stop (by kernel_rfl) ?_
         refine WP.o 12 (v := _) (y := by go_simp; first | with_reducible rfl | exact ⟨rfl, rfl⟩) (h := ?_)
         refine WP.done (by kernel_rfl) ?_
         have hI : ReadI X ms W1 l d Fd Rd FL1 RL1 L1 (k + 1) { Lk with recs := Lk.recs ++ rs, segment := n, size := q } wn w10 := by
          have z1 := KK.out.size; have z2 := KQ.out.size; have z3 := KQ7.out.size; have z4 := KB2.out.size
          have hRS : ∀ k, RLk k -> ¬ S5 k := fun k hk e => (HLK.out.apR k hk).2 (HS5.out k e).1
          have hSB : ∀ k, SinceB wb wq k -> ¬ S5 k := fun k hk e => (hk.2.ne (HS5.out k e).2 (by decide)) rfl
          refine ⟨⟨_, _, LgAt.put (w0 := wr) (vs := vs3 ++ vs4) HLK.out (by omega) ((HLK.out.disk.nb KQ.out).keeps KQ7.out (fun k hk e => (HLK.out.apF k (HS5.out k e).1).1 hk) (fun k hk e => (HLK.out.apF k (HS5.out k e).1).2 hk)) ⟨_, Q17.out⟩ S10.out ?_ (by have := h6.out; have := KWr.out.size; omega) ?_ ?_ ?_ ?_, ?_, ?_, ?_⟩, HOK.out, HKN.out, ?_⟩
          ·
           rintro k (e | e | e | e)
           ·
            exact HLK.out.disk.ltF k e
           ·
            exact HLK.out.disk.ltR k e
           ·
            exact HLK.out.ltF k e
           ·
            exact HLK.out.ltR k e
          ·
           have hh := HLK.out.nums
           exact ⟨hh.name, hh.n16, hh.most, hh.first, (by have := hnm; unfold mxn at this; exact Nat.le_trans this (by decide)), hh.segments, (by have := HRF.out.1; have := HQ.out; show q <= 33554432; omega), hh.recs.append HRW.out, (by show (Lk.recs ++ rs).length <= _; rw [List.length_append, HLKN.out, HR4.out]; omega), hh.snap⟩
          ·
           exact (Q2.out.keeps KQ.out (fun _ _ e => e)).keeps KQ7.out hRS |>.mono (fun k e => .inl e)
          ·
           have e1 : (Lk.recs ++ rs).length = lk + r4n := by rw [List.length_append, HLKN.out, HR4.out]
           show RowS w7 _ _ 22 1 _ (Lk.recs ++ rs).length _
           rw [e1]
           refine R5.out.typed.mono (fun k e => ?_) (fun _ e => e)
           rcases e with ⟨e | e, ht⟩
           ·
            exact .inl e
           ·
            have e1 : wq.heap.size <= k := e.1
            exact .inr ⟨by omega, e.2, ht⟩
          ·
           exact (((Q4.out.keeps KQ.out (fun _ _ e => e)).keeps KQ7.out hRS).mono (fun k e => .inl e)).append ((BL4.out.keeps KQ7.out hSB).mono (fun k e => .inr ⟨by have := e.1.1; omega, by have := e.1.2; omega, e.2.keeps KQ7.out (hSB k e)⟩))
          ·
           rintro k (e | e)
           ·
            exact HFK.out k e
           ·
            exact .inr (by omega)
          ·
           rintro k (e | e)
           ·
            exact HRK.out k e
           ·
            exact .inr (by omega)
          ·
           exact ((KK.out.trans_nb KQ.out).trans KQ7.out (fun j hj e => (HFK.out j (HS5.out j e).1).elim id (fun e => by omega))).trans S10.out.k (fun j hj e => by have e : j = l := e; subst e; exact HW1.out.fl)
          ·
           show (Lk.recs ++ rs).length <= _
           rw [List.length_append, HLKN.out, HR4.out]
           have := HKR.out; rw [HLKN.out] at this; omega
         have HI := qq hI
         clear hI HS c28
         have hk6 : k <= 1000000 := by have := HN6.out; have := HLT.out; omega
         go_wp2
         go_roundw
         case rel => exact ⟨k + 1, _, wn, HLT.out, rfl, by go_num, HI.out⟩
         case measure => have hlt2 := HLT.out; simp [intOf]; omega
       ·
        have HOK : Hid (rdl X ms L1 0 = rdl X (ms.drop (k + 1)) { Lk with recs := Lk.recs ++ rs, segment := n, size := q } wn) := qq (by
         rw [HST.out, if_pos ⟨rfl, .inl hwq⟩]
         have := congrArg (List.drop 1) HDR.out
         rw [List.drop_drop] at this
         simp at this
         rw [this])
        have c9 : wq.cell? ⟨l, 9, none⟩ = some lv3 := (cell_of_block (KQ.out.nb Q1.out)).trans rfl
        have HLQ := qq (HLK.out.nb KQ.out)
        have R3 := qq (Q3.out.keeps KQ.out (fun _ _ _ e => e))
        obtain ⟨-, p2, a4, c4, ea, p4, p5, p6, p7, p8⟩ := id R4.out
        cases ea
        have HAS4 := qq p6; have ONE4 := qq p2
        have hvl : vs4.length = r4n := by rw [BL4.out.1]; exact HR4.out
        have HVL := qq hvl
        obtain ⟨lk, hlk⟩ : ∃ q, Lk.recs.length = q := ⟨_, rfl⟩
        have HLKN := qq hlk
        rw [hlk] at R3
        have hkr : lk <= 2097153000000 := by have h1 := HKR.out; rw [hlk] at h1; have := HN6.out; omega
        have hwl : r4n <= 2097153 := by have := HWL.out; have := HR4.out; omega
        clear p2 p4 p5 p6 p7 p8 hvl hlk
        go_wp2
        clear c6q
        refine WT.region (fun u => u.cell? ⟨b2, 0, none⟩ = some (.pointer (some ⟨l, 0, none⟩)) /\ u.cell? ⟨l, 9, none⟩ = some lv3) 7 10 [0, 1, 2, 3, 4, 5, 6, 7, 8, 9] (by kernel_rfl) rfl ?_
        have HS : Hid ((fun u : World => u.cell? ⟨b2, 0, none⟩ = some (.pointer (some ⟨l, 0, none⟩)) /\ u.cell? ⟨l, 9, none⟩ = some lv3) wq.drew) := qq ⟨c2q, c9⟩
        refine WT.t 0 (v := .pointer (some ⟨l, 0, none⟩)) (y := by rintro w ⟨C1, C2⟩; exact zb (by kernel_rfl) (by rfl) C1) (s := HS.out) (h := ?_)
        refine WT.t 1 (v := .pointer (some ⟨l, 0, none⟩)) (y := by rintro w ⟨C1, C2⟩; exact zb (by kernel_rfl) (by rfl) C1) (s := HS.out) (h := ?_)
        refine WT.t 2 (v := _) (y := by rintro w ⟨C1, C2⟩; go_simp; with_reducible rfl) (s := HS.out) (h := ?_)
        refine WT.t 3 (v := _) (y := by rintro w ⟨C1, C2⟩; go_simp; with_reducible rfl) (s := HS.out) (h := ?_)
        refine WT.t 4 (v := lv3) (y := by rintro w ⟨C1, C2⟩; exact zb (by kernel_rfl) (by rfl) C2) (s := HS.out) (h := ?_)
        refine WT.t 5 (v := _) (y := by rintro w ⟨C1, C2⟩; go_simp; with_reducible rfl) (s := HS.out) (h := ?_)
        refine WT.o 6 (y := re_push' el27 (R3.out.keeps ((Keeps.refl Nb wq).drew) (fun _ _ _ e => e)) (by rfl) (by rfl) (HAS4.out.nb ((Keeps.refl Nb wq).drew)) (by rw [HVL.out]; omega) ONE4.out (by unfold maxLen; omega) (by omega)) (h := ?_)
        rintro lv5 w7 ⟨r5, S5, k5, hS5⟩
        simp only [Nat.reduceAdd, qn]
        have kq7 : Keeps S5 wq w7 := ((Keeps.refl Nb wq).drew.of_nb).trans k5 (fun _ _ e => e)
        have hS5' : ∀ k, S5 k -> FLk k /\ IsT wq 22 k := hS5
        have hnb2 : ¬ S5 b2 := fun e => (HFK.out b2 (hS5' b2 e).1).elim HF.out.1 (fun e => by have := G2.out; have := HZW.out; omega)
        have hnl : ¬ S5 l := fun e => by have := (hS5' l e).2; exact (this.ne ⟨_, _, KQ.out.nb Q1.out⟩ (by decide)) rfl
        have B27 := qq (kq7.at (KQ.out.nb B2r.out) hnb2)
        have Q17 := qq (kq7.at (KQ.out.nb Q1.out) hnl)
        have KQ7 := qq kq7; have HS5 := qq hS5'
        have R5 : Hid (RowS w7 (Up FLk wq.drew w7) (fun _ => False) 22 1 lv5 (lk + r4n) (vs3 ++ vs4)) := qq r5
        obtain ⟨-, -, a5, c5', rfl, -⟩ := id r5
        clear kq7 hS5' hnb2 hnl r5 k5 hS5
        replace HS : Hid ((fun u : World => u.cell? ⟨b2, 0, none⟩ = some (.pointer (some ⟨l, 0, none⟩)) /\ u.cell? ⟨l, 9, none⟩ = some lv3) w7) := qq ⟨(cell_of_block B27.out).trans rfl, (cell_of_block Q17.out).trans rfl⟩
        refine ⟨HS.out, ?_⟩
        refine WT.stop (by kernel_rfl) ?_
        refine WP.o 7 (v := _) (y := by go_simp; first | with_reducible rfl | exact ⟨rfl, rfl⟩) (h := ?_)
        refine WP.o 8 (v := _) (y := by go_simp; first | with_reducible rfl | exact ⟨rfl, rfl⟩) (h := ?_)
        refine WP.onlySkipE 9 (by simp only [qi]; rfl) (by kernel_rfl) (by rfl) (zd (v := .slice a5 (lk + r4n) c5') (n := 1) (by kernel_rfl) (by rfl) (by rfl) Q17.out (by rfl) (by simp [Value.cells, lcs]) (by simp [Value.cells, Value.oneCell'])) ?_
        intro w8 s8
        simp only [Nat.reduceAdd, qn]
        refine WP.done (by kernel_rfl) ?_
        have B28 := qq (s8.k.at B27.out (fun e => hb2l e))
        have S8 : Hid (SetAt w7 w8 l (.cells (lcs d sv3 (.slice a5 (lk + r4n) c5') Lk) 78 (0, 0))) := qq ⟨s8.blk, s8.k⟩
        have c28 : w8.cell? ⟨b2, 0, none⟩ = some (.pointer (some ⟨l, 0, none⟩)) := (cell_of_block B28.out).trans rfl
        clear s8 HS c2q c9
        go_wp2
        refine WT.region (fun u => u.cell? ⟨b2, 0, none⟩ = some (.pointer (some ⟨l, 0, none⟩))) 12 13 [0, 1, 2, 3, 4, 5, 6, 7, 8, 9, 10, 11, 12] (by kernel_rfl) rfl ?_
        have HS : Hid ((fun u : World => u.cell? ⟨b2, 0, none⟩ = some (.pointer (some ⟨l, 0, none⟩))) w8.drew) := qq c28
        refine WT.t 0 (v := .pointer (some ⟨l, 0, none⟩)) (y := by rintro w C1; exact zb (by kernel_rfl) (by rfl) C1) (s := HS.out) (h := ?_)
        refine WT.t 1 (v := .pointer (some ⟨l, 0, none⟩)) (y := by rintro w C1; exact zb (by kernel_rfl) (by rfl) C1) (s := HS.out) (h := ?_)
        refine WT.t 2 (v := _) (y := by rintro w C1; go_simp; with_reducible rfl) (s := HS.out) (h := ?_)
        refine WT.t 3 (v := _) (y := by rintro w C1; go_simp; with_reducible rfl) (s := HS.out) (h := ?_)
        refine WT.t 4 (v := _) (y := by rintro w C1; go_simp; with_reducible rfl) (s := HS.out) (h := ?_)
        refine WT.t 5 (v := _) (y := by rintro w C1; go_simp; with_reducible rfl) (s := HS.out) (h := ?_)
        refine WT.t 6 (v := _) (y := by rintro w C1; go_simp; with_reducible rfl) (s := HS.out) (h := ?_)
        refine WT.t 7 (v := _) (y := by rintro w C1; go_simp; with_reducible rfl) (s := HS.out) (h := ?_)
        refine WT.onlySkipE 8 (by simp only [qi]; rfl) (by kernel_rfl) (by rfl) (zd (w := w8.drew) (v := .int .i64 (n : Nat)) (n := 1) (by kernel_rfl) (by rfl) (by rfl) S8.out.blk (by rfl) (by simp [Value.cells, lcs]) (by simp [Value.cells, Value.oneCell'])) ?_
        intro w9 s9
        have B29 := qq (s9.k.at (w := w8.drew) B28.out (fun e => hb2l e))
        have S9 : Hid (SetAt w7 w9 l (.cells (lcs d sv3 (.slice a5 (lk + r4n) c5') { Lk with segment := n }) 78 (0, 0))) := qq ⟨s9.blk, (S8.out.k.drew).trans s9.k (fun _ _ e => e)⟩
        replace HS : Hid ((fun u : World => u.cell? ⟨b2, 0, none⟩ = some (.pointer (some ⟨l, 0, none⟩))) w9) := qq ((cell_of_block B29.out).trans rfl)
        refine ⟨HS.out, ?_⟩
        simp only [Nat.reduceAdd, qn]
        clear s9
        refine WT.t 9 (v := _) (y := by rintro w C1; go_simp; with_reducible rfl) (s := HS.out) (h := ?_)
        refine WT.t 10 (v := _) (y := by rintro w C1; go_simp; with_reducible rfl) (s := HS.out) (h := ?_)
        refine WT.onlySkipE 11 (by simp only [qi]; rfl) (by kernel_rfl) (by rfl) (zd (v := .int .i64 (q : Nat)) (n := 1) (by kernel_rfl) (by rfl) (by rfl) S9.out.blk (by rfl) (by simp [Value.cells, lcs]) (by simp [Value.cells, Value.oneCell'])) ?_
        intro w10 s10
        have S10 : Hid (SetAt w7 w10 l (.cells (lcs d sv3 (.slice a5 (lk + r4n) c5') { Lk with recs := Lk.recs ++ rs, segment := n, size := q }) 78 (0, 0))) := qq ⟨s10.blk, S9.out.k.trans s10.k (fun _ _ e => e)⟩
        replace HS : Hid ((fun u : World => u.cell? ⟨b2, 0, none⟩ = some (.pointer (some ⟨l, 0, none⟩))) w10) := qq ((cell_of_block (s10.k.at B29.out (fun e => hb2l e))).trans rfl)
        refine ⟨HS.out, ?_⟩
        simp only [Nat.reduceAdd, qn]
        clear s10
        refine WT.stop (by kernel_rfl) ?_
        refine WP.o 12 (v := _) (y := by go_simp; first | with_reducible rfl | exact ⟨rfl, rfl⟩) (h := ?_)
        refine WP.done (by kernel_rfl) ?_
        have hI : ReadI X ms W1 l d Fd Rd FL1 RL1 L1 (k + 1) { Lk with recs := Lk.recs ++ rs, segment := n, size := q } wn w10 := by
         have z1 := KK.out.size; have z2 := KQ.out.size; have z3 := KQ7.out.size; have z4 := KB2.out.size
         have hRS : ∀ k, RLk k -> ¬ S5 k := fun k hk e => (HLK.out.apR k hk).2 (HS5.out k e).1
         have hSB : ∀ k, SinceB wb wq k -> ¬ S5 k := fun k hk e => (hk.2.ne (HS5.out k e).2 (by decide)) rfl
         refine ⟨⟨_, _, LgAt.put (w0 := wr) (vs := vs3 ++ vs4) HLK.out (by omega) ((HLK.out.disk.nb KQ.out).keeps KQ7.out (fun k hk e => (HLK.out.apF k (HS5.out k e).1).1 hk) (fun k hk e => (HLK.out.apF k (HS5.out k e).1).2 hk)) ⟨_, Q17.out⟩ S10.out ?_ (by have := h6.out; have := KWr.out.size; omega) ?_ ?_ ?_ ?_, ?_, ?_, ?_⟩, HOK.out, HKN.out, ?_⟩
         ·
          rintro k (e | e | e | e)
          ·
           exact HLK.out.disk.ltF k e
          ·
           exact HLK.out.disk.ltR k e
          ·
           exact HLK.out.ltF k e
          ·
           exact HLK.out.ltR k e
         ·
          have hh := HLK.out.nums
          exact ⟨hh.name, hh.n16, hh.most, hh.first, (by have := hnm; unfold mxn at this; exact Nat.le_trans this (by decide)), hh.segments, (by have := HRF.out.1; have := HQ.out; show q <= 33554432; omega), hh.recs.append HRW.out, (by show (Lk.recs ++ rs).length <= _; rw [List.length_append, HLKN.out, HR4.out]; omega), hh.snap⟩
         ·
          exact (Q2.out.keeps KQ.out (fun _ _ e => e)).keeps KQ7.out hRS |>.mono (fun k e => .inl e)
         ·
          have e1 : (Lk.recs ++ rs).length = lk + r4n := by rw [List.length_append, HLKN.out, HR4.out]
          show RowS w7 _ _ 22 1 _ (Lk.recs ++ rs).length _
          rw [e1]
          refine R5.out.typed.mono (fun k e => ?_) (fun _ e => e)
          rcases e with ⟨e | e, ht⟩
          ·
           exact .inl e
          ·
           have e1 : wq.heap.size <= k := e.1
           exact .inr ⟨by omega, e.2, ht⟩
         ·
          exact (((Q4.out.keeps KQ.out (fun _ _ e => e)).keeps KQ7.out hRS).mono (fun k e => .inl e)).append ((BL4.out.keeps KQ7.out hSB).mono (fun k e => .inr ⟨by have := e.1.1; omega, by have := e.1.2; omega, e.2.keeps KQ7.out (hSB k e)⟩))
         ·
          rintro k (e | e)
          ·
           exact HFK.out k e
          ·
           exact .inr (by omega)
         ·
          rintro k (e | e)
          ·
           exact HRK.out k e
          ·
           exact .inr (by omega)
         ·
          exact ((KK.out.trans_nb KQ.out).trans KQ7.out (fun j hj e => (HFK.out j (HS5.out j e).1).elim id (fun e => by omega))).trans S10.out.k (fun j hj e => by have e : j = l := e; subst e; exact HW1.out.fl)
         ·
          show (Lk.recs ++ rs).length <= _
          rw [List.length_append, HLKN.out, HR4.out]
          have := HKR.out; rw [HLKN.out] at this; omega
        have HI := qq hI
        clear hI HS c28
        have hk6 : k <= 1000000 := by have := HN6.out; have := HLT.out; omega
        go_wp2
        go_roundw
        case rel => exact ⟨k + 1, _, wn, HLT.out, rfl, by go_num, HI.out⟩
        case measure => have hlt2 := HLT.out; simp [intOf]; omega
     ·
      obtain rfl : k = m := by omega
      obtain ⟨sv3, lv3, vs3, q1, q2, q3, q4⟩ := HLK.out.ex
      have Q1 := qq q1; have Q3 := qq q3; have Q4 := qq q4; have Q2 := qq q2
      clear q1 q2 q3 q4
      go_wp2_with (first | go_skip | (with_reducible refine qv (by decide) ?_))
      refine za (zc rfl (zd (v := .int .i64 (k : Nat)) (n := 1) (by kernel_rfl) (by rfl) (by rfl) Q1.out (by rfl) (by simp [Value.cells, lcs]) (by simp [Value.cells, Value.oneCell'])) ?_)
      intro w7 s7
      simp only [Nat.reduceAdd, qn]
      have hlr : rdl X ms L1 0 = some (Lk, en) := by
       rw [HRD.out, List.drop_of_length_le (by rw [HML.out]; exact Nat.le_refl _)]; rfl
      have c26 : w7.cell? ⟨b6, 0, none⟩ = some (.slice an k cn) := (cell_of_block (s7.k.at B6r.out (fun e => by have := G2.out; have := G6.out; omega))).trans rfl
      have HD7 := qq (s7.k.at HDr.out (fun e => by have := G2.out; have := G6.out; omega))
      have hmg : LgAt w7 l d Fd Rd (fun j => FLk j \/ (wr.heap.size <= j /\ j < wr.heap.size /\ IsT wr 22 j)) (fun j => RLk j \/ (wr.heap.size <= j /\ j < wr.heap.size /\ IsT wr 5 j)) { Lk with segments := k } X := by
       have hh := HLK.out.nums
       refine LgAt.put (w0 := wr) (vs := vs3) HLK.out (Nat.le_refl _) HLK.out.disk ⟨_, Q1.out⟩ (sv := sv3) (lv := lv3) ⟨s7.blk, s7.k⟩ ?_ (by have := h6.out; have := KWr.out.size; omega) ⟨hh.name, hh.n16, hh.most, hh.first, hh.segment, HN6.out, hh.size, hh.recs, hh.nrec, hh.snap⟩ (Q2.out.mono fun j e => .inl e) (Q3.out.mono (fun j e => .inl e) (fun _ e => e)) (Q4.out.mono fun j e => .inl e)
       rintro j (e | e | e | e)
       ·
        exact HLK.out.disk.ltF j e
       ·
        exact HLK.out.disk.ltR j e
       ·
        exact HLK.out.ltF j e
       ·
        exact HLK.out.ltR j e
      have HMG := qq hmg; have HLR := qq hlr; have S7 := qq s7.k
      have hle6 : w.heap.size <= w6.heap.size := by have := G2.out; have := G6.out; omega
      have kp := zv w7 w6.heap.size (.deferred none)
      have KWW : Hid (Keeps FL w (w7.putObj w6.heap.size (.deferred none))) := qq ((KWr.out.trans s7.k (fun j hj e => by have e : j = l := e; subst e; exact H.out.fl)).trans kp (fun j hj e => by have : j = w6.heap.size := e; omega))
      have ncl : Hid (∀ j, (Fd j \/ Rd j \/ (FLk j \/ (wr.heap.size <= j /\ j < wr.heap.size /\ IsT wr 22 j)) \/ (RLk j \/ (wr.heap.size <= j /\ j < wr.heap.size /\ IsT wr 5 j))) -> ¬ j = w6.heap.size) := qq (fun j e h => by
       have hz1 := HZW.out.2
       rcases e with e | e | (e | e) | (e | e)
       ·
        have := H.out.disk.ltF j e; omega
       ·
        have := H.out.disk.ltR j e; omega
       ·
        rcases HFK.out j e with e | e
        ·
         have := ltA.out j (.inr (.inr (.inl e))); have := G6.out; omega
        ·
         omega
       ·
        omega
       ·
        rcases HRK.out j e with e | e
        ·
         have := ltA.out j (.inr (.inr (.inr e))); have := G6.out; omega
        ·
         omega
       ·
        omega)
      have HG2 : Hid (LgAt (w7.putObj w6.heap.size (.deferred none)) l d Fd Rd (fun j => FLk j \/ (wr.heap.size <= j /\ j < wr.heap.size /\ IsT wr 22 j)) (fun j => RLk j \/ (wr.heap.size <= j /\ j < wr.heap.size /\ IsT wr 5 j)) { Lk with segments := k } X) := qq (hmg.keeps kp (fun j e => ncl.out j (.inl e)) (fun j e => ncl.out j (.inr (.inl e))) (fun j e => ncl.out j (.inr (.inr (.inl e)))) (fun j e => ncl.out j (.inr (.inr (.inr e)))))
      clear s7 hlr hmg kp c2 c6
      by_cases hk0 : k = 0
      ·
       have HR : Hid (readR X L s none) := qq (by
        unfold readR
        rw [HSN.out]
        exact ⟨ms, HSG.out, by rw [if_pos (List.length_eq_zero_iff.1 (by rw [HML.out]; exact hk0))]⟩)
       subst hk0
       go_wp2
       refine ⟨by simp, .inl ⟨_, _, rfl, run_takeDeferred HD7.out, ?_⟩⟩
       exact ⟨.tuple #[.int .i64 0, .int .i64 10], by simp [results, Tryz.f59, go_sem], none, HR.out, rfl, HG2.out.disk, KWW.out⟩
      ·
       have HR : Hid (readR X L s (some ({ Lk with segments := k }, en))) := qq (by
        unfold readR
        rw [HSN.out]
        refine ⟨ms, HSG.out, ?_⟩
        rw [if_neg (fun e => hk0 (by rw [<- HML.out, e]; rfl)), HLR.out, HML.out]; rfl)
       have HU : Hid (LUp w (w7.putObj w6.heap.size (.deferred none)) l d Fd Rd FL RL { Lk with segments := k } X) := qq (by
        refine ⟨_, _, HG2.out, ?_, ?_, KWW.out⟩
        ·
         have hz := KWr.out.size
         have hz1 := KW1.out.size
         rintro j (e | e)
         ·
          rcases HFK.out j e with e | e
          ·
           exact (HFL1.out j e).imp id (fun e => by have := G2.out; omega)
          ·
           exact .inr (by omega)
         ·
          omega
        ·
         have hz := KWr.out.size
         have hz1 := KW1.out.size
         rintro j (e | e)
         ·
          rcases HRK.out j e with e | e
          ·
           exact (HRL1.out j e).imp id (fun e => by have := G2.out; omega)
          ·
           exact .inr (by omega)
         ·
          omega)
       have t1 : ((k : Int) == 0) = false := by simpa using hk0
       clear hk0
       go_wp2
       refine ⟨by simp, .inl ⟨_, _, rfl, run_takeDeferred HD7.out, ?_⟩⟩
       exact ⟨.tuple #[.int .i64 (en : Nat), .int .i64 0], by simp [results, Tryz.f59, go_sem], _, HR.out, rfl, HU.out⟩
end Go.Proofs.YtpjomdmjohjheaaGreatDoor
end
section
namespace Go.Proofs.YtpjomdmjohjheaaGreatDoor
open Go.RowKit Go.Lk Go.Vfs Go.Log
theorem OpE.disk {w u w1 : World} {l d : Nat} {Fd Rd FL RL : Nat -> Prop} {L : Lg} {X : Ds} {k er : Int} {o : Log.Op} {D' : Dk} {fc' : Nat -> Fl} (h : LgAt w l d Fd Rd FL RL L X) (hk : Keeps Nb w u) (hn : Now u w1 d Fd Rd D' fc') (ho : o X er ⟨D', fc'⟩) (hp : pot ⟨D', fc'⟩ <= pot X + k) :
  OpE w l d Fd Rd FL RL L X k o (.returned (.int .i64 er)) w1 := (opE_disk' (h.nb hk) hn ho hp).from hk
theorem OpE.same {w w1 : World} {l d : Nat} {Fd Rd FL RL : Nat -> Prop} {L : Lg} {X : Ds} {k er : Int} {o : Log.Op} (h : LgAt w l d Fd Rd FL RL L X) (hk : Keeps Nb w w1) (ho : o X er X) (h0 : 0 <= k) :
  OpE w l d Fd Rd FL RL L X k o (.returned (.int .i64 er)) w1 := ⟨er, X, L, rfl, LNow.of (h.nb hk) hk, ho, fun _ => rfl, .inl rfl, by omega⟩
theorem z0y {nm : ByteArray} {n : Nat} (h : nm.size <= 16) (hn : n <= 9223372036854775807) : (sgf nm n).size <= maxLen := z5m h (by have := z40 hn; omega)
def EB (b : Nat) (f : Int) : World -> (Nat -> Prop) -> (Nat -> Prop) -> Prop := Box b (.cells #[.int .i64 f] 24 (0, 0))
def NB (b n : Nat) : World -> (Nat -> Prop) -> (Nat -> Prop) -> Prop := Box b (.cells #[.int .i64 (n : Nat)] 3 (0, 0))
def DB (b d : Nat) : World -> (Nat -> Prop) -> (Nat -> Prop) -> Prop := Box b (.cells #[.pointer (some ⟨d, 0, none⟩)] 37 (0, 0))
theorem zg1 (l d b : Nat) (f : Int) (L : Lg) : OpC l d L 0 ⟨54, #[], #[.pointer (some ⟨b, 0, none⟩)]⟩ (erO f) (EB b f) := by
 rintro w Fd Rd FL RL X h hv ⟨hb, -, -⟩ hp
 have c : w.cell? ⟨b, 0, none⟩ = some (.int .i64 f) := (cell_of_block hb).trans rfl
 have F := qq (OpE.same (k := 0) (o := erO f) (er := f) h (Keeps.refl _ _) ⟨rfl, rfl⟩ (by omega))
 clear h hv hp hb
 show Calls Tryz.prog 54 #[.pointer (some ⟨b, 0, none⟩)] w _
 go_enter Tryz.func54, Tryz.ntmps54
 go_wp2
 go_ret
 exact F.out
theorem mk55_c (l d b3 b10 b15 n : Nat) (L : Lg) (hn : n <= 9223372036854775807) : OpC l d L 3 ⟨55, #[], #[.pointer (some ⟨b3, 0, none⟩), .pointer (some ⟨b10, 0, none⟩), .pointer (some ⟨b15, 0, none⟩)]⟩ (mkO (sgf L.name n)) (fun w a b => DB b3 d w a b /\ LB b10 l w a b /\ NB b15 n w a b) := by
 rintro w Fd Rd FL RL X h hv ⟨⟨hb3, o3⟩, ⟨hb10, o10⟩, ⟨hb15, o15⟩⟩ hp
 have OO := qq (And.intro o3 (And.intro o10 o15))
 obtain ⟨sv, lv, hcs⟩ := h.cells
 have c3 : w.cell? ⟨b3, 0, none⟩ = some (.pointer (some ⟨d, 0, none⟩)) := (cell_of_block hb3).trans rfl
 have c10 : w.cell? ⟨b10, 0, none⟩ = some (.pointer (some ⟨l, 0, none⟩)) := (cell_of_block hb10).trans rfl
 have c15 : w.cell? ⟨b15, 0, none⟩ = some (.int .i64 (n : Nat)) := (cell_of_block hb15).trans rfl
 have H := qq h
 have h16 := h.nums.n16
 have SA := qq (z0n l L.name n w.drew (hv.nb (Keeps.refl Nb w).drew) ((cell_of_block (hcs w.drew (Keeps.refl Nb w).drew)).trans rfl) (by omega) hn)
 have HP := qq (z0b hp (by omega))
 clear h hv hb3 hb10 hb15 hcs hp o3 o10 o15
 show Calls Tryz.prog 55 #[.pointer (some ⟨b3, 0, none⟩), .pointer (some ⟨b10, 0, none⟩), .pointer (some ⟨b15, 0, none⟩)] w _
 go_enter Tryz.func55, Tryz.ntmps55
 go_wp2
 refine WT.region (fun u => u.cell? ⟨b3, 0, none⟩ = some (.pointer (some ⟨d, 0, none⟩)) /\ u.cell? ⟨b10, 0, none⟩ = some (.pointer (some ⟨l, 0, none⟩)) /\ u.cell? ⟨b15, 0, none⟩ = some (.int .i64 (n : Nat))) 5 6 [0, 1, 2, 3, 4, 5] (by kernel_rfl) rfl ?_
 have fac : ∀ u, Keeps (fun k => Fd k) w u -> (fun u : World => u.cell? ⟨b3, 0, none⟩ = some (.pointer (some ⟨d, 0, none⟩)) /\ u.cell? ⟨b10, 0, none⟩ = some (.pointer (some ⟨l, 0, none⟩)) /\ u.cell? ⟨b15, 0, none⟩ = some (.int .i64 (n : Nat))) u := fun u hu =>
  ⟨(hu.cell (lt_of_cell c3) OO.out.1.1).trans c3, (hu.cell (lt_of_cell c10) OO.out.2.1.1).trans c10, (hu.cell (lt_of_cell c15) OO.out.2.2.1).trans c15⟩
 have FAC := qq fac
 have HS := qq (fac w.drew (Keeps.refl _ w).drew)
 clear fac
 refine WT.t 0 (v := .pointer (some ⟨d, 0, none⟩)) (y := by rintro w ⟨C1, C2, C3⟩; exact zb (by kernel_rfl) (by rfl) C1) (s := HS.out) (h := ?_)
 refine WT.t 1 (v := .pointer (some ⟨l, 0, none⟩)) (y := by rintro w ⟨C1, C2, C3⟩; exact zb (by kernel_rfl) (by rfl) C2) (s := HS.out) (h := ?_)
 refine WT.t 2 (v := .int .i64 (n : Nat)) (y := by rintro w ⟨C1, C2, C3⟩; exact zb (by kernel_rfl) (by rfl) C3) (s := HS.out) (h := ?_)
 refine WT.call 3 (by simp only [qi]; rfl) (by kernel_rfl) (by rfl) (by go_simp; first | done | rfl | exact ⟨⟨rfl, rfl⟩, rfl⟩ | exact ⟨⟨rfl, rfl, rfl⟩, rfl⟩ | exact ⟨⟨rfl, rfl, rfl, rfl⟩, rfl⟩ | exact ⟨⟨rfl, rfl, rfl, rfl, rfl⟩, rfl⟩) SA.out ?_
 rintro _ w1 ⟨rfl, k1⟩
 have K1 : Hid (Keeps Nb w w1) := qq (((Keeps.refl Nb w).drew).trans_nb k1)
 refine ⟨_, rfl, FAC.out w1 K1.out.of_nb, ?_⟩
 simp only [Nat.reduceAdd, qn]
 have MA := qq (z5d d (sgf L.name n) X.D Fd Rd X.fc w1 (H.out.disk.nb K1.out) (z0y h16 hn) HP.out)
 refine WT.call 4 (by simp only [qi]; rfl) (by kernel_rfl) (by rfl) (by go_simp; first | done | rfl | exact ⟨⟨rfl, rfl⟩, rfl⟩ | exact ⟨⟨rfl, rfl, rfl⟩, rfl⟩ | exact ⟨⟨rfl, rfl, rfl, rfl⟩, rfl⟩ | exact ⟨⟨rfl, rfl, rfl, rfl, rfl⟩, rfl⟩) MA.out ?_
 rintro _ w2 ⟨er, D', fc', rfl, hn2, hr⟩
 have ho : mkO (sgf L.name n) X er ⟨D', fc'⟩ := ⟨w1.heap.size, fun b hb => (H.out.disk.nb K1.out).ltF b ((H.out.disk.nb K1.out).file b hb).2, hr⟩
 have hk2 : Keeps Fd w w2 := (K1.out.of_nb).trans (by obtain ⟨_, _, _, _, _, hk⟩ := hn2; exact hk) (fun _ _ e => e)
 have F := qq (OpE.disk (k := 3) H.out K1.out hn2 ho (z6n ho))
 have S2 := FAC.out w2 hk2
 clear hn2 hr ho MA SA k1 HS
 refine ⟨_, rfl, S2, ?_⟩
 simp only [Nat.reduceAdd, qn]
 refine WT.stop (by kernel_rfl) ?_
 refine WP.o 5 (v := _) (y := by go_simp; first | with_reducible rfl | exact ⟨rfl, rfl⟩) (h := ?_)
 refine WP.done (by kernel_rfl) ?_
 go_wp2
 go_ret
 exact F.out
theorem zge (l d b10 b15 n : Nat) (L : Lg) (hn : n <= 4294967296) : OpC l d L 9 ⟨57, #[], #[.pointer (some ⟨b10, 0, none⟩), .pointer (some ⟨b15, 0, none⟩)]⟩ (manO L.name 0 n) (fun w a b => LB b10 l w a b /\ NB b15 n w a b) := by
 rintro w Fd Rd FL RL X h hv ⟨⟨hb10, o10⟩, ⟨hb15, o15⟩⟩ hp
 have c10 : w.cell? ⟨b10, 0, none⟩ = some (.pointer (some ⟨l, 0, none⟩)) := (cell_of_block hb10).trans rfl
 have c15 : w.cell? ⟨b15, 0, none⟩ = some (.int .i64 (n : Nat)) := (cell_of_block hb15).trans rfl
 have MW := qq (zfi l d Fd Rd FL RL L X 0 n w h hv (by omega) hn hp)
 clear h hv hp hb10 hb15
 show Calls Tryz.prog 57 #[.pointer (some ⟨b10, 0, none⟩), .pointer (some ⟨b15, 0, none⟩)] w _
 go_enter Tryz.func57, Tryz.ntmps57
 go_wp2_with fail
 refine MW.out.mono ?_
 rintro e w1 hE
 obtain ⟨er, X', L', rfl, -⟩ := id hE
 have F := qq hE
 clear hE MW
 go_wp2
 go_ret
 exact F.out
theorem sy62_c (l d b3 b10 : Nat) (L : Lg) : OpC l d L 1 ⟨62, #[], #[.pointer (some ⟨b3, 0, none⟩), .pointer (some ⟨b10, 0, none⟩)]⟩ (syO L.seg) (fun w a b => DB b3 d w a b /\ LB b10 l w a b) := by
 rintro w Fd Rd FL RL X h hv ⟨⟨hb3, o3⟩, ⟨hb10, o10⟩⟩ hp
 have OO := qq (And.intro o3 o10)
 obtain ⟨sv, lv, hcs⟩ := h.cells
 have c3 : w.cell? ⟨b3, 0, none⟩ = some (.pointer (some ⟨d, 0, none⟩)) := (cell_of_block hb3).trans rfl
 have c10 : w.cell? ⟨b10, 0, none⟩ = some (.pointer (some ⟨l, 0, none⟩)) := (cell_of_block hb10).trans rfl
 have cl : w.cell? ⟨l, 4, none⟩ = some (.int .i64 (L.segment : Nat)) := (cell_of_block (hcs w (Keeps.refl _ _))).trans rfl
 have H := qq h
 have h16 := h.nums.n16
 have hsg := h.nums.segment
 have SA := qq (z0n l L.name L.segment w.drew (hv.nb (Keeps.refl Nb w).drew) ((cell_of_block (hcs w.drew (Keeps.refl Nb w).drew)).trans rfl) (by omega) (by omega))
 have HP := qq (z0b hp (by omega))
 clear h hv hb3 hb10 hcs hp o3 o10
 show Calls Tryz.prog 62 #[.pointer (some ⟨b3, 0, none⟩), .pointer (some ⟨b10, 0, none⟩)] w _
 go_enter Tryz.func62, Tryz.ntmps62
 go_wp2
 refine WT.region (fun u => u.cell? ⟨b3, 0, none⟩ = some (.pointer (some ⟨d, 0, none⟩)) /\ u.cell? ⟨b10, 0, none⟩ = some (.pointer (some ⟨l, 0, none⟩)) /\ u.cell? ⟨l, 4, none⟩ = some (.int .i64 (L.segment : Nat))) 8 9 [0, 1, 2, 3, 4, 5, 6, 7, 8] (by kernel_rfl) rfl ?_
 have fac : ∀ u, Keeps (fun k => Fd k) w u -> (fun u : World => u.cell? ⟨b3, 0, none⟩ = some (.pointer (some ⟨d, 0, none⟩)) /\ u.cell? ⟨b10, 0, none⟩ = some (.pointer (some ⟨l, 0, none⟩)) /\ u.cell? ⟨l, 4, none⟩ = some (.int .i64 (L.segment : Nat))) u := fun u hu =>
  ⟨(hu.cell (lt_of_cell c3) OO.out.1.1).trans c3, (hu.cell (lt_of_cell c10) OO.out.2.1).trans c10, (hu.cell (lt_of_cell cl) (H.out.apF l H.out.fl).1).trans cl⟩
 have FAC := qq fac
 have HS := qq (fac w.drew (Keeps.refl _ w).drew)
 clear fac
 refine WT.t 0 (v := .pointer (some ⟨d, 0, none⟩)) (y := by rintro w ⟨C1, C2, C3⟩; exact zb (by kernel_rfl) (by rfl) C1) (s := HS.out) (h := ?_)
 refine WT.t 1 (v := .pointer (some ⟨l, 0, none⟩)) (y := by rintro w ⟨C1, C2, C3⟩; exact zb (by kernel_rfl) (by rfl) C2) (s := HS.out) (h := ?_)
 refine WT.t 2 (v := .pointer (some ⟨l, 0, none⟩)) (y := by rintro w ⟨C1, C2, C3⟩; exact zb (by kernel_rfl) (by rfl) C2) (s := HS.out) (h := ?_)
 refine WT.t 3 (v := _) (y := by rintro w ⟨C1, C2, C3⟩; go_simp; with_reducible rfl) (s := HS.out) (h := ?_)
 refine WT.t 4 (v := _) (y := by rintro w ⟨C1, C2, C3⟩; go_simp; with_reducible rfl) (s := HS.out) (h := ?_)
 refine WT.t 5 (v := .int .i64 (L.segment : Nat)) (y := by rintro w ⟨C1, C2, C3⟩; exact zb (by kernel_rfl) (by rfl) C3) (s := HS.out) (h := ?_)
 refine WT.call 6 (by simp only [qi]; rfl) (by kernel_rfl) (by rfl) (by go_simp; first | done | rfl | exact ⟨⟨rfl, rfl⟩, rfl⟩ | exact ⟨⟨rfl, rfl, rfl⟩, rfl⟩ | exact ⟨⟨rfl, rfl, rfl, rfl⟩, rfl⟩ | exact ⟨⟨rfl, rfl, rfl, rfl, rfl⟩, rfl⟩) SA.out ?_
 rintro _ w1 ⟨rfl, k1⟩
 have K1 : Hid (Keeps Nb w w1) := qq (((Keeps.refl Nb w).drew).trans_nb k1)
 refine ⟨_, rfl, FAC.out w1 K1.out.of_nb, ?_⟩
 simp only [Nat.reduceAdd, qn]
 have MA := qq (z3x d (sgf L.name L.segment) X.D Fd Rd X.fc w1 (H.out.disk.nb K1.out) (z0y h16 (by omega)) HP.out)
 refine WT.call 7 (by simp only [qi]; rfl) (by kernel_rfl) (by rfl) (by go_simp; first | done | rfl | exact ⟨⟨rfl, rfl⟩, rfl⟩ | exact ⟨⟨rfl, rfl, rfl⟩, rfl⟩ | exact ⟨⟨rfl, rfl, rfl, rfl⟩, rfl⟩ | exact ⟨⟨rfl, rfl, rfl, rfl, rfl⟩, rfl⟩) MA.out ?_
 rintro _ w2 ⟨er, D', fc', rfl, hn2, hr⟩
 have ho : syO L.seg X er ⟨D', fc'⟩ := hr
 have hk2 : Keeps Fd w w2 := (K1.out.of_nb).trans (by obtain ⟨_, _, _, _, _, hk⟩ := hn2; exact hk) (fun _ _ e => e)
 have F := qq (OpE.disk (k := 1) H.out K1.out hn2 ho (z4y ho))
 have S2 := FAC.out w2 hk2
 clear hn2 hr ho MA SA k1 HS
 refine ⟨_, rfl, S2, ?_⟩
 simp only [Nat.reduceAdd, qn]
 refine WT.stop (by kernel_rfl) ?_
 refine WP.o 8 (v := _) (y := by go_simp; first | with_reducible rfl | exact ⟨rfl, rfl⟩) (h := ?_)
 refine WP.done (by kernel_rfl) ?_
 go_wp2
 go_ret
 exact F.out
theorem zfx (l d b3 b10 b17 en : Nat) (L : Lg) (hen : en <= 33554432) : OpC l d L 1 ⟨60, #[], #[.pointer (some ⟨b10, 0, none⟩), .pointer (some ⟨b17, 0, none⟩), .pointer (some ⟨b3, 0, none⟩)]⟩ (if L.size = en then nop else cuO L.seg en) (fun w a b => LB b10 l w a b /\ NB b17 en w a b /\ DB b3 d w a b) := by
 rintro w Fd Rd FL RL X h hv ⟨⟨hb10, o10⟩, ⟨hb17, o17⟩, ⟨hb3, o3⟩⟩ hp
 have OO := qq (And.intro o3 (And.intro o10 o17))
 obtain ⟨sv, lv, hcs⟩ := h.cells
 have c3 : w.cell? ⟨b3, 0, none⟩ = some (.pointer (some ⟨d, 0, none⟩)) := (cell_of_block hb3).trans rfl
 have c10 : w.cell? ⟨b10, 0, none⟩ = some (.pointer (some ⟨l, 0, none⟩)) := (cell_of_block hb10).trans rfl
 have c17 : w.cell? ⟨b17, 0, none⟩ = some (.int .i64 (en : Nat)) := (cell_of_block hb17).trans rfl
 have cl : w.cell? ⟨l, 4, none⟩ = some (.int .i64 (L.segment : Nat)) := (cell_of_block (hcs w (Keeps.refl _ _))).trans rfl
 have cz : w.cell? ⟨l, 6, none⟩ = some (.int .i64 (L.size : Nat)) := (cell_of_block (hcs w (Keeps.refl _ _))).trans rfl
 have H := qq h
 have h16 := h.nums.n16
 have hsg := h.nums.segment
 have HCS := qq hcs
 have HV := qq hv
 have HP := qq (z0b hp (by omega))
 clear h hv hb3 hb10 hb17 hcs hp o3 o10 o17
 show Calls Tryz.prog 60 #[.pointer (some ⟨b10, 0, none⟩), .pointer (some ⟨b17, 0, none⟩), .pointer (some ⟨b3, 0, none⟩)] w _
 have fac : ∀ u, Keeps (fun k => Fd k) w u -> (fun u : World => u.cell? ⟨b3, 0, none⟩ = some (.pointer (some ⟨d, 0, none⟩)) /\ u.cell? ⟨b10, 0, none⟩ = some (.pointer (some ⟨l, 0, none⟩)) /\ u.cell? ⟨l, 4, none⟩ = some (.int .i64 (L.segment : Nat)) /\ u.cell? ⟨b17, 0, none⟩ = some (.int .i64 (en : Nat)) /\ u.cell? ⟨l, 6, none⟩ = some (.int .i64 (L.size : Nat))) u := fun u hu =>
  ⟨(hu.cell (lt_of_cell c3) OO.out.1.1).trans c3, (hu.cell (lt_of_cell c10) OO.out.2.1.1).trans c10, (hu.cell (lt_of_cell cl) (H.out.apF l H.out.fl).1).trans cl, (hu.cell (lt_of_cell c17) OO.out.2.2.1).trans c17, (hu.cell (lt_of_cell cz) (H.out.apF l H.out.fl).1).trans cz⟩
 have FAC := qq fac
 clear fac
 generalize ho60 : (if L.size = en then nop else cuO L.seg en) = o60
 have HO := qq ho60
 clear ho60
 go_enter Tryz.func60, Tryz.ntmps60
 go_wp2
 refine WT.region (fun u : World => u.cell? ⟨b3, 0, none⟩ = some (.pointer (some ⟨d, 0, none⟩)) /\ u.cell? ⟨b10, 0, none⟩ = some (.pointer (some ⟨l, 0, none⟩)) /\ u.cell? ⟨l, 4, none⟩ = some (.int .i64 (L.segment : Nat)) /\ u.cell? ⟨b17, 0, none⟩ = some (.int .i64 (en : Nat)) /\ u.cell? ⟨l, 6, none⟩ = some (.int .i64 (L.size : Nat))) 6 6 [0, 1, 2, 3, 4, 5] (by kernel_rfl) rfl ?_
 have HS := qq (FAC.out w.drew (Keeps.refl _ w).drew)
 refine WT.t 0 (v := .pointer (some ⟨l, 0, none⟩)) (y := by rintro w ⟨C1, C2, C3, C4, C5⟩; exact zb (by kernel_rfl) (by rfl) C2) (s := HS.out) (h := ?_)
 refine WT.t 1 (v := _) (y := by rintro w ⟨C1, C2, C3, C4, C5⟩; go_simp; with_reducible rfl) (s := HS.out) (h := ?_)
 refine WT.t 2 (v := _) (y := by rintro w ⟨C1, C2, C3, C4, C5⟩; go_simp; with_reducible rfl) (s := HS.out) (h := ?_)
 refine WT.t 3 (v := .int .i64 (L.size : Nat)) (y := by rintro w ⟨C1, C2, C3, C4, C5⟩; exact zb (by kernel_rfl) (by rfl) C5) (s := HS.out) (h := ?_)
 refine WT.t 4 (v := .int .i64 (en : Nat)) (y := by rintro w ⟨C1, C2, C3, C4, C5⟩; exact zb (by kernel_rfl) (by rfl) C4) (s := HS.out) (h := ?_)
 refine WT.t 5 (v := _) (y := by rintro w ⟨C1, C2, C3, C4, C5⟩; go_simp; with_reducible rfl) (s := HS.out) (h := ?_)
 refine WT.stop (by kernel_rfl) ?_
 refine WP.done (by kernel_rfl) ?_
 have K0 : Hid (Keeps Nb w w.drew) := qq (Keeps.refl _ w).drew
 by_cases hse : L.size = en
 ·
  have F := qq (OpE.same (k := 1) (o := o60) (er := 0) H.out K0.out (by rw [<- HO.out, if_pos hse]; exact ⟨rfl, rfl⟩) (by omega))
  clear HS
  go_wp2
  go_ret
  exact F.out
 ·
  have HSE := qq hse
  clear HS
  go_wp2
  refine WT.region (fun u : World => u.cell? ⟨b3, 0, none⟩ = some (.pointer (some ⟨d, 0, none⟩)) /\ u.cell? ⟨b10, 0, none⟩ = some (.pointer (some ⟨l, 0, none⟩)) /\ u.cell? ⟨l, 4, none⟩ = some (.int .i64 (L.segment : Nat)) /\ u.cell? ⟨b17, 0, none⟩ = some (.int .i64 (en : Nat)) /\ u.cell? ⟨l, 6, none⟩ = some (.int .i64 (L.size : Nat))) 9 10 [0, 1, 2, 3, 4, 5, 7, 6, 8, 9] (by kernel_rfl) rfl ?_
  have K00 : Hid (Keeps Nb w w.drew.drew) := qq (Keeps.refl _ w).drew.drew
  have HS := qq (FAC.out w.drew.drew K00.out.of_nb)
  have SA := qq (z0n l L.name L.segment w.drew.drew (HV.out.nb K00.out) ((cell_of_block (HCS.out w.drew.drew K00.out)).trans rfl) (by omega) (by omega))
  refine WT.t 0 (v := .pointer (some ⟨d, 0, none⟩)) (y := by rintro w ⟨C1, C2, C3, C4, C5⟩; exact zb (by kernel_rfl) (by rfl) C1) (s := HS.out) (h := ?_)
  refine WT.t 1 (v := .pointer (some ⟨l, 0, none⟩)) (y := by rintro w ⟨C1, C2, C3, C4, C5⟩; exact zb (by kernel_rfl) (by rfl) C2) (s := HS.out) (h := ?_)
  refine WT.t 2 (v := .pointer (some ⟨l, 0, none⟩)) (y := by rintro w ⟨C1, C2, C3, C4, C5⟩; exact zb (by kernel_rfl) (by rfl) C2) (s := HS.out) (h := ?_)
  refine WT.t 3 (v := _) (y := by rintro w ⟨C1, C2, C3, C4, C5⟩; go_simp; with_reducible rfl) (s := HS.out) (h := ?_)
  refine WT.t 4 (v := _) (y := by rintro w ⟨C1, C2, C3, C4, C5⟩; go_simp; with_reducible rfl) (s := HS.out) (h := ?_)
  refine WT.t 5 (v := .int .i64 (L.segment : Nat)) (y := by rintro w ⟨C1, C2, C3, C4, C5⟩; exact zb (by kernel_rfl) (by rfl) C3) (s := HS.out) (h := ?_)
  refine WT.t 7 (v := .int .i64 (en : Nat)) (y := by rintro w ⟨C1, C2, C3, C4, C5⟩; exact zb (by kernel_rfl) (by rfl) C4) (s := HS.out) (h := ?_)
  refine WT.call 6 (by simp only [qi]; rfl) (by kernel_rfl) (by rfl) (by go_simp; first | done | rfl | exact ⟨⟨rfl, rfl⟩, rfl⟩ | exact ⟨⟨rfl, rfl, rfl⟩, rfl⟩ | exact ⟨⟨rfl, rfl, rfl, rfl⟩, rfl⟩ | exact ⟨⟨rfl, rfl, rfl, rfl, rfl⟩, rfl⟩) SA.out ?_
  rintro _ w1 ⟨rfl, k1⟩
  have K1 : Hid (Keeps Nb w w1) := qq (K00.out.trans_nb k1)
  refine ⟨_, rfl, FAC.out w1 K1.out.of_nb, ?_⟩
  simp only [Nat.reduceAdd, qn]
  have MA := qq (z8n d (sgf L.name L.segment) en X.D Fd Rd X.fc w1 (H.out.disk.nb K1.out) (z0y h16 (by omega)) HP.out (by omega))
  refine WT.call 8 (by simp only [qi]; rfl) (by kernel_rfl) (by rfl) (by go_simp; first | done | rfl | exact ⟨⟨rfl, rfl⟩, rfl⟩ | exact ⟨⟨rfl, rfl, rfl⟩, rfl⟩ | exact ⟨⟨rfl, rfl, rfl, rfl⟩, rfl⟩ | exact ⟨⟨rfl, rfl, rfl, rfl, rfl⟩, rfl⟩) MA.out ?_
  rintro _ w2 ⟨er, D', fc', rfl, hn2, hr⟩
  have ho : cuO L.seg en X er ⟨D', fc'⟩ := hr
  have hk2 : Keeps Fd w w2 := (K1.out.of_nb).trans (by obtain ⟨_, _, _, _, _, hk⟩ := hn2; exact hk) (fun _ _ e => e)
  have F := qq (OpE.disk (k := 1) (o := o60) H.out K1.out hn2 (by rw [<- HO.out, if_neg HSE.out]; exact ho) (pot_cu ho))
  have S2 := FAC.out w2 hk2
  clear hn2 hr ho MA SA k1 HS
  refine ⟨_, rfl, S2, ?_⟩
  simp only [Nat.reduceAdd, qn]
  refine WT.stop (by kernel_rfl) ?_
  refine WP.o 9 (v := _) (y := by go_simp; first | with_reducible rfl | exact ⟨rfl, rfl⟩) (h := ?_)
  refine WP.done (by kernel_rfl) ?_
  go_wp2
  go_ret
  exact F.out
end Go.Proofs.YtpjomdmjohjheaaGreatDoor
end
