/- What a drawn region's operations hand back: owned rows, their blocks apart from each other's; what they read. No program in sight. -/
import Derived.Test.YtanndcclkmcfbaaDoorRg
import Derived.Test.YtanndcclkmcfbaaDoorCopy
import Derived.ArgAppend
import Derived.Deep.Upon
namespace Go.Proofs.YtanndcclkmcfbaaDoor
open Go Go.RowKit

/-- What is told of one operation's value. -/
structure Ent where
  sh : Value → Prop
  ex : ∃ v, sh v
  fct : Value → Fct
  hs : ∀ v w U, fct v w U → sh v
  st : ∀ v, Stab (fct v)
def tNil : Told := ⟨fun _ _ => True, fun _ => ⟨undef, trivial⟩, fun _ _ _ _ => True, fun _ _ _ _ _ => trivial, fun _ _ _ _ _ _ _ => trivial⟩
def tAt (n : Nat) (e : Ent) (rest : Told) : Told where
  sh := fun i v => if i = n then e.sh v else rest.sh i v
  ex := fun i => by
    by_cases h : i = n
    · obtain ⟨v, hv⟩ := e.ex; exact ⟨v, by rw [if_pos h]; exact hv⟩
    · obtain ⟨v, hv⟩ := rest.ex i; exact ⟨v, by rw [if_neg h]; exact hv⟩
  fct := fun i v => if i = n then e.fct v else rest.fct i v
  hs := fun i v w U h => by
    by_cases hi : i = n
    · rw [if_pos hi] at h ⊢; exact e.hs _ _ _ h
    · rw [if_neg hi] at h ⊢; exact rest.hs _ _ _ _ h
  st := fun i v => by
    by_cases hi : i = n
    · rw [if_pos hi]; exact e.st v
    · rw [if_neg hi]; exact rest.st i v
theorem blks_nodup (a : Option Addr) (n c : Nat) : (blks (.slice a n c)).Nodup := by cases a <;> cases n <;> simp [blks]

/-- The value is a row of its own, in blocks that are claimed. -/
def gRow (B sz : Nat) (cs : List (List Value)) (v : Value) : Fct := fun W U => RowOwn B W v sz cs ∧ ∀ g ∈ blks v, U g
theorem gRow_stab (B sz : Nat) (cs : List (List Value)) (v : Value) : Stab (gRow B sz cs v) := fun _ _ _ hb ⟨h1, h2⟩ => ⟨h1.keep (keep_below hb (fun p hp => (h1.lt p hp).2)), h2⟩
theorem gRow_of {B sz : Nat} {cs : List (List Value)} {v : Value} {w w' : World} (h : RowOwn w.heap.size w' v sz cs) (hB : B ≤ w.heap.size) : gRow B sz cs v w' (news w w') := ⟨h.mono hB, fun g hg => h.lt g hg⟩
def eRow (B sz n : Nat) (cs : List (List Value)) (hn : cs.length = n) : Ent where
  sh := fun v => ∃ a c, v = .slice a n c
  ex := ⟨.slice none n 0, none, 0, rfl⟩
  fct := gRow B sz cs
  hs := fun v w U h => by rw [← hn]; exact h.1.shape
  st := gRow_stab B sz cs
/-- The value is this one. -/
def eVal (u : Value) : Ent where
  sh := fun v => v = u
  ex := ⟨u, rfl⟩
  fct := fun v _ _ => v = u
  hs := fun _ _ _ h => h
  st := fun _ _ _ _ _ h => h
/-- An empty slice of its own. -/
def eLit0 : Ent where
  sh := fun v => ∃ g, v = .slice (some ⟨g, 0, none⟩) 0 0
  ex := ⟨_, 0, rfl⟩
  fct := fun v _ _ => ∃ g, v = .slice (some ⟨g, 0, none⟩) 0 0
  hs := fun _ _ _ h => h
  st := fun _ _ _ _ _ h => h
/-- A slice of one built element. -/
def eLit1 (row : List Value) (t : TypeId) : Ent where
  sh := fun v => ∃ g, v = .slice (some ⟨g, 0, none⟩) 1 1
  ex := ⟨_, 0, rfl⟩
  fct := fun v W U => ∃ g, v = .slice (some ⟨g, 0, none⟩) 1 1 ∧ Box W g row.toArray t ∧ U g
  hs := fun _ _ _ ⟨g, h, _⟩ => ⟨g, h⟩
  st := fun _ _ _ _ hb ⟨g, h, k, u⟩ => ⟨g, h, k.below hb, u⟩
/-- What a slice of controls reads as. -/
def eCtls (l : List Ctl) : Ent where
  sh := fun v => ∃ a c, v = .slice a l.length c
  ex := ⟨.slice none l.length 0, none, 0, rfl⟩
  fct := fun v W _ => CtlsAt W v l
  hs := fun v w U h => by obtain ⟨a, c, rfl, _⟩ := CtlsM.open h; exact ⟨a, c, rfl⟩
  st := fun _ _ _ _ hb h => CtlsM.below h hb
def bigSh (b : Big) (v : Value) : Prop := ∃ a1 c1 a2 c2 a3 c3 a4 c4, v = .agg #[.int .i64 b.roots, .slice a1 b.nodes.length c1, .slice a2 b.sites.length c2, .int .i64 b.edges, .slice a3 b.outer.length c3, .slice a4 b.inner.length c4]
def eBig (b : Big) : Ent where
  sh := bigSh b
  ex := ⟨_, none, 0, none, 0, none, 0, none, 0, rfl⟩
  fct := fun v W _ => BigAt W v b
  hs := fun v w U h => by
    obtain ⟨vn, vs, vo, vi, rfl, h1, h2, h3, h4, _⟩ := h
    obtain ⟨a1, c1, rfl, _⟩ := h1.open
    obtain ⟨a2, c2, rfl, _⟩ := h2.open
    obtain ⟨a3, c3, rfl, _⟩ := h3.open
    obtain ⟨a4, c4, rfl, _⟩ := h4.open
    exact ⟨a1, c1, a2, c2, a3, c3, a4, c4, rfl⟩
  st := fun _ _ _ _ hb h => BigM.below h hb
/-- A bigraph of the call's own. -/
def gBig (B : Nat) (b : Big) (v : Value) : Fct := fun W U => ∃ bs, BigOwn B W v b bs ∧ bs.Nodup ∧ ∀ g ∈ bs, U g
theorem gBig_stab (B : Nat) (b : Big) (v : Value) : Stab (gBig B b v) := fun _ _ _ hb ⟨bs, h1, h2, h3⟩ => ⟨bs, h1.keep (keep_below hb (fun p hp => (h1.lt p hp).2)), h2, h3⟩
def eBigOwn (B : Nat) (b : Big) : Ent where
  sh := bigSh b
  ex := ⟨_, none, 0, none, 0, none, 0, none, 0, rfl⟩
  fct := gBig B b
  hs := fun v w U ⟨bs, h, _⟩ => (eBig b).hs v w U h.at
  st := gBig_stab B b
def fst3 : Value → Value
  | .tuple a => a.getD 0 undef
  | _ => undef
def snd3 : Value → Value
  | .tuple a => a.getD 1 undef
  | _ => undef
def blkOf : Value → Nat
  | .pointer (some a) => a.block
  | _ => 0
/-- Such a bigraph and whether there is one. -/
def eBigOk (B : Nat) (b : Big) (ok : Bool) : Ent where
  sh := fun v => ∃ u, v = .tuple #[u, .bool ok] ∧ bigSh b u
  ex := ⟨_, _, rfl, none, 0, none, 0, none, 0, none, 0, rfl⟩
  fct := fun v W U => v = .tuple #[fst3 v, .bool ok] ∧ gBig B b (fst3 v) W U
  hs := fun v w U ⟨e, h⟩ => ⟨_, e, (eBigOwn B b).hs _ w U h⟩
  st := fun v w w' U hb ⟨e, h⟩ => ⟨e, gBig_stab B b _ w w' U hb h⟩
/-- Two of them, apart. -/
def eBig2Ok (B : Nat) (b c : Big) (ok : Bool) : Ent where
  sh := fun v => ∃ u1 u2, v = .tuple #[u1, u2, .bool ok] ∧ bigSh b u1 ∧ bigSh c u2
  ex := ⟨_, _, _, rfl, ⟨none, 0, none, 0, none, 0, none, 0, rfl⟩, ⟨none, 0, none, 0, none, 0, none, 0, rfl⟩⟩
  fct := fun v W U => v = .tuple #[fst3 v, snd3 v, .bool ok] ∧ ∃ bs1 bs2, BigOwn B W (fst3 v) b bs1 ∧ bs1.Nodup ∧ BigOwn B W (snd3 v) c bs2 ∧ bs2.Nodup ∧ (∀ g ∈ bs1, g ∉ bs2) ∧ (∀ g ∈ bs1, U g) ∧ ∀ g ∈ bs2, U g
  hs := fun v w U ⟨e, bs1, bs2, h1, _, h2, _⟩ => ⟨_, _, e, (eBig b).hs _ w U h1.at, (eBig c).hs _ w U h2.at⟩
  st := fun v w w' U hb ⟨e, bs1, bs2, h1, n1, h2, n2, hd, c1, c2⟩ => ⟨e, bs1, bs2, h1.keep (keep_below hb (fun p hp => (h1.lt p hp).2)), n1, h2.keep (keep_below hb (fun p hp => (h2.lt p hp).2)), n2, hd, c1, c2⟩
/-- A variable of several cells, laid here. -/
def eBox (B : Nat) (cs : Array Value) (t : TypeId) : Ent where
  sh := fun v => ∃ g, v = .pointer (some ⟨g, 0, none⟩)
  ex := ⟨_, 0, rfl⟩
  fct := fun v W U => v = .pointer (some ⟨blkOf v, 0, none⟩) ∧ Box W (blkOf v) cs t ∧ B ≤ blkOf v ∧ U (blkOf v)
  hs := fun v w U h => ⟨_, h.1⟩
  st := fun v w w' U hb ⟨e, h, h2⟩ => ⟨e, h.below hb, h2⟩
def eStrs (l : List ByteArray) : Ent where
  sh := fun v => ∃ a c, v = .slice a l.length c
  ex := ⟨.slice none l.length 0, none, 0, rfl⟩
  fct := fun v W _ => StrsAt W v l
  hs := fun v w U h => by obtain ⟨a, c, rfl, _⟩ := StrsM.open h; exact ⟨a, c, rfl⟩
  st := fun _ _ _ _ hb h => StrsM.below h hb
def eInts (l : List Int) : Ent where
  sh := fun v => ∃ a c, v = .slice a l.length c
  ex := ⟨.slice none l.length 0, none, 0, rfl⟩
  fct := fun v W _ => IntsAt W v l
  hs := fun v w U h => by obtain ⟨a, c, rfl, _⟩ := IntsM.open h; exact ⟨a, c, rfl⟩
  st := fun _ _ _ _ hb h => IntsM.below h hb
theorem Only.setCell' {bs : List Nat} {a b : World} (h : Only bs a b) {p : Addr} (hp : p.block ∈ bs) (u : Value) : Only bs a (b.setCell p u) :=
  h.trans ⟨rfl, rfl, rfl, by simp [World.setCell], fun k _ hn => heap_setCell_other b p k u (fun e => hn (e ▸ hp))⟩
/-- All six cells of a variable are stored. -/
theorem box_fill {w : World} {g : Nat} {a0 a1 a2 a3 a4 a5 : Value} {t : TypeId} (h : Box w g #[a0, a1, a2, a3, a4, a5] t) (v0 v1 v2 v3 v4 v5 : Value) :
    ∃ Y, Y = (((((w.setCell ⟨g, 0, none⟩ v0).setCell ⟨g, 1, none⟩ v1).setCell ⟨g, 2, none⟩ v2).setCell ⟨g, 3, none⟩ v3).setCell ⟨g, 4, none⟩ v4).setCell ⟨g, 5, none⟩ v5 ∧ Box Y g #[v0, v1, v2, v3, v4, v5] t ∧ Only [g] w Y := by
  refine ⟨_, rfl, ?_, ?_⟩
  · have := (((((h.set 0 v0).set 1 v1).set 2 v2).set 3 v3).set 4 v4).set 5 v5
    simpa using this
  · iterate 6 refine Only.setCell' ?_ (by simp) _
    exact Only.refl _ _

section
variable {P : Program} {ops : Array Oper} {C : World → Prop} {G : Told} {L : RgK} {rest : List Nat} {F : Fct} {a : Act}
theorem app0_run (w : World) (t ty e : TypeId) (sz bytes M : Nat) (z : Value) (ht : P.underlying t = some (.slice e)) (hinf : (P.info? e).map (fun i => (i.zero, i.size, i.bytes)) = some (some z, sz, bytes)) (hzs : z.cells.size = sz) (hsz : 0 < sz) (hby : bytes ≤ 128)
    (ad : Addr) (x : Value) (cs : List (List Value)) (hx : RowAt M w x sz cs) (h1 : ∀ r ∈ cs, ∀ u ∈ r, u.oneCell' = true) (hlen : cs.length ≤ 1000000) :
    ∃ v' w', (Builtin.append_ #[t, t] ty #[.slice (some ad) 0 0, x]).run P w = .ok v' w' ∧ Below w.heap.size w w' ∧ gRow w.heap.size sz cs v' w' (news w w') := by
  obtain ⟨i, hi, hz0, hz1, hz2⟩ := info_parts hinf
  obtain ⟨ax, cx, rfl, _, _, hr, _⟩ := id hx
  by_cases hc : cs = []
  · subst hc
    refine ⟨_, w, run_append_nothing w t t ty e i ht hi (some ad) 0 0 (Nat.le_refl _) _ ?_, Below.refl _ _, own_none _ _ _ _ _, fun g hg => (by simp [blks] at hg)⟩
    cases ax with
    | none => exact Src.ofNil w ht cx
    | some b => exact Src.ofSlice w ht b 0 cx [] (by simp) (fun j u hj => by simp at hj) (fun u hu => by cases hu)
  · have hpos : 0 < cs.length := List.length_pos_iff.2 hc
    cases ax with
    | none => exact absurd hx.nil_of_none hc
    | some b =>
      obtain ⟨v', w', hrun, hown, hg⟩ := run_append_arg_grows (P := P) w t ty e i z sz bytes ht hi hz0 hz1 hz2 hzs hsz ad 0 0 [] (by simp) (fun j u hj => by simp at hj) b cs.length cx cs.flatten (flatLen2 cs hr) hx.news (by omega) (by unfold maxLen; omega)
        (by have : (0 + cs.length) * bytes ≤ (0 + cs.length) * 128 := Nat.mul_le_mul_left _ hby; omega)
      refine ⟨v', w', hrun, (Below.refl _ _).grown hg (Nat.le_refl _) (fun k hk => by cases hk), ?_⟩
      exact gRow_of (RowOwn.of_owns (cs := cs) (n := 0 + cs.length) (by simpa using hown) (by simp) hr) (Nat.le_refl _)
/-- 'append(T{}, x...)' as an operation. -/
theorem rg_app0 {o : Oper} (s x : Operand) (t : TypeId) (ho : o.op = .call { callee := .builtin .append, args := #[s, x], argTypes := #[t, t] })
    (e : TypeId) (sz bytes M B : Nat) (z : Value) (ht : P.underlying t = some (.slice e)) (hinf : (P.info? e).map (fun i => (i.zero, i.size, i.bytes)) = some (some z, sz, bytes)) (hzs : z.cells.size = sz) (hsz : 0 < sz) (hby : bytes ≤ 128)
    (ad : Addr) (xv : Value) (cs : List (List Value)) (hs : a.eval s = .slice (some ad) 0 0) (hx : a.eval x = xv) (h1 : ∀ r ∈ cs, ∀ u ∈ r, u.oneCell' = true) (hlen : cs.length ≤ 1000000) (w : World) (hr : RowAt M w xv sz cs) (hB : B ≤ w.heap.size) :
    ∃ u w1, (execOp a.eval o).run P w = .ok (.value u) w1 ∧ Below w.heap.size w w1 ∧ gRow B sz cs u w1 (news w w1) := by
  obtain ⟨v', w', hrun, hb, h1', h2'⟩ := app0_run (P := P) w t o.type e sz bytes M z ht hinf hzs hsz hby ad xv cs hr h1 hlen
  refine ⟨v', w', ?_, hb, h1'.mono hB, h2'⟩
  simp [execOp, ho, resolve, invoke, builtin, hs, hx, hrun, Result.andThen]
theorem one_strRows (l : List ByteArray) : ∀ r ∈ strRows l, ∀ u ∈ r, u.oneCell' = true := by
  intro r hr u hu; simp only [strRows, List.mem_map] at hr; obtain ⟨x, _, rfl⟩ := hr; simp only [List.mem_singleton] at hu; subst hu; rfl
theorem one_intRows (l : List Int) : ∀ r ∈ intRows l, ∀ u ∈ r, u.oneCell' = true := by
  intro r hr u hu; simp only [intRows, List.mem_map] at hr; obtain ⟨x, _, rfl⟩ := hr; simp only [List.mem_singleton] at hu; subst hu; rfl
theorem one_wrRows (l : List Wr) : ∀ r ∈ l.map Wr.cells, ∀ u ∈ r, u.oneCell' = true := by
  intro r hr u hu; simp only [List.mem_map] at hr; obtain ⟨x, _, rfl⟩ := hr; simp only [Wr.cells, List.mem_cons, List.not_mem_nil, or_false] at hu; rcases hu with rfl | rfl <;> rfl
theorem len_strRows (l : List ByteArray) : (strRows l).length = l.length := by simp [strRows]
theorem len_intRows (l : List Int) : (intRows l).length = l.length := by simp [intRows]
theorem len_wrRows (l : List Wr) : (l.map Wr.cells).length = l.length := by simp
end
end Go.Proofs.YtanndcclkmcfbaaDoor
