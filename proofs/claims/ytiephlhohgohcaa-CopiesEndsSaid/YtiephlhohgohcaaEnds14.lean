/- Part 14 of what the row rests on: each text as it stands among the working texts, cut to what is used; those of the print of the kit as a program printed them. -/
import Derived.Test.YtiephlhohgohcaaEnds7
import Derived.Test.YtiephlhohgohcaaEnds13
import Derived.Test.YtiephlhohgohcaaEnds12
set_option linter.unusedVariables false
set_option linter.unusedSimpArgs false
namespace Go.Proofs.Ytiephlhohgohcaa.PAll
open Go.RowKit Go.Proofs.YtiephlhohgohcaaW.PrintWords Go.Proofs.YtiephlhohgohcaaW.PrintLast Go.Proofs.YtiephlhohgohcaaW.PrintMore
set_option linter.unusedVariables false
set_option linter.unusedSimpArgs false
/-- All blocks but two that lay before lie as they lay. -/
structure KeptBut (a b : Nat) (w w' : World) : Prop where
  size : w.heap.size ≤ w'.heap.size
  same : ∀ k, k < w.heap.size → k ≠ a → k ≠ b → w'.heap[k]? = w.heap[k]?
theorem KeptBut.refl (a b : Nat) (w : World) : KeptBut a b w w := ⟨Nat.le_refl _, fun _ _ _ _ => rfl⟩
theorem KeptBut.trans {a b : Nat} {x y z : World} (h : KeptBut a b x y) (k : KeptBut a b y z) : KeptBut a b x z :=
  ⟨Nat.le_trans h.size k.size, fun i hi ha hb => (k.same i (Nat.lt_of_lt_of_le hi h.size) ha hb).trans (h.same i hi ha hb)⟩
theorem KeptBut.of_below {a b : Nat} {w w' : World} (h : Below w.heap.size w w') : KeptBut a b w w' := ⟨h.size, fun k hk _ _ => h.block k hk⟩
theorem KeptBut.blk {a b k : Nat} {w w' : World} {o : Obj} (h : KeptBut a b w w') (hk : w.heap[k]? = some o) (ha : k ≠ a) (hb : k ≠ b) : w'.heap[k]? = some o := (h.same k (blk_lt hk) ha hb).trans hk
theorem KeptBut.set {a b : Nat} (w : World) (j : Nat) (u : Value) : KeptBut a b w (w.setCell ⟨a, j, none⟩ u) := ⟨by simp [World.setCell], fun k _ ha _ => Below.heap_setCell w ⟨a, j, none⟩ u k ha⟩
theorem KeptBut.grown {a b : Nat} {w w' : World} (h : w.grownBy w' (some b)) : KeptBut a b w w' := ⟨h.size, fun k hk _ hb => h.block k hk (fun e => hb (Option.some.inj e))⟩
theorem DMap.at {W : World} {b n : Nat} {m : Int → Int → Bool} (h : DMap W b n m) : ∃ es clock, W.heap[b]? = some (.map es clock) := by
  obtain ⟨D, ⟨es, clock, h1, _⟩, _⟩ := h; exact ⟨es, clock, h1⟩
theorem map_ne {W : World} {b k : Nat} {n : Nat} {m : Int → Int → Bool} (h : DMap W b n m) {cs : Array Value} {t : TypeId} {fr : Nat × Nat} (hk : W.heap[k]? = some (.cells cs t fr)) : k ≠ b := by
  rintro rfl
  obtain ⟨es, clock, h1⟩ := h.at
  rw [hk] at h1
  cases h1
theorem R_keptBut {w w' : World} {a b n : Nat} {m : Int → Int → Bool} {base : Nat} {ok : Nat → Prop} {v : Value} {xs : List Int} (h : Kd.R (Kd.int .i64) 3 w base ok v xs) (hk : KeptBut a b w w') {ca : Array Value} (ha : w.heap[a]? = some (.cells ca 22 (0, 0))) (hb : DMap w b n m) : Kd.R (Kd.int .i64) 3 w' base ok v xs :=
  Kd.R_mono (Kd.R_move (Kd.R_bound h) (fun k hk' => by
    obtain ⟨_, _, hlt, q, hq, cells, hc⟩ := hk'
    have hq3 : q = 3 := by
      rcases List.mem_cons.1 hq with rfl | hq
      · rfl
      · cases hq
    subst hq3
    exact hk.same k hlt (blk_ne hc ha (by decide)) (map_ne hb hc))) (fun _ hk' => hk'.1)
/-- The boxes of a search: the post at work, what was found, the dead states, the entries, the search itself. -/
structure SBoxes (W : World) (bw bf bd bl bn g mb : Nat) (Al : Option Addr) (nl cl : Nat) : Prop where
  work : W.heap[bw]? = some (.cells #[.pointer (some ⟨g, 0, none⟩)] 139 (0, 0))
  found : ∃ v, W.heap[bf]? = some (.cells #[v] 22 (0, 0))
  dead : W.heap[bd]? = some (.cells #[.map (some mb)] 191 (0, 0))
  list : W.heap[bl]? = some (.cells #[.slice Al nl cl] 36 (0, 0))
  next : W.heap[bn]? = some (.cells #[.func (.func 137) #[] #[.pointer (some ⟨bw, 0, none⟩), .pointer (some ⟨bf, 0, none⟩), .pointer (some ⟨bd, 0, none⟩), .pointer (some ⟨bl, 0, none⟩), .pointer (some ⟨bn, 0, none⟩)]] 192 (0, 0))
theorem SBoxes.kept {W W' : World} {bw bf bd bl bn g mb N : Nat} {m : Int → Int → Bool} {Al : Option Addr} {nl cl : Nat} (h : SBoxes W bw bf bd bl bn g mb Al nl cl) (hm : DMap W mb N m) (hk : KeptBut bf mb W W') (hf : ∃ v, W'.heap[bf]? = some (.cells #[v] 22 (0, 0))) : SBoxes W' bw bf bd bl bn g mb Al nl cl := by
  obtain ⟨h1, ⟨v, h2⟩, h3, h4, h5⟩ := h
  exact ⟨hk.blk h1 (blk_ne h1 h2 (by decide)) (map_ne hm h1), hf, hk.blk h3 (blk_ne h3 h2 (by decide)) (map_ne hm h3), hk.blk h4 (blk_ne h4 h2 (by decide)) (map_ne hm h4), hk.blk h5 (blk_ne h5 h2 (by decide)) (map_ne hm h5)⟩
theorem SBoxes.below {W W' : World} {bw bf bd bl bn g mb : Nat} {Al : Option Addr} {nl cl : Nat} (h : SBoxes W bw bf bd bl bn g mb Al nl cl) (hb : Below W.heap.size W W') : SBoxes W' bw bf bd bl bn g mb Al nl cl := by
  obtain ⟨h1, ⟨v, h2⟩, h3, h4, h5⟩ := h
  exact ⟨blk_below h1 hb, ⟨v, blk_below h2 hb⟩, blk_below h3 hb, blk_below h4 hb, blk_below h5 hb⟩
/-- What holds while a search's call goes on: w0 is the world in which the search began, w that in which the call did. -/
structure NAt (w0 w W : World) (bw bf bd bl bn g mb b8 : Nat) (Al : Option Addr) (nl cl : Nat) (n : Int) (hv : Value) (hs : List Int) : Prop where
  boxes : SBoxes W bw bf bd bl bn g mb Al nl cl
  num : W.heap[b8]? = some (.cells #[.int .i64 n] 3 (0, 0))
  kept : KeptBut bf mb w W
  below : Below w0.heap.size w0 W
  row : Kd.R (Kd.int .i64) 3 W w0.heap.size (fun _ => True) hv hs
theorem NAt.step {w0 w W W' : World} {bw bf bd bl bn g mb b8 N : Nat} {m : Int → Int → Bool} {Al : Option Addr} {nl cl : Nat} {n : Int} {hv : Value} {hs : List Int} (h : NAt w0 w W bw bf bd bl bn g mb b8 Al nl cl n hv hs) (hm : DMap W mb N m) (hk : KeptBut bf mb W W')
    (hb : Below w0.heap.size w0 W') (hf : ∃ v, W'.heap[bf]? = some (.cells #[v] 22 (0, 0))) : NAt w0 w W' bw bf bd bl bn g mb b8 Al nl cl n hv hs := by
  obtain ⟨v, h2⟩ := h.boxes.found
  exact ⟨h.boxes.kept hm hk hf, hk.blk h.num (blk_ne h.num h2 (by decide)) (map_ne hm h.num), h.kept.trans hk, hb, R_keptBut h.row hk h2 hm⟩
theorem NAt.later {w0 w W W' : World} {bw bf bd bl bn g mb b8 : Nat} {Al : Option Addr} {nl cl : Nat} {n : Int} {hv : Value} {hs : List Int} (h : NAt w0 w W bw bf bd bl bn g mb b8 Al nl cl n hv hs) (hb : Below W.heap.size W W') : NAt w0 w W' bw bf bd bl bn g mb b8 Al nl cl n hv hs :=
  ⟨h.boxes.below hb, blk_below h.num hb, h.kept.trans (.of_below hb), below_then h.below h.below.size hb, Kd.R_below h.row hb⟩
/-- What a call of the search leaves. -/
def NextPost (routes : List S122) (pat : Int) (l : List S87) (sends : List Int) (w0 w : World) (bf mb N P : Nat) (hs : List Int) (o : Option (List Int)) (e : Ending) (w' : World) : Prop :=
  ∃ (N' : Nat) (m' : Int → Int → Bool) (v : Value), N' ≤ N + P ∧ DMap w' mb N' m' ∧ Sound routes pat l sends m' ∧ KeptBut bf mb w w' ∧ Below w0.heap.size w0 w' ∧ e = .returned (.bool o.isSome) ∧ w'.heap[bf]? = some (.cells #[v] 22 (0, 0)) ∧
    ∀ r, o = some r → Kd.R (Kd.int .i64) 3 w' w0.heap.size (fun _ => True) v (hs ++ r)
/-- An append within a region that draws its order, of an element that lies in a block of its own. -/
theorem kd_append_at {α : Type} (d : Kd α) {P : Program} {ops : Array Oper} {o : Oper} {a : Act} {Kc : Act → World → Prop} {Q : Exit → Act → World → Prop} {E : Prop} {w0 W : World} (base : Nat) (hw : Region.wanted o (yielded ops a.tmps) = true) (s x : Operand) (t e : TypeId) (z : Value) (bytes : Nat)
    (ho : o.op = .call { callee := .builtin .append, args := #[s, x], argTypes := #[t, t] })
    (ht : P.underlying t = some (.slice e)) (hinfo : (P.info? e).map (fun i => (i.zero, i.size, i.bytes)) = some (some z, d.sz, bytes)) (hz : z.cells.size = d.sz) (hs0 : 0 < d.sz)
    (v : Value) (xs : List α) (p : α) (cs : List Value) (gx : Nat) (hs : a.eval s = v) (hx : a.eval x = .slice (some ⟨gx, 0, none⟩) 1 1) (hgx : W.heap[gx]? = some (.cells cs.toArray e (0, 0))) (okp : Nat → Prop) (hp : d.M W base okp p cs) (hokp : ∀ k, okp k → some k ≠ v.ownBlock)
    (HO : d.R e W base (fun _ => True) v xs) (HB : Below base w0 W) (hbase : base ≤ W.heap.size) (hl : (xs.length + 1) * bytes ≤ 140737488355328) (h63 : xs.length + 1 ≤ maxLen)
    (h : ∀ g cap w1, d.R e w1 base (fun _ => True) (.slice (some ⟨g, 0, none⟩) (xs.length + 1) cap) (xs ++ [p]) → Below base w0 w1 → W.grownBy w1 v.ownBlock → Kc (a.put o.dst (.slice (some ⟨g, 0, none⟩) (xs.length + 1) cap)) w1) :
    if Region.wanted o (yielded ops a.tmps) = true then Oper.wp P o a W Kc Q else E := by
  rw [if_pos hw]
  obtain ⟨i0, hi, hzz⟩ := Option.map_eq_some_iff.1 hinfo
  simp only [Prod.mk.injEq] at hzz
  obtain ⟨hz0, hz1, hz2⟩ := hzz
  obtain ⟨h0, inner, hown, hr⟩ := HO
  have hlen := d.K_len (d.K_of_M hp)
  refine wp_append_lies _ s x t ho base e i0 z d.sz bytes ht hi hz0 hz1 hz2 hz hs0 v xs.length inner hs hown ⟨gx, 0, none⟩ 1 1 cs hx (by omega)
    (World.news_of_block (cs := cs.toArray) (t := e) (fr := (0, 0)) hgx) (d.K_one (d.K_of_M hp)) (by omega) h63 hl hbase _ rfl ?_
  intro g cap w1 hown1 hg hat hlt
  refine h g cap w1 (Kd.R_appended h0 hr hp (fun k hk => ⟨trivial, hokp k hk⟩) (fun _ _ => trivial) hown1 hg ?_) ?_ hg
  · rcases hat with hat | hat
    · exact .inl (by rw [hat]; rfl)
    · exact .inr ⟨g, rfl, by rw [hat]; simp⟩
  · exact HB.grown hg hbase (fun k hk => own_base hown k hk)
/-- A call of a function value within a region that draws its order. -/
theorem goesV_ {P : Program} {ops : Array Oper} {Q : Exit → Act → World → Prop} {oi : Oper} {N : Option Tmp} {a : Act} {w : World} {K : Act → World → Prop} {f : FuncId} {fn : Func} {fo : Operand} {caps : Array Value} {xs : Array Operand} {ts : Array TypeId} (hf : P.funcs[f]? = some fn) (hname : (fn.name == "runtime.NumGoroutine") = false) (hb : fn.body.isSome = true) (args : Array Value)
    (hw : Region.wanted oi (yielded ops a.tmps) = true) (hN : oi.dst = N) (hop : oi.op = .call { callee := .value fo, args := xs, argTypes := ts }) (hfo : a.eval fo = .func (.func f) #[] caps) (args0 : Array Value) (hargs : xs.map a.eval = args0) (happ : args0 ++ caps = args)
    (h : Calls P f args w fun e w' => ∃ v, e = .returned v ∧ K (a.put N v) w') : if Region.wanted oi (yielded ops a.tmps) = true then Oper.wp P oi a w K Q else K (a.put N undef) w := by
  refine call_ f args hw hN ?_ h
  have he := enters_ hf hname hb args w
  unfold execOp
  subst hargs
  subst happ
  simp [hop, resolve, hfo, Deferred.ofValue, invoke, he]
end Go.Proofs.Ytiephlhohgohcaa.PAll
