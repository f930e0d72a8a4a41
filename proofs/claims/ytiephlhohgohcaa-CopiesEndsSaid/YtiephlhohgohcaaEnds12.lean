/- Part 12 of what the row rests on: each text as it stands among the working texts, cut to what is used; those of the print of the kit as a program printed them. -/
import Derived.Test.YtiephlhohgohcaaEnds11
import Derived.Maps.Own
import Derived.Maps.OwnIn
import Derived.Maps.Views
import Derived.DeepKeys4
set_option linter.unusedVariables false
set_option linter.unusedSimpArgs false
namespace Go.Proofs.Ytiephlhohgohcaa.PAll
open Go.RowKit Go.Shelf Go.Proofs.YtiephlhohgohcaaW.PrintWords Go.Proofs.YtiephlhohgohcaaW.PrintLast Go.Proofs.YtiephlhohgohcaaW.PrintMore
set_option linter.unusedVariables false
set_option linter.unusedSimpArgs false
def ptrElem (v : Value) : Option (DataW Unit × List MemPlace) :=
  match v with
  | .pointer none => some (.nil, [])
  | .pointer (some ⟨g, 0, none⟩) => some (.lit (.int .i64 (g : Int)), [])
  | _ => none
theorem key142 : Maps.Keyed Try.prog 142 := Maps.Keyed.of_law (deep_law_laid (by kernel_rfl) (m := 5) (by decide) (Nat.le_of_ble_eq_true (by kernel_rfl)) (by kernel_rfl) (by kernel_rfl))
theorem keyT142 : Try.prog.keyType 142 = true := by kernel_rfl
theorem cells142 : Try.prog.cellsOf 142 = 2 := by kernel_rfl
theorem cells3 : Try.prog.cellsOf 3 = 1 := by kernel_rfl
theorem keyLits3 (m : Nat) (i : Int) (hi : (Lit.int .i64 i).wf = true) : Try.prog.keyLits (m + 1) 3 [.int .i64 i] = some [.int .i64 i] := by
  simp only [Program.keyLits, Try.underlying3, hi, and_self, if_true]
theorem keyLits142 (m : Nat) (i k : Int) (hi : (Lit.int .i64 i).wf = true) (hk : (Lit.int .i64 k).wf = true) : Try.prog.keyLits (m + 2) 142 [.int .i64 i, .int .i64 k] = some [.int .i64 i, .int .i64 k] := by
  unfold Program.keyLits
  simp only [Try.underlying142, cells142]
  simp [cells3, keyLits3, hi, hk]
theorem keyOf142 (i k : Int) (hi : (Lit.int .i64 i).wf = true) (hk : (Lit.int .i64 k).wf = true) : ∃ kl, keyOf Try.prog 142 (.agg #[.int .i64 i, .int .i64 k]) = some kl := by
  obtain ⟨m, hm⟩ : ∃ m, Try.prog.types.size + 1 = m + 2 := ⟨Try.prog.types.size - 1, by have : 1 ≤ Try.prog.types.size := Nat.le_of_ble_eq_true (by kernel_rfl); omega⟩
  have hf : (Value.agg #[.int .i64 i, .int .i64 k]).formed Try.prog 142 = true := by simp only [Value.formed, Try.underlying142, cells142]; rfl
  refine ⟨.string (keyBytes [.int .i64 i, .int .i64 k]), ?_⟩
  rw [keyOf]
  simp only [Try.underlying142, keyT142, hf, Bool.and_self, if_true, hm]
  rw [show (Value.agg #[.int .i64 i, .int .i64 k]).cells.toList = [.int .i64 i, .int .i64 k] from rfl, keyLits142 m i k hi hk]
  rfl
theorem ptrElem_inv {v : Value} {g : Nat} {ps : List MemPlace} (h : ptrElem v = some (.lit (.int .i64 (g : Int)), ps)) : v = .pointer (some ⟨g, 0, none⟩) := by
  unfold ptrElem at h
  split at h
  · cases h
  · simp only [Option.some.injEq, Prod.mk.injEq, DataW.lit.injEq, Lit.int.injEq, true_and] at h
    have : (_ : Nat) = g := Int.ofNat.inj h.1
    rw [this]
  · cases h
/-- Block b is a map of at most n sets: the set of (i, k) is the block m i k. -/
def HMap (W : World) (b n : Nat) (m : Int → Int → Option Nat) : Prop :=
  ∃ D : DataW Unit, W.ownsMap Try.prog 142 ptrElem b n D ∧ ∀ i k kl, keyOf Try.prog 142 (.agg #[.int .i64 i, .int .i64 k]) = some kl → D.atKey kl .nil = (match m i k with | some g => .lit (.int .i64 (g : Int)) | none => .nil)
theorem HMap.made (W : World) : HMap (W.alloc (.map #[] 0)) W.heap.size 0 (fun _ _ => none) := ⟨.map [], World.ownsMap_made _ _ _ _, fun _ _ _ _ => rfl⟩
theorem HMap.kept {W W' : World} {b n : Nat} {m : Int → Int → Option Nat} {row : Option Nat} (h : HMap W b n m) (hg : W.grownBy W' row) (hne : some b ≠ row) : HMap W' b n m := by
  obtain ⟨D, h1, h2⟩ := h; exact ⟨D, h1.kept hg hne, h2⟩
theorem HMap.lt {W : World} {b n : Nat} {m : Int → Int → Option Nat} (h : HMap W b n m) : b < W.heap.size := by obtain ⟨D, h1, _⟩ := h; exact h1.lt
theorem HMap.eq {W W' : World} {b n : Nat} {m : Int → Int → Option Nat} (h : HMap W b n m) (e : W'.heap[b]? = W.heap[b]?) : HMap W' b n m := by
  obtain ⟨D, ⟨es, clock, h1, h2⟩, h3⟩ := h; exact ⟨D, ⟨es, clock, e.trans h1, h2⟩, h3⟩
theorem HMap.below {W W' : World} {b n : Nat} {m : Int → Int → Option Nat} (h : HMap W b n m) (hb : Below W.heap.size W W') : HMap W' b n m := h.eq (hb.block b h.lt)
theorem HMap.lookup {W : World} {b n : Nat} {m : Int → Int → Option Nat} (h : HMap W b n m) {i k : Int} {g : Nat} (hi : (Lit.int .i64 i).wf = true) (hk : (Lit.int .i64 k).wf = true) (hm : m i k = some g) :
    (Instr.lookup 136 (.map (some b)) (.agg #[.int .i64 i, .int .i64 k]) false).run Try.prog W = .ok (.pointer (some ⟨g, 0, none⟩)) W := by
  obtain ⟨D, h1, h2⟩ := h
  obtain ⟨kl, hkl⟩ := keyOf142 i k hi hk
  obtain ⟨v, ps, hrun, hv⟩ := h1.lookup key142 Try.underlying136 (Try.zeroValue135 W) (zd := .nil) (zp := []) rfl hkl
  rw [h2 i k kl hkl, hm] at hv
  rw [hrun, ptrElem_inv hv]
theorem HMap.put {W : World} {b n : Nat} {m : Int → Int → Option Nat} {i k : Int} {g : Nat} {kl : Lit} {D : DataW Unit} (hkl : keyOf Try.prog 142 (.agg #[.int .i64 i, .int .i64 k]) = some kl)
    (h2 : ∀ i k kl, keyOf Try.prog 142 (.agg #[.int .i64 i, .int .i64 k]) = some kl → D.atKey kl .nil = (match m i k with | some g => .lit (.int .i64 (g : Int)) | none => .nil)) (hD : Maps.IsMap D)
    (h1 : W.ownsMap Try.prog 142 ptrElem b n (D.put kl (.lit (.int .i64 (g : Int))))) : HMap W b n (fun i' k' => if i' = i ∧ k' = k then some g else m i' k') := by
  refine ⟨_, h1, fun i' k' kl' h' => ?_⟩
  by_cases e : kl' = kl
  · subst e
    have hinj := key142.inj h' hkl
    simp only [Value.agg.injEq, Array.mk.injEq, List.cons.injEq, Value.int.injEq, true_and, and_true] at hinj
    rw [Maps.atKey_put_same hD (key142.key hkl)]
    simp only [if_pos hinj]
  · have hne : ¬ (i' = i ∧ k' = k) := by
      rintro ⟨rfl, rfl⟩
      rw [hkl] at h'
      exact e (Option.some.inj h').symm
    rw [Maps.atKey_put_other e, h2 i' k' kl' h']
    simp only [if_neg hne]
end Go.Proofs.Ytiephlhohgohcaa.PAll
namespace Go.Proofs.Ytiephlhohgohcaa.PAll
open Go.RowKit Go.Shelf Go.Proofs.YtiephlhohgohcaaW.PrintWords Go.Proofs.YtiephlhohgohcaaW.PrintLast Go.Proofs.YtiephlhohgohcaaW.PrintMore
set_option linter.unusedVariables false
set_option linter.unusedSimpArgs false
theorem zero181 : Try.zeroCells181 = Array.replicate 101 (.bool false) := by kernel_rfl
theorem SetAt.zero (W : World) : SetAt (W.alloc (.cells Try.zeroCells181 181)) W.heap.size (fun _ => false) := by rw [zero181]; exact SetAt.new W
theorem SetAt.congr {W : World} {b : Nat} {f g : Int → Bool} (h : SetAt W b f) (e : ∀ x, f x = g x) : SetAt W b g := by rw [show g = f from funext fun x => (e x).symm]; exact h
/-- The temporaries t, those of ns by u. -/
def over (t : Array Value) (ns : List Nat) (u : Nat → Value) : Array Value := ns.foldl (fun t n => t.setIfInBounds n (u n)) t
theorem over_self (t : Array Value) : ∀ ns : List Nat, over t ns (fun n => t.getD n undef) = t
  | [] => rfl
  | n :: ns => by
    have h : t.setIfInBounds n (t.getD n undef) = t := by
      apply Array.ext_getElem?
      intro i
      rw [Array.getElem?_setIfInBounds]
      by_cases e : n = i
      · subst e
        by_cases hl : n < t.size
        · simp [hl]
        · simp [hl]
      · simp [e]
    show over (t.setIfInBounds n (t.getD n undef)) ns _ = t
    rw [h]; exact over_self t ns
/-- A loop whose rounds may leave calls for the function's end. -/
theorem wp_loop_d {P : Program} {Q : Exit → Act → World → Prop} {t : Array Value} {ds : List Deferred} {w : World} {c : Code} (ns : List Nat) (n0 : Nat) (I : Nat → (Nat → Value) → List Deferred → World → Prop)
    (h0 : I n0 (fun m => t.getD m undef) ds w)
    (round : ∀ n u es w, I n u es w → ∀ (J : Nat → Act → World → Prop) (K : Act → World → Prop),
      (∀ k t' es' w', over t ns (fun m => t'.getD m undef) = t' → I k (fun m => t'.getD m undef) es' w' → J k { tmps := t', defers := es' } w') → (∀ a' w', Handed J n a' w' → K a' w') → c.wp P (Exit.then K Q) { tmps := over t ns u, defers := es } w) :
    (Code.loop c).wp P Q { tmps := t, defers := ds } w := by
  refine wp_loop_ghost_k (fun k a' w' => ∃ u es, a' = { tmps := over t ns u, defers := es } ∧ I k u es w') n0 ⟨_, ds, by rw [over_self], h0⟩ ?_
  rintro n a w ⟨u, es, rfl, hI⟩ J K hJ hK
  exact round n u es w hI J K (fun k t' es' w' ht hI' => hJ k _ _ ⟨_, es', by rw [ht], hI'⟩) hK
/-- The calls that ranges over functions have left: none of them does anything. -/
def Marks (base : Nat) (ds : List Deferred) (w : World) : Prop :=
  ∃ Ds : List Nat, ds = Ds.map (fun D => { target := .collected D, args := #[] }) ∧ Ds.Nodup ∧ ∀ D ∈ Ds, base ≤ D ∧ w.heap[D]? = some (.deferred (some []))
theorem Marks.nil (base : Nat) (w : World) : Marks base [] w := ⟨[], rfl, List.nodup_nil, fun _ h => by cases h⟩
theorem Marks.keeps {base : Nat} {ds : List Deferred} {w w' : World} (h : Marks base ds w) (hk : KeepsFrom base w w') : Marks base ds w' := by
  obtain ⟨Ds, h1, h2, h3⟩ := h
  exact ⟨Ds, h1, h2, fun D hD => ⟨(h3 D hD).1, hk.same D _ (h3 D hD).1 (h3 D hD).2 rfl⟩⟩
theorem Marks.cons {base : Nat} {ds : List Deferred} {w w' : World} {D : Nat} (h : Marks base ds w) (hk : KeepsFrom base w w') (hb : base ≤ D) (hD : w.heap.size ≤ D) (hw : w'.heap[D]? = some (.deferred (some []))) : Marks base ({ target := .collected D, args := #[] } :: ds) w' := by
  obtain ⟨Ds, h1, h2, h3⟩ := h.keeps hk
  obtain ⟨Ds', h1', h2', h3'⟩ := h
  refine ⟨D :: Ds', by rw [h1']; rfl, List.nodup_cons.2 ⟨fun hm => ?_, h2'⟩, fun E hE => ?_⟩
  · have := blk_lt (h3' D hm).2; omega
  · rcases List.mem_cons.1 hE with rfl | hE
    · exact ⟨hb, hw⟩
    · exact ⟨(h3' E hE).1, hk.same E _ (h3' E hE).1 (h3' E hE).2 rfl⟩
/-- All but the marks lies as it lay. -/
def KeptAll (w w' : World) : Prop := ∀ (k : Nat) (o : Obj), w.heap[k]? = some o → (∀ x, o ≠ Obj.deferred x) → w'.heap[k]? = some o
theorem leaves_marks {F : Fence} {n : Nat} {P : Program} {fn : Func} {tmps : Array Value} {R : Ending → World → Prop} {base : Nat} : ∀ (Ds : List Nat) (w : World), Ds.Nodup → (∀ D ∈ Ds, base ≤ D ∧ w.heap[D]? = some (.deferred (some []))) → base ≤ w.heap.size →
    (∀ w', Below base w w' → KeptAll w w' → ∃ v, (results fn tmps).run P w' = .ok v w' ∧ R (.returned v) w') →
    LeavesInM F n P fn tmps R (Ds.map (fun D => { target := .collected D, args := #[] })) .returning w
  | [], w, _, _, _, h => h w (Below.refl _ _) (fun _ _ h _ => h)
  | D :: Ds, w, hn, hD, hb, h => by
    have hd := (hD D (List.mem_cons_self ..)).2
    have hbD := (hD D (List.mem_cons_self ..)).1
    refine ⟨by simp, .inl ⟨_, _, rfl, run_takeDeferred hd, ?_⟩⟩
    have hg := grownBy_putObj' w D (.deferred none)
    have hne : ∀ k, k ≠ D → (w.putObj D (.deferred none)).heap[k]? = w.heap[k]? := fun k hk => World.putObj_heap_other hk
    refine leaves_marks Ds _ (List.nodup_cons.1 hn).2 (fun E hE => ⟨(hD E (List.mem_cons_of_mem _ hE)).1, ?_⟩) (by simpa using hb) (fun w' hw1 hw2 => h w' ?_ ?_)
    · rw [hne E (fun e => (List.nodup_cons.1 hn).1 (e ▸ hE))]; exact (hD E (List.mem_cons_of_mem _ hE)).2
    · exact ((Below.refl base w).grown hg hb (fun k e => by cases e; exact hbD)).trans hw1
    · intro k o hk ho
      refine hw2 k o ((hne k (fun e => ?_)).trans hk) ho
      subst e
      rw [hd] at hk; cases hk
      exact ho _ rfl
theorem post_marks {F : Fence} {n : Nat} {P : Program} {fn : Func} {tmps : Array Value} {R : Ending → World → Prop} {base : Nat} {ds : List Deferred} {w : World} (h : Marks base ds w) (hb : base ≤ w.heap.size) {v : Value}
    (hr : ∀ w', (results fn tmps).run P w' = .ok v w') (hR : ∀ w', Below base w w' → KeptAll w w' → R (.returned v) w') : bodyPostM F n P fn R .ret { tmps := tmps, defers := ds } w := by
  obtain ⟨Ds, rfl, h2, h3⟩ := h
  exact leaves_marks Ds w h2 h3 hb (fun w' h1 h2 => ⟨v, hr w', hR w' h1 h2⟩)
end Go.Proofs.Ytiephlhohgohcaa.PAll
namespace Go.Proofs.Ytiephlhohgohcaa.PAll
open Go.RowKit Go.Shelf Go.Proofs.YtiephlhohgohcaaW.PrintWords Go.Proofs.YtiephlhohgohcaaW.PrintLast Go.Proofs.YtiephlhohgohcaaW.PrintMore
set_option linter.unusedVariables false
section
variable {P : Program} {Q : Exit → Act → World → Prop} {l n : Nat}
theorem rows_in {row : String} {args : Array Value} {w : World} {R : Value → World → Prop} (h : Rows P row args w R) : RowsIn (Fence.wide.inRound l) n P row args w R := fun c cs _ => by
  obtain ⟨v, w', h1, h2⟩ := h c cs
  exact ⟨v, w', h1, stepsIn_wide.2 h2⟩
theorem oper_in {o : Oper} {a : Act} {w : World} {K : Act → World → Prop} (hd : ∀ c, o.op ≠ .defer c) (h : o.wp P a w K Q) : o.wpIn (Fence.wide.inRound l) n P a w K Q := by
  refine ⟨fun _ _ => trivial, ?_⟩
  rw [Oper.semAt_eq _ _ _ hd]
  unfold Oper.wp at h
  generalize (execOp a.eval o).run P w = r at h ⊢
  cases r with
  | ok x w' =>
    cases x <;> simp only [Oper.upon, Oper.uponIn] at h ⊢ <;>
      first
        | exact h
        | exact ⟨fun hh => (by cases hh), CallsIn.inRound l (callsIn_wide.2 h)⟩
        | exact ⟨fun hh => (by cases hh), rows_in h⟩
  | halt x w' => cases x <;> simp only [Oper.upon, Oper.uponIn] at h ⊢ <;> exact h
theorem op_in (hL : ¬ LetsOut Q) {ops : Array Oper} {i : Nat} {a : Act} {w : World} {K : Act → World → Prop} (hd : ∀ (i : Nat) (o : Oper), ops[i]? = some o → ∀ c, o.op ≠ .defer c) (h : wpOp P ops Q i K a w) : wpOpIn (Fence.wide.inRound l) n P ops Q i K a w := by
  unfold wpOp at h
  unfold wpOpIn
  cases ho : ops[i]? with
  | none => rw [ho] at h; exact h
  | some o =>
    rw [ho] at h
    dsimp only at h ⊢
    split
    · rename_i hw; rw [if_pos hw] at h; exact oper_in (hd i o ho) (h.resolve_right (fun x => hL x.2))
    · rename_i hw; rw [if_neg hw] at h; exact ⟨fun _ _ => trivial, h⟩
theorem any_in (hL : ¬ LetsOut Q) {md : Region.Mode} {ops : Array Oper} (hd : ∀ (i : Nat) (o : Oper), ops[i]? = some o → ∀ c, o.op ≠ .defer c) : ∀ (fuel : Nat) (listed : Array Bool) (a : Act) (w : World), wpAny P md ops Q fuel listed a w → wpAnyIn (Fence.wide.inRound l) n P md ops Q fuel listed a w
  | 0, _, _, _, h => h
  | fuel + 1, _, _, _, h => ⟨h.1, fun i hi => op_in hL hd (wpOp_mono (fun a' w' h' => any_in hL hd fuel _ a' w' h') (h.2 i hi))⟩
/-- The start of a region that draws its order, in a round. -/
theorem startIn_ (hL : ¬ LetsOut Q) {ops : Array Oper} {S : World → Prop} {ds : List Nat} {id m : Nat} {a : Act} {w : World} (lb : Array Bool) (hd : ops.all (fun o => match o.op with | .defer _ => false | _ => true) = true) (hm : P.follows .mixedOrders = true) (hn : ops.size = m) (hl : Array.replicate m false = lb) (hS : S w.drew)
    (h : S w.drew → wpAnyLast P .any ops Q S ds m lb a w.drew) : (Code.region id ops true).wpIn (Fence.wide.inRound l) n P Q a w := by
  subst hn
  subst hl
  refine wpIn_region_any hm (any_in hL (fun i o ho c e => ?_) _ _ _ _ (wpAny_of_last _ _ _ _ (h hS)))
  have hmem : o ∈ ops := Array.mem_of_getElem? ho
  have := Array.all_eq_true_iff_forall_mem.1 hd o hmem
  rw [e] at this
  cases this
end
end Go.Proofs.Ytiephlhohgohcaa.PAll
namespace Go.Proofs.Ytiephlhohgohcaa.PAll
open Go.RowKit Go.Shelf Go.Proofs.YtiephlhohgohcaaW.PrintWords Go.Proofs.YtiephlhohgohcaaW.PrintLast Go.Proofs.YtiephlhohgohcaaW.PrintMore
set_option linter.unusedVariables false
set_option linter.unusedSimpArgs false
theorem key194 : Maps.Keyed Try.prog 194 := Maps.Keyed.of_law (deep_law_laid (by kernel_rfl) (m := 5) (by decide) (Nat.le_of_ble_eq_true (by kernel_rfl)) (by kernel_rfl) (by kernel_rfl))
theorem keyT194 : Try.prog.keyType 194 = true := by kernel_rfl
theorem cells194 : Try.prog.cellsOf 194 = 2 := by kernel_rfl
theorem keyLits194 (m : Nat) (i k : Int) (hi : (Lit.int .i64 i).wf = true) (hk : (Lit.int .i64 k).wf = true) : Try.prog.keyLits (m + 2) 194 [.int .i64 i, .int .i64 k] = some [.int .i64 i, .int .i64 k] := by
  unfold Program.keyLits
  simp only [Try.underlying194, cells194]
  simp [cells3, keyLits3, hi, hk]
theorem keyOf194 (i k : Int) (hi : (Lit.int .i64 i).wf = true) (hk : (Lit.int .i64 k).wf = true) : ∃ kl, keyOf Try.prog 194 (.agg #[.int .i64 i, .int .i64 k]) = some kl := by
  obtain ⟨m, hm⟩ : ∃ m, Try.prog.types.size + 1 = m + 2 := ⟨Try.prog.types.size - 1, by have : 1 ≤ Try.prog.types.size := Nat.le_of_ble_eq_true (by kernel_rfl); omega⟩
  have hf : (Value.agg #[.int .i64 i, .int .i64 k]).formed Try.prog 194 = true := by simp only [Value.formed, Try.underlying194, cells194]; rfl
  refine ⟨.string (keyBytes [.int .i64 i, .int .i64 k]), ?_⟩
  rw [keyOf]
  simp only [Try.underlying194, keyT194, hf, Bool.and_self, if_true, hm]
  rw [show (Value.agg #[.int .i64 i, .int .i64 k]).cells.toList = [.int .i64 i, .int .i64 k] from rfl, keyLits194 m i k hi hk]
  rfl
/-- Block b is a map of at most n states: (i, k) is in it. -/
def DMap (W : World) (b n : Nat) (m : Int → Int → Bool) : Prop :=
  ∃ D : DataW Unit, W.ownsMap Try.prog 194 (plainElem Try.prog 4) b n D ∧ Maps.IsMap D ∧ ∀ i k kl, keyOf Try.prog 194 (.agg #[.int .i64 i, .int .i64 k]) = some kl → D.atKey kl (.lit (.bool false)) = .lit (.bool (m i k))
theorem DMap.made (W : World) : DMap (W.alloc (.map #[] 0)) W.heap.size 0 (fun _ _ => false) := ⟨.map [], World.ownsMap_made _ _ _ _, ⟨[], rfl⟩, fun _ _ _ _ => rfl⟩
theorem DMap.lt {W : World} {b n : Nat} {m : Int → Int → Bool} (h : DMap W b n m) : b < W.heap.size := by obtain ⟨D, h1, _⟩ := h; exact h1.lt
theorem DMap.eq {W W' : World} {b n : Nat} {m : Int → Int → Bool} (h : DMap W b n m) (e : W'.heap[b]? = W.heap[b]?) : DMap W' b n m := by
  obtain ⟨D, ⟨es, clock, h1, h2⟩, h3⟩ := h; exact ⟨D, ⟨es, clock, e.trans h1, h2⟩, h3⟩
theorem DMap.below {W W' : World} {b n : Nat} {m : Int → Int → Bool} (h : DMap W b n m) (hb : Below W.heap.size W W') : DMap W' b n m := h.eq (hb.block b h.lt)
theorem plainElem_bool_inv {v : Value} {y : Bool} {q : List MemPlace} (h : plainElem (H := Unit) Try.prog 4 v = some (.lit (.bool y), q)) : v = .bool y := by
  have hu := Try.underlying4
  unfold plainElem at h
  split at h
  · simp only [Option.some.injEq, Prod.mk.injEq, DataW.lit.injEq, Lit.bool.injEq] at h
    rw [h.1]
  · rename_i he; rw [hu] at he; cases he
  · rename_i he; rw [hu] at he; cases he
  · cases h
theorem DMap.lookup {W : World} {b n : Nat} {m : Int → Int → Bool} (h : DMap W b n m) {i k : Int} (hi : (Lit.int .i64 i).wf = true) (hk : (Lit.int .i64 k).wf = true) :
    (Instr.lookup 191 (.map (some b)) (.agg #[.int .i64 i, .int .i64 k]) false).run Try.prog W = .ok (.bool (m i k)) W := by
  obtain ⟨D, h1, _, h2⟩ := h
  obtain ⟨kl, hkl⟩ := keyOf194 i k hi hk
  obtain ⟨v, ps, hrun, hv⟩ := h1.lookup key194 Try.underlying191 (Try.zeroValue4 W) (zd := .lit (.bool false)) (zp := []) (plainElem_bool Try.underlying4 false) hkl
  rw [h2 i k kl hkl] at hv
  have he := plainElem_bool_inv hv
  rw [hrun, he]
theorem DMap.put {W : World} {b n : Nat} {m : Int → Int → Bool} {i k : Int} {kl : Lit} {D : DataW Unit} (hkl : keyOf Try.prog 194 (.agg #[.int .i64 i, .int .i64 k]) = some kl)
    (h2 : ∀ i k kl, keyOf Try.prog 194 (.agg #[.int .i64 i, .int .i64 k]) = some kl → D.atKey kl (.lit (.bool false)) = .lit (.bool (m i k))) (hD : Maps.IsMap D)
    (h1 : W.ownsMap Try.prog 194 (plainElem Try.prog 4) b n (D.put kl (.lit (.bool true)))) : DMap W b n (fun i' k' => if i' = i ∧ k' = k then true else m i' k') := by
  refine ⟨_, h1, hD.put _ _, fun i' k' kl' h' => ?_⟩
  by_cases e : kl' = kl
  · subst e
    have hinj := key194.inj h' hkl
    simp only [Value.agg.injEq, Array.mk.injEq, List.cons.injEq, Value.int.injEq, true_and, and_true] at hinj
    rw [Maps.atKey_put_same hD (key194.key hkl)]
    simp only [if_pos hinj]
  · have hne : ¬ (i' = i ∧ k' = k) := by
      rintro ⟨rfl, rfl⟩
      rw [hkl] at h'
      exact e (Option.some.inj h').symm
    rw [Maps.atKey_put_other e, h2 i' k' kl' h']
    simp only [if_neg hne]
end Go.Proofs.Ytiephlhohgohcaa.PAll
