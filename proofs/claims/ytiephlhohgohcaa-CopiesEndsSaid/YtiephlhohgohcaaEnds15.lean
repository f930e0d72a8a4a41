/- Part 15 of what the row rests on: each text as it stands among the working texts, cut to what is used; those of the print of the kit as a program printed them. -/
import Derived.Test.YtiephlhohgohcaaEnds8
import Derived.Test.YtiephlhohgohcaaEnds13
import Derived.Laws.EntriesVeiled
set_option linter.unusedVariables false
set_option linter.unusedSimpArgs false
namespace Go.Proofs.Ytiephlhohgohcaa.PAll
open Go.RowKit Go.Proofs.YtiephlhohgohcaaW.PrintWords Go.Proofs.YtiephlhohgohcaaW.PrintLast Go.Proofs.YtiephlhohgohcaaW.PrintMore
attribute [local go_sem] max2_int min2_int max_two min_two max_three min_three max_four min_four
set_option linter.unusedVariables false
set_option linter.unusedSimpArgs false
theorem kd_append_plain {α : Type} (d : Kd α) {P : Program} {ops : Array Oper} {o : Oper} {a : Act} {Kc : Act → World → Prop} {Q : Exit → Act → World → Prop} {E : Prop} {w0 W : World} (base : Nat) (hgd : o.guard = none) (s x : Operand) (t e : TypeId) (z : Value) (bytes : Nat)
    (ho : o.op = .call { callee := .builtin .append, args := #[s, x], argTypes := #[t, t] })
    (ht : P.underlying t = some (.slice e)) (hinfo : (P.info? e).map (fun i => (i.zero, i.size, i.bytes)) = some (some z, d.sz, bytes)) (hz : z.cells.size = d.sz) (hs0 : 0 < d.sz)
    (v : Value) (xs : List α) (p : α) (cs : List Value) (hs : a.eval s = v) (hx : a.eval x = .slice (some ⟨W.heap.size, 0, none⟩) 1 1) (okp : Nat → Prop) (hp : d.M W base okp p cs) (hokp : ∀ k, okp k → some k ≠ v.ownBlock)
    (HO : d.R e W base (fun _ => True) v xs) (HB : Below base w0 W) (hbase : base ≤ W.heap.size) (hl : (xs.length + 1) * bytes ≤ 140737488355328) (h63 : xs.length + 1 ≤ maxLen)
    (h : ∀ g cap w1, d.R e w1 base (fun _ => True) (.slice (some ⟨g, 0, none⟩) (xs.length + 1) cap) (xs ++ [p]) → Below base w0 w1 → W.grownBy w1 v.ownBlock → Kc (a.put o.dst (.slice (some ⟨g, 0, none⟩) (xs.length + 1) cap)) w1) :
    if Region.wanted o (yielded ops a.tmps) = true then Oper.wp P o a (W.alloc (.cells cs.toArray e)) Kc Q else E := by
  obtain ⟨i0, hi, hzz⟩ := Option.map_eq_some_iff.1 hinfo
  simp only [Prod.mk.injEq] at hzz
  obtain ⟨hz0, hz1, hz2⟩ := hzz
  obtain ⟨h0, inner, hown, hr⟩ := HO
  have hlen := d.K_len (d.K_of_M hp)
  refine step_append_lies _ hgd s x t ho base e i0 z d.sz bytes ht hi hz0 hz1 hz2 hz hs0 v xs.length inner hs (hown.alloc (.cells cs.toArray e)) ⟨W.heap.size, 0, none⟩ 1 1 cs hx (by omega)
    (World.news_of_block (cs := cs.toArray) (t := e) (fr := (0, 0)) (heap_alloc_new W _)) (d.K_one (d.K_of_M hp)) (by omega) h63 hl (by simp; omega) _ rfl ?_
  intro g cap w1 hown1 hg hat hlt
  have hg' : W.grownBy w1 v.ownBlock := World.grownBy.trans (World.grownBy_alloc W (.cells cs.toArray e) v.ownBlock) hg
  refine h g cap w1 (Kd.R_appended h0 hr hp (fun k hk => ⟨trivial, hokp k hk⟩) (fun _ _ => trivial) hown1 hg' ?_) ?_ hg'
  · rcases hat with hat | hat
    · exact .inl (by rw [hat]; rfl)
    · exact .inr ⟨g, rfl, by rw [hat]; simp⟩
  · exact HB.grown hg' hbase (fun k hk => own_base hown k hk)
theorem R_row_ne {α : Type} {d : Kd α} {e : Nat} {w : World} {base : Nat} {ok : Nat → Prop} {v : Value} {xs : List α} (h : d.R e w base ok v xs) {k : Nat} {o : Obj} (hk : w.heap[k]? = some o) (ho : ∀ cs, o ≠ .cells cs e (0, 0)) : some k ≠ v.ownBlock := by
  intro e'
  obtain ⟨inner, own⟩ := Kd.R_own h
  obtain ⟨cells, hc⟩ := own_typed own k e'.symm
  rw [hk] at hc
  exact ho cells (Option.some.inj hc)
theorem WorkAt.grown {W W' : World} {g : Nat} {A0 : Option Addr} {c0 : Nat} {sends : List Int} {A1 : Option Addr} {c1 : Nat} {routes : List S122} {pat : Int} (h : WorkAt W g A0 c0 sends A1 c1 routes pat) {row : Option Nat} (hg : W.grownBy W' row) {e : Nat} (he : e ≠ 138 ∧ e ≠ 181) (hne : ∀ (k : Nat) (o : Obj), W.heap[k]? = some o → (∀ cs, o ≠ .cells cs e (0, 0)) → some k ≠ row) : WorkAt W' g A0 c0 sends A1 c1 routes pat := by
  obtain ⟨mb, n, m, h1, h2, h3⟩ := h
  refine ⟨mb, n, m, blk_grown h1 hg (hne _ _ h1 (fun cs e' => he.1 (by injection e' with _ e2 _; exact e2.symm))), ?_, fun i hi k hk => ?_⟩
  · obtain ⟨D, ⟨es, clock, h4, _⟩, _⟩ := id h2
    exact h2.kept hg (hne _ _ h4 (fun cs e' => by cases e'))
  · obtain ⟨s, h4, h5⟩ := h3 i hi k hk
    obtain ⟨cs, h6, _⟩ := id h5
    exact ⟨s, h4, h5.eq (hg.block s h5.lt (hne _ _ h6 (fun cs e' => he.2 (by injection e' with _ e2 _; exact e2.symm))))⟩
def spanAt (sends : List Int) (routes : List S122) (pat : Int) (i : Nat) : S68 := ⟨finF earlyL routes pat 0 (sends.take (i + 1)), finF lateL routes pat 0 (sends.take (i + 1))⟩
def spansL (sends : List Int) (routes : List S122) (pat : Int) (k : Nat) : List S68 := (List.range k).map (spanAt sends routes pat)
theorem spansL_succ (sends : List Int) (routes : List S122) (pat : Int) (k : Nat) : spansL sends routes pat (k + 1) = spansL sends routes pat k ++ [spanAt sends routes pat k] := by simp [spansL, List.range_succ]
theorem spansL_len (sends : List Int) (routes : List S122) (pat : Int) (k : Nat) : (spansL sends routes pat k).length = k := by simp [spansL]
/-- What Spans returns. -/
def spansRes (sends : List Int) (routes : List S122) (pat : Int) : List S68 × Int :=
  if check sends routes pat ≠ 0 then ([], check sends routes pat) else (spansL sends routes pat sends.length, 0)
set_option maxRecDepth 100000 in
set_option maxHeartbeats 4000000 in
theorem spans33 (A0 : Option Addr) (c0 : Nat) (sends : List Int) (A1 : Option Addr) (c1 : Nat) (routes : List S122) (pat : Int) (w : World)
    (h0 : Kd.C (Kd.int .i64) w A0 sends.length sends) (l0 : sends.length ≤ c0) (h1 : Kd.C k122 w A1 routes.length routes) (l1 : routes.length ≤ c1) :
    Calls Try.prog 33 #[.agg #[.slice A0 sends.length c0, .slice A1 routes.length c1, .int .i64 pat]] w fun e w' =>
      ∃ v, e = .returned (.tuple #[v, .int .i64 (spansRes sends routes pat).2]) ∧ Kd.R k68 68 w' w.heap.size (fun _ => True) v (spansRes sends routes pat).1 ∧ Below w.heap.size w w' := by
  have HR0 := Aside0.mk h0
  have HR1 := Aside0.mk h1
  have HL0 := Aside0.mk l0
  have HL1 := Aside0.mk l1
  obtain ⟨W1, hW1⟩ : ∃ W1, W1 = w.alloc (.cells #[.slice A0 sends.length c0, .slice A1 routes.length c1, .int .i64 pat] 34) := ⟨_, rfl⟩
  have hb1 : Below w.heap.size w W1 := hW1 ▸ (Below.refl _ w).alloc (Nat.le_refl _) _
  have HX := Aside0.mk (show W1.heap[w.heap.size]? = some (.cells #[.slice A0 sends.length c0, .slice A1 routes.length c1, .int .i64 pat] 34 (0, 0)) from by rw [hW1]; exact blk_new _ _)
  have HB := Aside0.mk hb1
  have HW1 := Aside0.mk hW1
  have g0 := Aside0.mk (Kd.C_below h0 hb1)
  have g1 := Aside0.mk (Kd.C_below h1 hb1)
  clear h0 h1 l0 l1 hW1 hb1
  have x0 : W1.cell? ⟨w.heap.size, 0, none⟩ = some (.slice A0 sends.length c0) := (blk_cell HX.out 0).trans rfl
  have x1 : W1.cell? ⟨w.heap.size, 1, none⟩ = some (.slice A1 routes.length c1) := (blk_cell HX.out 1).trans rfl
  have x2 : W1.cell? ⟨w.heap.size, 2, none⟩ = some (.int .i64 pat) := (blk_cell HX.out 2).trans rfl
  go_enter Try.func33, Try.ntmps33
  go_wp2_with fail
  rw [← HW1.out]
  clear HW1
  refine (checkPost_any A0 c0 sends A1 c1 routes pat W1 g0.out HL0.out g1.out HL1.out).mono ?_
  rintro e w2 ⟨rfl, hb⟩
  have HB2 := Aside0.mk (below_then HB.out HB.out.size hb)
  have HX2 := Aside0.mk (blk_below HX.out hb)
  have G0 := Aside0.mk (Kd.C_below g0.out hb)
  have G1 := Aside0.mk (Kd.C_below g1.out hb)
  clear hb x0 x1 x2 HX HB g0 g1
  have x0 : w2.cell? ⟨w.heap.size, 0, none⟩ = some (.slice A0 sends.length c0) := (blk_cell HX2.out 0).trans rfl
  have x1 : w2.cell? ⟨w.heap.size, 1, none⟩ = some (.slice A1 routes.length c1) := (blk_cell HX2.out 1).trans rfl
  have x2 : w2.cell? ⟨w.heap.size, 2, none⟩ = some (.int .i64 pat) := (blk_cell HX2.out 2).trans rfl
  by_cases hc : check sends routes pat = 0
  · have hcb : (check sends routes pat != (0 : Int)) = false := by rw [hc]; rfl
    have HC := Aside0.mk hc
    have V := Aside0.mk (valid_of hc)
    have hs4 := V.out.sn
    have hr3 := V.out.rn
    clear hc
    go_wp2_with fail
    refine (work78 A0 c0 sends A1 c1 routes pat w2 G0.out G1.out V.out.sn V.out.rn V.out.s0 (fun r hr => (V.out.ln r hr).2) (fun r hr l hl => V.out.leg hr hl)).mono ?_
    rintro e w3 ⟨g, rfl, hwk, hb⟩
    have HB3 := Aside0.mk (below_then HB2.out HB2.out.size hb)
    have HX3 := Aside0.mk (blk_below HX2.out hb)
    have HK3 := Aside0.mk hwk
    have HR03 := Aside0.mk (Kd.C_below G0.out hb)
    have HR13 := Aside0.mk (Kd.C_below G1.out hb)
    clear hb hwk x0 x1 x2 HX2 HB2 G0 G1
    have x0 : w3.cell? ⟨w.heap.size, 0, none⟩ = some (.slice A0 sends.length c0) := (blk_cell HX3.out 0).trans rfl
    obtain ⟨b6, hb6'⟩ : ∃ b6, b6 = w3.heap.size := ⟨_, rfl⟩
    obtain ⟨W6, hW6⟩ : ∃ W6, W6 = (w3.alloc (.cells #[.func (.func 81) #[] #[]] 148)).alloc (.cells #[.func (.func 82) #[] #[]] 148) := ⟨_, rfl⟩
    have hb6 : Below w3.heap.size w3 W6 := hW6 ▸ ((Below.refl _ w3).alloc (Nat.le_refl _) _).alloc (by simp) _
    have HF0 : Aside0 (W6.heap[b6]? = some (.cells #[.func (.func 81) #[] #[]] 148 (0, 0))) := ⟨by rw [hW6, hb6']; exact blk_alloc (blk_new _ _) _⟩
    have HF1 : Aside0 (W6.heap[b6 + 1]? = some (.cells #[.func (.func 82) #[] #[]] 148 (0, 0))) := ⟨by
      have h1 := blk_new (w3.alloc (.cells #[.func (.func 81) #[] #[]] 148)) (.cells #[.func (.func 82) #[] #[]] 148)
      rw [World.size_alloc] at h1
      rw [hW6, hb6']; exact h1⟩
    have HX6 := Aside0.mk (blk_below HX3.out hb6)
    have HK6 := Aside0.mk (HK3.out.below hb6)
    have HB6 := Aside0.mk (below_then HB3.out HB3.out.size hb6)
    have HR06 := Aside0.mk (Kd.C_below HR03.out hb6)
    have HR16 := Aside0.mk (Kd.C_below HR13.out hb6)
    have HLE := Aside0.mk (show w.heap.size ≤ b6 from hb6' ▸ HB3.out.size)
    have x6 : W6.cell? ⟨w.heap.size, 0, none⟩ = some (.slice A0 sends.length c0) := (blk_cell HX6.out 0).trans rfl
    have HW6 := Aside0.mk hW6
    have HB6' := Aside0.mk hb6'
    rw [hW6] at x6
    clear hb6 hb6' hW6 HX3 HK3 HB3 HR03 HR13
    go_wp2_with fail
    rw [← HW6.out, ← HB6'.out]
    clear x6
    go_loopg [8, 22] sends.length (fun gg s8 s22 wr => ∃ (i : Nat) (Av : Option Addr) (nv cv : Nat), i ≤ sends.length ∧ sends.length - i ≤ gg ∧ s22 = .int .i64 i ∧ s8 = .slice Av nv cv ∧ Aside0 (Kd.R k68 68 wr w.heap.size (fun _ => True) (.slice Av nv cv) (spansL sends routes pat i)) ∧
      Aside0 (wr.heap[b6]? = some (.cells #[.func (.func 81) #[] #[]] 148 (0, 0))) ∧ Aside0 (wr.heap[b6 + 1]? = some (.cells #[.func (.func 82) #[] #[]] 148 (0, 0))) ∧ Aside0 (WorkAt wr g A0 c0 sends A1 c1 routes pat) ∧ Aside0 (Below w.heap.size w wr))
    case atStart => exact ⟨0, none, 0, 0, by omega, by omega, rfl, rfl, ⟨Kd.R_nil _ _ _ _ _⟩, HF0, HF1, HK6, HB6⟩
    case round =>
      obtain ⟨i, Av, nv, cv, hi, hgi, rfl, rfl, HO, HF0r, HF1r, HKr, HBr⟩ := hrel
      clear HF0 HF1 HK6 HR06 HR16 HB6
      obtain ⟨wm, rfl⟩ : ∃ wm : World, wm = wr := ⟨_, rfl⟩
      by_cases hlt : i < sends.length
      · have hltz : (i : Int) < (sends.length : Int) := by omega
        have HC81 : Aside0 (∀ w', Below wm.heap.size wm w' → Calls Try.prog 83 #[.agg #[.func (.func 81) #[] #[]], .pointer (some ⟨g, 0, none⟩), .int .i64 (i : Int)] w' fun e w'' => e = .returned (.int .i64 (spanAt sends routes pat i).f0) ∧ Below w'.heap.size w' w'') :=
          ⟨fun w' hb => finish_81 g A0 c0 sends A1 c1 routes pat pat w' (Kd.C_below HR0.out (below_then HBr.out HBr.out.size hb)) HL0.out (Kd.C_below HR1.out (below_then HBr.out HBr.out.size hb)) HL1.out (HKr.out.below hb) V.out V.out.p0.1 V.out.p0.2 i hlt⟩
        have HC82 : Aside0 (∀ w', Below wm.heap.size wm w' → Calls Try.prog 83 #[.agg #[.func (.func 82) #[] #[]], .pointer (some ⟨g, 0, none⟩), .int .i64 (i : Int)] w' fun e w'' => e = .returned (.int .i64 (spanAt sends routes pat i).f1) ∧ Below w'.heap.size w' w'') :=
          ⟨fun w' hb => finish_82 g A0 c0 sends A1 c1 routes pat pat w' (Kd.C_below HR0.out (below_then HBr.out HBr.out.size hb)) HL0.out (Kd.C_below HR1.out (below_then HBr.out HBr.out.size hb)) HL1.out (HKr.out.below hb) V.out V.out.p0.1 V.out.p0.2 i hlt⟩
        have HSN := Aside0.mk (spansL_succ sends routes pat i)
        have HLN := Aside0.mk (spansL_len sends routes pat i)
        generalize spanAt sends routes pat i = z at HC81 HC82 HSN
        generalize spansL sends routes pat i = ys at HO HSN HLN
        have b0 : wm.cell? ⟨b6, 0, none⟩ = some (.func (.func 81) #[] #[]) := (blk_cell HF0r.out 0).trans rfl
        have b1 : wm.cell? ⟨b6 + 1, 0, none⟩ = some (.func (.func 82) #[] #[]) := (blk_cell HF1r.out 0).trans rfl
        have KEEP : Aside0 (∀ w', Below wm.heap.size wm w' → (w'.cell? ⟨b6, 0, none⟩ = some (.func (.func 81) #[] #[]) ∧ w'.cell? ⟨b6 + 1, 0, none⟩ = some (.func (.func 82) #[] #[]))) :=
          ⟨fun w' hb => ⟨pw_cell_below hb b0, pw_cell_below hb b1⟩⟩
        have KEEP2 : Aside0 (∀ w' : World, w'.heap[b6]? = some (.cells #[.func (.func 81) #[] #[]] 148 (0, 0)) → w'.heap[b6 + 1]? = some (.cells #[.func (.func 82) #[] #[]] 148 (0, 0)) → (w'.cell? ⟨b6, 0, none⟩ = some (.func (.func 81) #[] #[]) ∧ w'.cell? ⟨b6 + 1, 0, none⟩ = some (.func (.func 82) #[] #[]))) :=
          ⟨fun w' h1 h2 => ⟨(blk_cell h1 0).trans rfl, (blk_cell h2 0).trans rfl⟩⟩
        have hq0 : Aside0 (Below wm.heap.size wm wm.drew) := ⟨below_drew (Below.refl _ _)⟩
        go_wp2_with fail
        go_region_held3 (fun w' => w'.cell? ⟨b6, 0, none⟩ = some (.func (.func 81) #[] #[]) ∧ w'.cell? ⟨b6 + 1, 0, none⟩ = some (.func (.func 82) #[] #[]))
          (first
            | exact KEEP.out _ hq0.out
            | exact KEEP.out _ hq1.out
            | exact KEEP.out _ hq2.out
            | exact KEEP.out _ (hq2.out.alloc hq2.out.size _)
            | exact KEEP2.out _ HF0n.out HF1n.out)
          (first
            | (go_at_call 83; refine (HC81.out _ hq0.out).mono ?_; rintro e wa ⟨rfl, ha⟩; have hq1 := Aside0.mk (below_then hq0.out hq0.out.size ha); clear ha HC81)
            | (go_at_call 83; refine (HC82.out _ hq1.out).mono ?_; rintro e wb ⟨rfl, hb⟩; have hq2 := Aside0.mk (below_then hq1.out hq1.out.size hb); clear hb)
            | (refine kd_append_plain k68 (w0 := w) w.heap.size (by rfl) (.tmp 25) (.tmp 35) 57 68 (.agg #[.int .i64 0, .int .i64 0]) 16 (by rfl) Try.underlying57 info68 rfl (by decide) (.slice Av nv cv) ys z [.int .i64 z.f0, .int .i64 z.f1] (by rfl) (by rfl) (fun _ => False) (k68_mkM _ _ _ z) (fun _ hk => hk.elim) (Kd.R_below HO.out hq2.out) (below_then HBr.out HBr.out.size hq2.out) (Nat.le_trans HBr.out.size hq2.out.size) (by have := HLN.out; omega) (by have := HLN.out; unfold maxLen; omega) ?_; intro gg cap w6 hr6 hb6 hg6; have HR6 := Aside0.mk hr6; have HB6n := Aside0.mk hb6; have hgr := Aside0.mk hg6; have HF0n := Aside0.mk (blk_grown (blk_below HF0r.out hq2.out) hg6 (Kd.R_ne HO.out HF0r.out (by decide))); have HF1n := Aside0.mk (blk_grown (blk_below HF1r.out hq2.out) hg6 (Kd.R_ne HO.out HF1r.out (by decide))); have HKn := Aside0.mk ((HKr.out.below hq2.out).grown hg6 (e := 68) (by decide) (fun k o hk ho => R_row_ne (Kd.R_below HO.out hq2.out) hk ho)); clear hr6 hb6 hg6))
        go_wp2_with fail
        go_roundg (sends.length - (i + 1))
        case measure => omega
        case rel =>
          refine ⟨i + 1, _, _, _, by omega, by omega, by go_num, rfl, ⟨?_⟩, HF0n, HF1n, HKn, HB6n⟩
          rw [HSN.out]
          exact HR6.out
      · have hltz : ¬ (i : Int) < (sends.length : Int) := by omega
        have hii : i = sends.length := by omega
        have HQ := Aside0.mk (hii ▸ HO.out : Kd.R k68 68 wm w.heap.size (fun _ => True) (.slice Av nv cv) (spansL sends routes pat sends.length))
        clear hii
        go_wp2_with fail
        go_ret2
        rw [spansRes, if_neg (by rw [HC.out]; simp)]
        exact ⟨_, rfl, HQ.out, HBr.out⟩
  · have hcb : (check sends routes pat != (0 : Int)) = true := by simpa using hc
    have HC := Aside0.mk hc
    clear hc
    go_wp2_with fail
    go_ret2
    rw [spansRes, if_pos HC.out]
    exact ⟨_, rfl, Kd.R_nil _ _ _ _ _, HB2.out⟩
end Go.Proofs.Ytiephlhohgohcaa.PAll
namespace Go.Proofs.Ytiephlhohgohcaa.PAll
open Go.RowKit Go.Proofs.YtiephlhohgohcaaW.PrintWords Go.Proofs.YtiephlhohgohcaaW.PrintLast Go.Proofs.YtiephlhohgohcaaW.PrintMore
attribute [local go_sem] max2_int min2_int max_two min_two max_three min_three max_four min_four
set_option linter.unusedVariables false
set_option linter.unusedSimpArgs false
def sureB (sends : List Int) (routes : List S122) (pat : Int) (i : Nat) : Bool := decide (lateL routes (rd sends (i : Int)) ≤ rd sends (i : Int) + pat)
def sureL (sends : List Int) (routes : List S122) (pat : Int) (k : Nat) : List Int := ((List.range k).filter (sureB sends routes pat)).map (fun i : Nat => (i : Int))
theorem sureL_yes {sends : List Int} {routes : List S122} {pat : Int} {k : Nat} (h : sureB sends routes pat k = true) : sureL sends routes pat (k + 1) = sureL sends routes pat k ++ [(k : Int)] := by
  simp [sureL, List.range_succ, h]
theorem sureL_no {sends : List Int} {routes : List S122} {pat : Int} {k : Nat} (h : sureB sends routes pat k = false) : sureL sends routes pat (k + 1) = sureL sends routes pat k := by
  simp [sureL, List.range_succ, h]
theorem sureL_len (sends : List Int) (routes : List S122) (pat : Int) (k : Nat) : (sureL sends routes pat k).length ≤ k := by
  unfold sureL; rw [List.length_map]; exact Nat.le_trans (List.length_filter_le _ _) (by simp)
/-- What Surely returns. -/
def surelyRes (sends : List Int) (routes : List S122) (pat : Int) : List Int × Int :=
  if check sends routes pat ≠ 0 then ([], check sends routes pat) else (sureL sends routes pat sends.length, 0)
set_option maxRecDepth 100000 in
set_option maxHeartbeats 4000000 in
theorem surely34 (A0 : Option Addr) (c0 : Nat) (sends : List Int) (A1 : Option Addr) (c1 : Nat) (routes : List S122) (pat : Int) (w : World)
    (h0 : Kd.C (Kd.int .i64) w A0 sends.length sends) (l0 : sends.length ≤ c0) (h1 : Kd.C k122 w A1 routes.length routes) (l1 : routes.length ≤ c1) :
    Calls Try.prog 34 #[.agg #[.slice A0 sends.length c0, .slice A1 routes.length c1, .int .i64 pat]] w fun e w' =>
      ∃ v, e = .returned (.tuple #[v, .int .i64 (surelyRes sends routes pat).2]) ∧ Kd.R (Kd.int .i64) 3 w' w.heap.size (fun _ => True) v (surelyRes sends routes pat).1 ∧ Below w.heap.size w w' := by
  have HR0 := Aside0.mk h0
  have HR1 := Aside0.mk h1
  have HL0 := Aside0.mk l0
  have HL1 := Aside0.mk l1
  obtain ⟨W1, hW1⟩ : ∃ W1, W1 = w.alloc (.cells #[.slice A0 sends.length c0, .slice A1 routes.length c1, .int .i64 pat] 34) := ⟨_, rfl⟩
  have hb1 : Below w.heap.size w W1 := hW1 ▸ (Below.refl _ w).alloc (Nat.le_refl _) _
  have HX := Aside0.mk (show W1.heap[w.heap.size]? = some (.cells #[.slice A0 sends.length c0, .slice A1 routes.length c1, .int .i64 pat] 34 (0, 0)) from by rw [hW1]; exact blk_new _ _)
  have HB := Aside0.mk hb1
  have HW1 := Aside0.mk hW1
  have g0 := Aside0.mk (Kd.C_below h0 hb1)
  have g1 := Aside0.mk (Kd.C_below h1 hb1)
  clear h0 h1 l0 l1 hW1 hb1
  have x0 : W1.cell? ⟨w.heap.size, 0, none⟩ = some (.slice A0 sends.length c0) := (blk_cell HX.out 0).trans rfl
  have x1 : W1.cell? ⟨w.heap.size, 1, none⟩ = some (.slice A1 routes.length c1) := (blk_cell HX.out 1).trans rfl
  have x2 : W1.cell? ⟨w.heap.size, 2, none⟩ = some (.int .i64 pat) := (blk_cell HX.out 2).trans rfl
  go_enter Try.func34, Try.ntmps34
  go_wp2_with fail
  rw [← HW1.out]
  clear HW1
  refine (checkPost_any A0 c0 sends A1 c1 routes pat W1 g0.out HL0.out g1.out HL1.out).mono ?_
  rintro e w2 ⟨rfl, hb⟩
  have HB2 := Aside0.mk (below_then HB.out HB.out.size hb)
  have HX2 := Aside0.mk (blk_below HX.out hb)
  have G0 := Aside0.mk (Kd.C_below g0.out hb)
  have G1 := Aside0.mk (Kd.C_below g1.out hb)
  clear hb x0 x1 x2 HX HB g0 g1
  have x0 : w2.cell? ⟨w.heap.size, 0, none⟩ = some (.slice A0 sends.length c0) := (blk_cell HX2.out 0).trans rfl
  have x1 : w2.cell? ⟨w.heap.size, 1, none⟩ = some (.slice A1 routes.length c1) := (blk_cell HX2.out 1).trans rfl
  have x2 : w2.cell? ⟨w.heap.size, 2, none⟩ = some (.int .i64 pat) := (blk_cell HX2.out 2).trans rfl
  by_cases hc : check sends routes pat = 0
  · have hcb : (check sends routes pat != (0 : Int)) = false := by rw [hc]; rfl
    have HC := Aside0.mk hc
    have V := Aside0.mk (valid_of hc)
    have hs4 := V.out.sn
    have hr3 := V.out.rn
    clear hc
    go_wp2_with fail
    refine (work78 A0 c0 sends A1 c1 routes pat w2 G0.out G1.out V.out.sn V.out.rn V.out.s0 (fun r hr => (V.out.ln r hr).2) (fun r hr l hl => V.out.leg hr hl)).mono ?_
    rintro e w3 ⟨g, rfl, hwk, hb⟩
    have HB3 := Aside0.mk (below_then HB2.out HB2.out.size hb)
    have HX3 := Aside0.mk (blk_below HX2.out hb)
    have HK3 := Aside0.mk hwk
    have HR03 := Aside0.mk (Kd.C_below G0.out hb)
    have HR13 := Aside0.mk (Kd.C_below G1.out hb)
    clear hb hwk x0 x1 x2 HX2 HB2 G0 G1
    have x0 : w3.cell? ⟨w.heap.size, 0, none⟩ = some (.slice A0 sends.length c0) := (blk_cell HX3.out 0).trans rfl
    have HMB : Aside0 (∃ mb, w3.heap[g]? = some (.cells #[.slice A0 sends.length c0, .slice A1 routes.length c1, .int .i64 pat, .map (some mb)] 138 (0, 0))) := ⟨by obtain ⟨mb, _, _, hg, _⟩ := HK3.out; exact ⟨mb, hg⟩⟩
    obtain ⟨mb, hg⟩ := HMB.out
    have HG3 := Aside0.mk hg
    clear hg HMB
    go_wp2_with fail
    clear x0
    go_loopg [6, 18] sends.length (fun gg s6 s18 wr => ∃ (i : Nat) (Av : Option Addr) (nv cv : Nat), i ≤ sends.length ∧ sends.length - i ≤ gg ∧ s18 = .int .i64 i ∧ s6 = .slice Av nv cv ∧ Aside0 (Kd.R (Kd.int .i64) 3 wr w.heap.size (fun _ => True) (.slice Av nv cv) (sureL sends routes pat i)) ∧
      Aside0 (wr.heap[g]? = some (.cells #[.slice A0 sends.length c0, .slice A1 routes.length c1, .int .i64 pat, .map (some mb)] 138 (0, 0))) ∧ Aside0 (WorkAt wr g A0 c0 sends A1 c1 routes pat) ∧ Aside0 (Below w.heap.size w wr))
    case atStart => exact ⟨0, none, 0, 0, by omega, by omega, rfl, rfl, ⟨Kd.R_nil _ _ _ _ _⟩, HG3, HK3, HB3⟩
    case round =>
      obtain ⟨i, Av, nv, cv, hi, hgi, rfl, rfl, HO, HGr, HKr, HBr⟩ := hrel
      clear HG3 HK3 HB3 HX3
      obtain ⟨wm, rfl⟩ : ∃ wm : World, wm = wr := ⟨_, rfl⟩
      by_cases hlt : i < sends.length
      · have hltz : (i : Int) < (sends.length : Int) := by omega
        have hx : rd sends (i : Int) = sends[i] := by unfold rd; rw [Int.toNat_natCast, rd_in _ _ _ hlt]
        have hs0 := V.out.s0 _ (List.getElem_mem hlt)
        have hp0 := V.out.p0
        have HC82 : Aside0 (∀ w', Below wm.heap.size wm w' → Calls Try.prog 82 #[.pointer (some ⟨g, 0, none⟩), .int .i64 (i : Int)] w' fun e w'' => e = .returned (.int .i64 (lateL routes sends[i])) ∧ Below w'.heap.size w' w'') :=
          ⟨fun w' hb => latest82 g A0 c0 sends A1 c1 routes pat pat w' (Kd.C_below HR1.out (below_then HBr.out HBr.out.size hb)) (HKr.out.below hb) V.out i hlt⟩
        have HC84 : Aside0 (∀ w', Below wm.heap.size wm w' → Calls Try.prog 84 #[.agg #[.slice A0 sends.length c0, .slice A1 routes.length c1, .int .i64 pat], .int .i64 (i : Int)] w' fun e w'' => e = .returned (.int .i64 (sends[i] + pat)) ∧ Below w'.heap.size w' w'') := ⟨fun w' hb => by
          have hbb := below_then HBr.out HBr.out.size hb
          have h1 := deadline84 A0 c0 sends A1 c1 routes pat (i : Int) w' (Kd.C_below HR0.out hbb) HL0.out (Kd.C_below HR1.out hbb) HL1.out (by omega) (by omega)
          rw [show wrap64 (rd sends (i : Int) + pat) = sends[i] + pat by rw [hx]; unfold wrap64; omega] at h1
          exact h1⟩
        have HSB := Aside0.mk (show sureB sends routes pat i = decide (lateL routes sends[i] ≤ sends[i] + pat) by rw [sureB, hx])
        have hlen := sureL_len sends routes pat i
        have HLN : Aside0 ((sureL sends routes pat i).length ≤ 4) := ⟨by omega⟩
        clear hx hs0 hp0 hlen
        generalize lateL routes sends[i] = F at HC82 HSB
        generalize sends[i] + pat = D at HC84 HSB
        have q0 : wm.cell? ⟨g, 0, none⟩ = some (.slice A0 sends.length c0) := (blk_cell HGr.out 0).trans rfl
        have q1 : wm.cell? ⟨g, 1, none⟩ = some (.slice A1 routes.length c1) := (blk_cell HGr.out 1).trans rfl
        have q2 : wm.cell? ⟨g, 2, none⟩ = some (.int .i64 pat) := (blk_cell HGr.out 2).trans rfl
        have KEEP : Aside0 (∀ w', Below wm.heap.size wm w' → (w'.cell? ⟨g, 0, none⟩ = some (.slice A0 sends.length c0) ∧ w'.cell? ⟨g, 1, none⟩ = some (.slice A1 routes.length c1) ∧ w'.cell? ⟨g, 2, none⟩ = some (.int .i64 pat))) :=
          ⟨fun w' hb => ⟨pw_cell_below hb q0, pw_cell_below hb q1, pw_cell_below hb q2⟩⟩
        have hq0 : Aside0 (Below wm.heap.size wm wm.drew) := ⟨below_drew (Below.refl _ _)⟩
        by_cases ht : F ≤ D
        · have HY := Aside0.mk (sureL_yes (HSB.out.trans (by simpa using ht)))
          go_wp2_with fail
          go_region_held3 (fun w' => w'.cell? ⟨g, 0, none⟩ = some (.slice A0 sends.length c0) ∧ w'.cell? ⟨g, 1, none⟩ = some (.slice A1 routes.length c1) ∧ w'.cell? ⟨g, 2, none⟩ = some (.int .i64 pat))
            (first
              | exact KEEP.out _ hq0.out
              | exact KEEP.out _ hq1.out
              | exact KEEP.out _ hq2.out)
            (first
              | (go_at_call 82; refine (HC82.out _ hq0.out).mono ?_; rintro e wa ⟨rfl, ha⟩; have hq1 := Aside0.mk (below_then hq0.out hq0.out.size ha); clear ha HC82)
              | (go_at_call 84; refine (HC84.out _ hq1.out).mono ?_; rintro e wb ⟨rfl, hb⟩; have hq2 := Aside0.mk (below_then hq1.out hq1.out.size hb); clear hb))
          have HOb := Aside0.mk (Kd.R_below HO.out hq2.out)
          have HBb := Aside0.mk (below_then HBr.out HBr.out.size hq2.out)
          have HGb := Aside0.mk (blk_below HGr.out hq2.out)
          have HKb := Aside0.mk (HKr.out.below hq2.out)
          have hln := HLN.out
          go_wp2_with (at_builtin; refine Kd.R_append (Kd.int .i64) (w0 := w) w.heap.size rfl (.tmp 31) (.tmp 33) 22 3 (.int .i64 0) 8 rfl Try.underlying22 info3 rfl (by decide) (by omega) (.slice Av nv cv) (sureL sends routes pat i) (i : Int) [.int .i64 (i : Int)] (fun _ => True) (fun _ => False) rfl rfl rfl (fun _ hk => hk.elim) (fun _ _ => trivial) HOb.out HBb.out HBb.out.size (by omega) ?_; intro v9 w9 hr9 hb9 hg9 hat9; obtain ⟨A10, c10, rfl⟩ := Kd.R_slice hr9; have HR9 := Aside0.mk hr9; have HB9 := Aside0.mk hb9; have HG9 := Aside0.mk (blk_grown HGb.out hg9 (Kd.R_ne HOb.out HGb.out (by decide))); have HK9 := Aside0.mk (HKb.out.grown hg9 (e := 3) (by decide) (fun k o hk ho => R_row_ne HOb.out hk ho)); clear hr9 hb9 hg9 hat9)
          go_roundg (sends.length - (i + 1))
          case measure => omega
          case rel =>
            refine ⟨i + 1, _, _, _, by omega, by omega, by go_num, rfl, ⟨?_⟩, HG9, HK9, HB9⟩
            have hfin := HR9.out
            rw [List.length_append, List.length_singleton] at hfin
            rw [HY.out]
            exact hfin
        · have HY := Aside0.mk (sureL_no (HSB.out.trans (by simpa using ht)))
          go_wp2_with fail
          go_region_held3 (fun w' => w'.cell? ⟨g, 0, none⟩ = some (.slice A0 sends.length c0) ∧ w'.cell? ⟨g, 1, none⟩ = some (.slice A1 routes.length c1) ∧ w'.cell? ⟨g, 2, none⟩ = some (.int .i64 pat))
            (first
              | exact KEEP.out _ hq0.out
              | exact KEEP.out _ hq1.out
              | exact KEEP.out _ hq2.out)
            (first
              | (go_at_call 82; refine (HC82.out _ hq0.out).mono ?_; rintro e wa ⟨rfl, ha⟩; have hq1 := Aside0.mk (below_then hq0.out hq0.out.size ha); clear ha HC82)
              | (go_at_call 84; refine (HC84.out _ hq1.out).mono ?_; rintro e wb ⟨rfl, hb⟩; have hq2 := Aside0.mk (below_then hq1.out hq1.out.size hb); clear hb))
          go_wp2_with fail
          go_roundg (sends.length - (i + 1))
          case measure => omega
          case rel =>
            refine ⟨i + 1, Av, nv, cv, by omega, by omega, by go_num, rfl, ⟨?_⟩, ⟨blk_below HGr.out hq2.out⟩, ⟨HKr.out.below hq2.out⟩, ⟨below_then HBr.out HBr.out.size hq2.out⟩⟩
            rw [HY.out]
            exact Kd.R_below HO.out hq2.out
      · have hltz : ¬ (i : Int) < (sends.length : Int) := by omega
        have hii : i = sends.length := by omega
        have HQ := Aside0.mk (hii ▸ HO.out : Kd.R (Kd.int .i64) 3 wm w.heap.size (fun _ => True) (.slice Av nv cv) (sureL sends routes pat sends.length))
        clear hii
        go_wp2_with fail
        go_ret2
        rw [surelyRes, if_neg (by rw [HC.out]; simp)]
        exact ⟨_, rfl, HQ.out, HBr.out⟩
  · have hcb : (check sends routes pat != (0 : Int)) = true := by simpa using hc
    have HC := Aside0.mk hc
    clear hc
    go_wp2_with fail
    go_ret2
    rw [surelyRes, if_pos HC.out]
    exact ⟨_, rfl, Kd.R_nil _ _ _ _ _, HB2.out⟩
end Go.Proofs.Ytiephlhohgohcaa.PAll
