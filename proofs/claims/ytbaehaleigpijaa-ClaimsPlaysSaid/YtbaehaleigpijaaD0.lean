/- The book's calls as plain functions of its state. -/
import Derived.Test.YtbaehaleigpijaaC9
import Derived.Test.YtbaehaleigpijaaCA
import Derived.Test.YtbaehaleigpijaaCB
namespace Go.Proofs.Ytbaehaleigpijaa
open Go.RowKit
set_option linter.unusedSimpArgs false
set_option linter.unusedVariables false

structure St where
  id : Int
  inc : Int
  wait : Int
  ttl : Int
  count : Int
  O : Value → Option (Int × Int)
  L : Value → Option (Int × Int)
  U : Value → Option Int
structure Pl where
  B : Nat
  m1 : Nat
  m2 : Nat
  m3 : Nat
/-- The blocks of a book. -/
def Pl.S (p : Pl) (k : Nat) : Prop := k = p.B ∨ k = p.m1 ∨ k = p.m2 ∨ k = p.m3
def BkS (w : World) (p : Pl) (s : St) : Prop := Bk w p.B p.m1 p.m2 p.m3 s.id s.inc s.wait s.ttl s.count s.O s.L s.U
def Pl.ptr (p : Pl) : Value := .pointer (some ⟨p.B, 0, none⟩)
/-- What holds of each book that was made, at ticks up to T. -/
structure Inv (s : St) (T : Int) : Prop where
  wait0 : 0 ≤ s.wait
  wait1 : s.wait ≤ 1000000
  ttl0 : 0 ≤ s.ttl
  ttl1 : s.ttl ≤ 1000000
  count0 : 0 ≤ s.count
  begins : ∀ x k b, s.O x = some (k, b) → 0 ≤ b ∧ b ≤ T

noncomputable def tryF (s : St) (D : Array Value) (now : Int) : Option (Array Value) × Bool × St :=
  match live s.U D now with
  | some _ => (none, false, s)
  | none => match s.O (.agg D) with
    | some o => (none, decide (o.2 + s.wait ≤ now), s)
    | none => (some (clm D s.id s.inc (s.count + 1) false), false, { s with count := s.count + 1, O := upd s.O (.agg D) (some (s.count + 1, now)) })
noncomputable def dropF (s : St) (D : Array Value) : Option (Array Value) × St :=
  match s.O (.agg D) with
  | none => (none, s)
  | some o => (some (clm D s.id s.inc o.1 true), { s with O := upd s.O (.agg D) none })
open Classical in
noncomputable def hearF (s : St) (D : Array Value) (n i c : Int) (g : Bool) (now : Int) : Option (Array Value) × Int × St :=
  if ¬ Fine s.id n i c then (none, 2, s) else
  if oldB s.L D n i c g = true then (none, 220, s) else
  if g = true then (none, 0, { s with L := upd s.L (plc D n) (some (i, c)), U := upd s.U (plc D n) none }) else
  match s.O (.agg D) with
  | none => (none, 0, { s with L := upd s.L (plc D n) (some (i, c)), U := upd s.U (plc D n) (some (now + s.ttl)) })
  | some o => if n < s.id ∧ now < o.2 + s.wait then (some (clm D s.id s.inc o.1 true), 0, { s with L := upd s.L (plc D n) (some (i, c)), U := upd s.U (plc D n) (some (now + s.ttl)), O := upd s.O (.agg D) none })
    else (none, 0, { s with L := upd s.L (plc D n) (some (i, c)), U := upd s.U (plc D n) (some (now + s.ttl)) })

theorem Sent.none {w w' : World} {v : Value} (h : v = .slice none 0 0) : Sent w w' v Option.none := h

theorem mine_ct {w : World} {p : Pl} {s : St} (h : BkS w p s) {D : Array Value} (hD : IsDig D) :
    Calls Try.prog 20 #[p.ptr, .agg D] w fun e w' => e = .returned (.bool (s.O (.agg D)).isSome) ∧ Kept (fun _ => False) w w' := mine_any h hD
theorem live_ct {w : World} {p : Pl} {s : St} (h : BkS w p s) {D : Array Value} (hD : IsDig D) (now : Int) :
    Calls Try.prog 18 #[p.ptr, .agg D, .int .i64 now] w fun e w' => e = .returned (liveV (live s.U D now)) ∧ Kept (fun _ => False) w w' :=
  live_any hD s.U now w (h.cell 5 _ rfl) (h.cell 7 _ rfl) h.u

theorem try_ct {w : World} {p : Pl} {s : St} (h : BkS w p s) {T : Int} (hi : Inv s T) (hT : T ≤ 4611686018427387904) {D : Array Value} (hD : IsDig D) (now : Int) (hc : s.count < 18446744073709551615) :
    Calls Try.prog 10 #[p.ptr, .agg D, .int .i64 now] w fun e w' => ∃ v, e = .returned (.tuple #[v, .bool (tryF s D now).2.1]) ∧ Sent w w' v (tryF s D now).1 ∧ Kept p.S w w' ∧ BkS w' p (tryF s D now).2.2 := by
  unfold tryF
  cases hl : live s.U D now with
  | some n =>
    refine (try_live h hD hl).mono fun e w' ⟨he, hk⟩ => ?_
    exact ⟨_, he, rfl, hk.mono (fun _ _ q => q.elim), h.kept hk⟩
  | none =>
    cases ho : s.O (.agg D) with
    | some o =>
      obtain ⟨k, b⟩ := o
      obtain ⟨h1, h2⟩ := hi.begins _ _ _ ho
      refine (try_has h hD hl ho ⟨h1, by omega⟩ ⟨hi.wait0, hi.wait1⟩).mono fun e w' ⟨he, hk⟩ => ?_
      exact ⟨_, he, rfl, hk.mono (fun _ _ q => q.elim), h.kept hk⟩
    | none =>
      refine (try_new h hD hl ho hi.count0 hc).mono fun e w' ⟨v, he, hs, hk, hB, hM⟩ => ?_
      refine ⟨v, he, hs, hk.mono (fun _ _ q => q.elim .inl (fun q => .inr (.inl q))), hB, hM.ext (put_map (ownV s.id s.inc) s.O (.agg D) (some (s.count + 1, now))), ?_, ?_, h.ne12, h.ne13, h.ne23⟩
      · exact h.l.kept hk (fun q => q.elim (fun e => h.ne2 e.symm) (fun e => h.ne12 e.symm))
      · exact h.u.kept hk (fun q => q.elim (fun e => h.ne3 e.symm) (fun e => h.ne13 e.symm))

theorem drop_ct {w : World} {p : Pl} {s : St} (h : BkS w p s) {D : Array Value} (hD : IsDig D) :
    Calls Try.prog 13 #[p.ptr, .agg D] w fun e w' => ∃ v, e = .returned v ∧ Sent w w' v (dropF s D).1 ∧ Kept p.S w w' ∧ BkS w' p (dropF s D).2 := by
  unfold dropF
  cases ho : s.O (.agg D) with
  | none =>
    refine (drop_none h hD ho).mono fun e w' ⟨he, hk⟩ => ?_
    exact ⟨_, he, rfl, hk.mono (fun _ _ q => q.elim), h.kept hk⟩
  | some o =>
    obtain ⟨k, b⟩ := o
    refine (drop_some h hD ho).mono fun e w' ⟨v, he, hs, hk, hM⟩ => ?_
    refine ⟨v, he, hs, hk.mono (fun _ _ q => .inr (.inl q)), ?_, hM.ext (put_map (ownV s.id s.inc) s.O (.agg D) none), h.l.kept hk h.ne12.symm, h.u.kept hk h.ne13.symm, h.ne12, h.ne13, h.ne23⟩
    rw [hk.block _ h.lt h.ne1]; exact h.blk

theorem hear_ct {w : World} {p : Pl} {s : St} (h : BkS w p s) {T : Int} (hi : Inv s T) (hT : T ≤ 4611686018427387904) {D : Array Value} (hD : IsDig D) (n i c : Int) (g : Bool) (now : Int) (hn0 : 0 ≤ now) (hn1 : now ≤ 4611686018427387904) :
    Calls Try.prog 15 #[p.ptr, .agg (clm D n i c g), .int .i64 now] w fun e w' => ∃ v, e = .returned (.tuple #[v, .int .i64 (hearF s D n i c g now).2.1]) ∧ Sent w w' v (hearF s D n i c g now).1 ∧ Kept p.S w w' ∧ BkS w' p (hearF s D n i c g now).2.2 := by
  unfold hearF
  have kB : ∀ {w'}, Kept (fun k => k = p.m2 ∨ k = p.m3) w w' → w'.heap[p.B]? = w.heap[p.B]? := fun hk => hk.block _ h.lt (fun q => q.elim h.ne2 h.ne3)
  have kO : ∀ {w'}, Kept (fun k => k = p.m2 ∨ k = p.m3) w w' → MapIs Try.prog 31 w' p.m1 (fun x => (s.O x).map (ownV s.id s.inc x)) := fun hk => h.o.kept hk (fun q => q.elim h.ne12 h.ne13)
  by_cases hf : Fine s.id n i c
  · rw [if_neg (by simpa using hf)]
    by_cases hol : oldB s.L D n i c g = true
    · rw [if_pos hol]
      refine (hear_old h hD hf hol).mono fun e w' ⟨he, hk⟩ => ?_
      exact ⟨_, he, rfl, hk.mono (fun _ _ q => q.elim), h.kept hk⟩
    · rw [if_neg hol]
      have hol' : oldB s.L D n i c g = false := by simpa using hol
      by_cases hg : g = true
      · rw [if_pos hg]
        refine (hear_gone h hD hf hg hol').mono fun e w' ⟨he, hk, hL, hU⟩ => ?_
        exact ⟨_, he, rfl, hk.mono (fun _ _ q => .inr (.inr q)), by rw [kB hk]; exact h.blk, kO hk, hL.ext (put_map (fun _ => serV) s.L (plc D n) (some (i, c))), hU.ext (put_map (fun _ => Value.int .i64) s.U (plc D n) none), h.ne12, h.ne13, h.ne23⟩
      · rw [if_neg hg]
        have hg' : g = false := by simpa using hg
        have hb : ∀ k b, s.O (.agg D) = some (k, b) → 0 ≤ b ∧ b ≤ 4611686018427387904 := fun k b q => ⟨(hi.begins _ _ _ q).1, by have := (hi.begins _ _ _ q).2; omega⟩
        have fin : ∀ {w'}, Kept (fun k => k = p.m2 ∨ k = p.m3) w w' → MapIs Try.prog 68 w' p.m2 (put (fun x => (s.L x).map serV) (plc D n) (some (serV (i, c)))) → MapIs Try.prog 68 w' p.m3 (put (fun x => (s.U x).map (Value.int .i64)) (plc D n) (some (.int .i64 (now + s.ttl)))) →
            BkS w' p { s with L := upd s.L (plc D n) (some (i, c)), U := upd s.U (plc D n) (some (now + s.ttl)) } := fun hk hL hU =>
          ⟨by rw [kB hk]; exact h.blk, kO hk, hL.ext (put_map (fun _ => serV) s.L (plc D n) (some (i, c))), hU.ext (put_map (fun _ => Value.int .i64) s.U (plc D n) (some (now + s.ttl))), h.ne12, h.ne13, h.ne23⟩
        cases ho : s.O (.agg D) with
        | none =>
          refine (hear_stay h hD hf hg' hol' hn0 hn1 hi.ttl0 hi.ttl1 hi.wait0 hi.wait1 hb (by unfold Hid; rw [ho]; trivial)).mono fun e w' ⟨he, hk, hL, hU⟩ => ?_
          exact ⟨_, he, rfl, hk.mono (fun _ _ q => .inr (.inr q)), fin hk hL hU⟩
        | some o =>
          obtain ⟨k, b⟩ := o
          by_cases hd : n < s.id ∧ now < b + s.wait
          · simp only [if_pos hd]
            refine (hear_drop h hD hf hg' hol' hn0 hn1 hi.ttl0 hi.ttl1 hi.wait0 hi.wait1 (hb _ _ ho) ho hd.1 hd.2).mono fun e w' ⟨v, he, hs, hk, hO, hL, hU⟩ => ?_
            refine ⟨v, he, hs, hk.mono (fun _ _ q => .inr q), ?_, hO.ext (put_map (ownV s.id s.inc) s.O (.agg D) none), hL.ext (put_map (fun _ => serV) s.L (plc D n) (some (i, c))), hU.ext (put_map (fun _ => Value.int .i64) s.U (plc D n) (some (now + s.ttl))), h.ne12, h.ne13, h.ne23⟩
            rw [hk.block _ h.lt (fun q => q.elim h.ne1 (fun q => q.elim h.ne2 h.ne3))]; exact h.blk
          · simp only [if_neg hd]
            refine (hear_stay h hD hf hg' hol' hn0 hn1 hi.ttl0 hi.ttl1 hi.wait0 hi.wait1 hb (by unfold Hid; rw [ho]; exact hd)).mono fun e w' ⟨he, hk, hL, hU⟩ => ?_
            exact ⟨_, he, rfl, hk.mono (fun _ _ q => .inr (.inr q)), fin hk hL hU⟩
  · rw [if_pos hf]
    refine (hear_bad h hD hf).mono fun e w' ⟨he, hk⟩ => ?_
    exact ⟨_, he, rfl, hk.mono (fun _ _ q => q.elim), h.kept hk⟩

def new0 (id inc wait ttl : Int) : St := ⟨id, inc, wait, ttl, 0, fun _ => none, fun _ => none, fun _ => none⟩
theorem new_ct (id inc wait ttl : Int) (w : World) (h : NewOk id inc wait ttl) :
    Calls Try.prog 7 #[.int .i64 id, .int .u64 inc, .int .i64 wait, .int .i64 ttl] w fun e w' => ∃ p : Pl, e = .returned p.ptr ∧ Kept (fun _ => False) w w' ∧ (∀ k, p.S k → w.heap.size ≤ k) ∧ BkS w' p (new0 id inc wait ttl) := by
  refine (new_good id inc wait ttl w h).mono fun e w' ⟨B, m1, m2, m3, he, hk, ⟨q1, q2, q3, q4⟩, hB⟩ => ?_
  exact ⟨⟨B, m1, m2, m3⟩, he, hk, (fun k hk => by rcases hk with rfl | rfl | rfl | rfl <;> assumption), hB⟩

/-! ### the invariant -/
theorem Inv.mono {s : St} {T T' : Int} (h : Inv s T) (ht : T ≤ T') : Inv s T' := ⟨h.wait0, h.wait1, h.ttl0, h.ttl1, h.count0, fun x k b q => ⟨(h.begins x k b q).1, Int.le_trans (h.begins x k b q).2 ht⟩⟩
theorem Inv.new {id inc wait ttl : Int} (h : NewOk id inc wait ttl) : Inv (new0 id inc wait ttl) 0 := ⟨h.2.2.1.1, h.2.2.1.2, h.2.2.2.1, h.2.2.2.2, Int.le_refl _, fun x k b q => by cases q⟩
theorem Inv.try_ {s : St} {T : Int} (h : Inv s T) (D : Array Value) {now : Int} (h0 : 0 ≤ now) (hT : T ≤ now) : Inv (tryF s D now).2.2 now ∧ (tryF s D now).2.2.count ≤ s.count + 1 := by
  unfold tryF
  cases live s.U D now with
  | some n => exact ⟨h.mono hT, by show s.count ≤ s.count + 1; omega⟩
  | none =>
    cases ho : s.O (.agg D) with
    | some o => exact ⟨h.mono hT, by show s.count ≤ s.count + 1; omega⟩
    | none =>
      refine ⟨⟨h.wait0, h.wait1, h.ttl0, h.ttl1, by have := h.count0; show 0 ≤ s.count + 1; omega, fun x k b q => ?_⟩, Int.le_refl _⟩
      have q : upd s.O (.agg D) (some (s.count + 1, now)) x = some (k, b) := q
      by_cases e : x = .agg D
      · subst e; rw [upd_same] at q; injection q with q; injection q with q1 q2; subst q2; exact ⟨h0, Int.le_refl _⟩
      · rw [upd_other _ _ _ e] at q; exact ⟨(h.begins x k b q).1, Int.le_trans (h.begins x k b q).2 hT⟩
theorem begins_del {s : St} {T : Int} (h : Inv s T) (y : Value) : ∀ x k b, upd s.O y none x = some (k, b) → 0 ≤ b ∧ b ≤ T := fun x k b q => by
  by_cases e : x = y
  · subst e; rw [upd_same] at q; cases q
  · rw [upd_other _ _ _ e] at q; exact h.begins x k b q
theorem Inv.drop {s : St} {T : Int} (h : Inv s T) (D : Array Value) : Inv (dropF s D).2 T ∧ (dropF s D).2.count = s.count := by
  unfold dropF
  cases s.O (.agg D) with
  | none => exact ⟨h, rfl⟩
  | some o => exact ⟨⟨h.wait0, h.wait1, h.ttl0, h.ttl1, h.count0, begins_del h _⟩, rfl⟩
theorem Inv.hear {s : St} {T : Int} (h : Inv s T) (D : Array Value) (n i c : Int) (g : Bool) (now : Int) : Inv (hearF s D n i c g now).2.2 T ∧ (hearF s D n i c g now).2.2.count = s.count := by
  unfold hearF
  split
  · exact ⟨h, rfl⟩
  · split
    · exact ⟨h, rfl⟩
    · split
      · exact ⟨⟨h.wait0, h.wait1, h.ttl0, h.ttl1, h.count0, h.begins⟩, rfl⟩
      · split
        · exact ⟨⟨h.wait0, h.wait1, h.ttl0, h.ttl1, h.count0, h.begins⟩, rfl⟩
        · split
          · exact ⟨⟨h.wait0, h.wait1, h.ttl0, h.ttl1, h.count0, begins_del h _⟩, rfl⟩
          · exact ⟨⟨h.wait0, h.wait1, h.ttl0, h.ttl1, h.count0, h.begins⟩, rfl⟩
end Go.Proofs.Ytbaehaleigpijaa
