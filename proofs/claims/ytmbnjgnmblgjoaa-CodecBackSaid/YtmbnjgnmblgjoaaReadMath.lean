/- Reading tokens, entries, messages: what it comes to, over lists of bytes; that it undoes the writing, and that there is one way to write. Plain: no program's run. -/
import Derived.Test.YtmbnjgnmblgjoaaPutMsg
import Derived.Test.YtmbnjgnmblgjoaaFrameVb
namespace Go.Proofs.Ytmbnjgnmblgjoaa.Man
open Go.RowKit Go.Proofs.YtmbnjgnmblgjoaaW.PrintWords Go.Proofs.YtmbnjgnmblgjoaaW.PrintLast Go.Proofs.YtmbnjgnmblgjoaaW.PrintMore
set_option linter.unusedVariables false
set_option linter.unusedSimpArgs false

abbrev Rd (α : Type) := Except Int (α × List Int)
def bnd {α β : Type} (r : Rd α) (f : α → List Int → Rd β) : Rd β := match r with | .error e => .error e | .ok (a, l) => f a l
theorem bnd_ok {α β : Type} (a : α) (l : List Int) (f : α → List Int → Rd β) : bnd (.ok (a, l)) f = f a l := rfl
theorem bnd_err {α β : Type} (e : Int) (f : α → List Int → Rd β) : bnd (.error e : Rd α) f = .error e := rfl
theorem bnd_inv {α β : Type} {r : Rd α} {f : α → List Int → Rd β} {x : β × List Int} (h : bnd r f = .ok x) : ∃ a l, r = .ok (a, l) ∧ f a l = .ok x := by
  match r, h with
  | .ok (a, l), h => exact ⟨a, l, rfl, h⟩
def most : Int := 2147483647
/-- A number, at most so great. -/
def rnum (top : Int) (l : List Int) : Rd Int :=
  if (getL l 0 0).2.2 ≠ 0 then .error (getL l 0 0).2.2 else if top < ((getL l 0 0).1 : Int) then .error 4 else .ok (((getL l 0 0).1 : Int), l.drop (getL l 0 0).2.1)
theorem rnum_put (n : Nat) (top : Int) (r : List Int) (h : (n : Int) ≤ top) (h2 : n < 18446744073709551616) : rnum top (vb n ++ r) = .ok ((n : Int), r) := by
  have := getL_vb n 0 0 r (.inl rfl) (by omega) (by omega)
  have e : getL (vb n ++ r) 0 0 = (n, (vb n).length, 0) := by rw [this]; simp
  unfold rnum
  rw [e]
  simp only
  rw [if_neg (by simp), if_neg (by omega), List.drop_left]
theorem rnum_put' (x : Int) (top : Int) (r : List Int) (h0 : 0 ≤ x) (h : x ≤ top) (h2 : x < 18446744073709551616) : rnum top (vb x.toNat ++ r) = .ok (x, r) := by
  have := rnum_put x.toNat top r (by omega) (by omega)
  rwa [show ((x.toNat : Nat) : Int) = x by omega] at this
theorem rnum_inv {top : Int} {l : List Int} {n : Int} {r : List Int} (hB : areBytesN l = true) (h : rnum top l = .ok (n, r)) : 0 ≤ n ∧ n ≤ top ∧ l = vb n.toNat ++ r ∧ areBytesN r = true := by
  unfold rnum at h
  split at h
  · cases h
  rename_i h0
  split at h
  · cases h
  rename_i h1
  obtain ⟨⟨v, off, er⟩, hg⟩ : ∃ g, getL l 0 0 = g := ⟨_, rfl⟩
  rw [hg] at h h0 h1
  simp only at h h0 h1
  obtain rfl : er = 0 := by omega
  obtain ⟨v1, v2, v3, v4, v5⟩ := vb_of2 v off l hB hg
  simp only [Except.ok.injEq, Prod.mk.injEq] at h
  obtain ⟨rfl, rfl⟩ := h
  exact ⟨by omega, by omega, by rw [Int.toNat_natCast]; exact v4, areBytesN_drop hB _⟩

/-! ### Tokens -/
def rtok (l : List Int) : Rd K.S111 :=
  bnd (rnum most l) fun k l => if k % 4 = 0 then bnd (rnum most l) fun m l => .ok (⟨0, 0, k / 4, m⟩, l)
    else if k % 4 = 1 ∨ k % 4 = 3 then bnd (rnum most l) fun t l => .ok (⟨k % 4, t, k / 4, 0⟩, l) else .ok (⟨2, 0, k / 4, 0⟩, l)
def rtoks : Nat → List Int → Rd (List K.S111)
  | 0, l => .ok ([], l)
  | n + 1, l => bnd (rtok l) fun x l => bnd (rtoks n l) fun xs l => .ok (x :: xs, l)
def rdoc (l : List Int) : Rd (List K.S111) := bnd (rnum 2048 l) fun n l => rtoks n.toNat l
theorem rtok_put (x : K.S111) (r : List Int) (h : rightB x = true) : rtok (tokB x ++ r) = .ok (x, r) := by
  obtain ⟨k, t, n, m⟩ := x
  unfold rightB at h
  rw [decide_eq_true_eq] at h
  simp only at h
  unfold tokB rtok most
  simp only
  rcases h with ⟨rfl, rfl, h1, h2, h3, h4, h5⟩ | ⟨rfl, rfl, rfl, rfl⟩ | ⟨hk, h1, h2, h3, h4, rfl⟩
  · rw [if_pos rfl, List.append_assoc, rnum_put' _ _ _ (by omega) (by omega) (by omega), bnd_ok, if_pos (by omega), rnum_put' _ _ _ (by omega) (by omega) (by omega), bnd_ok]
    congr 4
    omega
  · rw [if_neg (by decide), if_neg (by decide), List.append_nil, rnum_put' _ _ _ (by omega) (by omega) (by omega), bnd_ok, if_neg (by omega), if_neg (by omega)]
    rfl
  · have e4 : (k + 4 * n) % 4 = k := by omega
    have e5 : (k + 4 * n) / 4 = n := by omega
    rw [if_neg (by omega), if_pos hk, List.append_assoc, rnum_put' _ _ _ (by omega) (by omega) (by omega), bnd_ok, if_neg (by omega), if_pos (by omega), rnum_put' _ _ _ (by omega) (by omega) (by omega), bnd_ok, e4, e5]
theorem rtok_inv {l : List Int} {x : K.S111} {r : List Int} (hB : areBytesN l = true) (h : rtok l = .ok (x, r)) : l = tokB x ++ r ∧ TokOk x ∧ areBytesN r = true := by
  unfold rtok most at h
  obtain ⟨k, l1, h1, h⟩ := bnd_inv h
  obtain ⟨k0, k1, e1, hB1⟩ := rnum_inv hB h1
  split at h
  · rename_i q
    obtain ⟨m, l2, h2, h⟩ := bnd_inv h
    obtain ⟨m0, m1, e2, hB2⟩ := rnum_inv hB1 h2
    simp only [Except.ok.injEq, Prod.mk.injEq] at h
    obtain ⟨rfl, rfl⟩ := h
    refine ⟨?_, ⟨by simp, by simp, by simp, by simp, by simp only; omega, by simp only; omega, by simp only; omega, by simp only; omega⟩, hB2⟩
    unfold tokB
    simp only
    rw [if_pos trivial, List.append_assoc, ← e2, show (0 + 4 * (k / 4)).toNat = k.toNat by omega]
    exact e1
  · split at h
    · rename_i q0 q
      obtain ⟨t, l2, h2, h⟩ := bnd_inv h
      obtain ⟨m0, m1, e2, hB2⟩ := rnum_inv hB1 h2
      simp only [Except.ok.injEq, Prod.mk.injEq] at h
      obtain ⟨rfl, rfl⟩ := h
      refine ⟨?_, ⟨by simp only; omega, by simp only; omega, by simp only; omega, by simp only; omega, by simp only; omega, by simp only; omega, by simp, by simp⟩, hB2⟩
      unfold tokB
      simp only
      rw [if_neg q0, if_pos q, List.append_assoc, ← e2, show (k % 4 + 4 * (k / 4)).toNat = k.toNat by omega]
      exact e1
    · rename_i q0 q
      simp only [Except.ok.injEq, Prod.mk.injEq] at h
      obtain ⟨rfl, rfl⟩ := h
      refine ⟨?_, ⟨by simp, by simp, by simp, by simp, by simp only; omega, by simp only; omega, by simp, by simp⟩, hB1⟩
      unfold tokB
      simp only
      rw [if_neg (by decide), if_neg (by decide), List.append_nil, show (2 + 4 * (k / 4)).toNat = k.toNat by omega]
      exact e1
theorem rtoks_put : ∀ (xs : List K.S111) (r : List Int), (∀ x ∈ xs, rightB x = true) → rtoks xs.length (xs.flatMap tokB ++ r) = .ok (xs, r)
  | [], r, _ => rfl
  | x :: xs, r, h => by
    rw [List.flatMap_cons, List.length_cons, rtoks, List.append_assoc, rtok_put x _ (h x List.mem_cons_self), bnd_ok, rtoks_put xs r (fun y hy => h y (List.mem_cons_of_mem _ hy)), bnd_ok]
theorem rtoks_inv : ∀ (n : Nat) {l : List Int} {xs : List K.S111} {r : List Int}, areBytesN l = true → rtoks n l = .ok (xs, r) → l = xs.flatMap tokB ++ r ∧ xs.length = n ∧ (∀ x ∈ xs, TokOk x) ∧ areBytesN r = true
  | 0, l, xs, r, hB, h => by
    simp only [rtoks, Except.ok.injEq, Prod.mk.injEq] at h
    obtain ⟨rfl, rfl⟩ := h
    exact ⟨rfl, rfl, (fun x hx => by cases hx), hB⟩
  | n + 1, l, xs, r, hB, h => by
    rw [rtoks] at h
    obtain ⟨x, l1, h1, h⟩ := bnd_inv h
    obtain ⟨e1, t1, hB1⟩ := rtok_inv hB h1
    obtain ⟨ys, l2, h2, h⟩ := bnd_inv h
    obtain ⟨e2, n2, t2, hB2⟩ := rtoks_inv n hB1 h2
    simp only [Except.ok.injEq, Prod.mk.injEq] at h
    obtain ⟨rfl, rfl⟩ := h
    refine ⟨by rw [List.flatMap_cons, List.append_assoc, ← e2]; exact e1, by rw [List.length_cons, n2], fun y hy => ?_, hB2⟩
    rcases List.mem_cons.1 hy with rfl | hy
    · exact t1
    · exact t2 y hy
theorem rdoc_put (xs : List K.S111) (r : List Int) (h : docE xs = 0) : rdoc (docB xs ++ r) = .ok (xs, r) := by
  obtain ⟨hl, hr⟩ := docE_zero h
  unfold rdoc docB
  rw [List.append_assoc, rnum_put _ _ _ (by omega) (by omega), bnd_ok, Int.toNat_natCast]
  exact rtoks_put xs r hr
theorem rdoc_inv {l : List Int} {xs : List K.S111} {r : List Int} (hB : areBytesN l = true) (h : rdoc l = .ok (xs, r)) : l = docB xs ++ r ∧ xs.length ≤ 2048 ∧ (∀ x ∈ xs, TokOk x) ∧ areBytesN r = true := by
  unfold rdoc at h
  obtain ⟨n, l1, h1, h⟩ := bnd_inv h
  obtain ⟨n0, n1, e1, hB1⟩ := rnum_inv hB h1
  obtain ⟨e2, n2, t2, hB2⟩ := rtoks_inv _ hB1 h
  refine ⟨by unfold docB; rw [n2, List.append_assoc, ← e2]; exact e1, by omega, t2, hB2⟩

/-! ### Entries -/
def rent (l : List Int) : Rd K.S26 :=
  bnd (rnum most l) fun who l => bnd (rnum most l) fun seq l => bnd (rnum 3 l) fun k l => bnd (rnum most l) fun f l => bnd (rnum most l) fun t l =>
    if k = 2 ∨ k = 3 then bnd (rnum most l) fun m l => .ok (⟨who, seq, ⟨k, f, t, 0, 0, 0, [], m⟩⟩, l)
    else if k = 1 then bnd (rnum most l) fun gf l => bnd (rnum most l) fun gt l => bnd (rnum most l) fun ins l => bnd (rdoc l) fun s l => .ok (⟨who, seq, ⟨k, f, t, gf, gt, ins, s, 0⟩⟩, l)
    else bnd (rdoc l) fun s l => .ok (⟨who, seq, ⟨k, f, t, 0, 0, 0, s, 0⟩⟩, l)
theorem vbs_cons (a : Int) (l : List Int) : vbs (a :: l) = vb a.toNat ++ vbs l := rfl
theorem vbs_nil' : vbs [] = [] := rfl
/-- What a written entry's step is like. -/
theorem entryE_kind {x : K.S26} (h : entryE x = 0) : docE x.f2.f6 = 0 ∧ ((x.f2.f0 = 1 ∧ x.f2.f7 = 0) ∨ (x.f2.f0 = 0 ∧ x.f2.f7 = 0 ∧ x.f2.f3 = 0 ∧ x.f2.f4 = 0 ∧ x.f2.f5 = 0) ∨ ((x.f2.f0 = 2 ∨ x.f2.f0 = 3) ∧ x.f2.f3 = 0 ∧ x.f2.f4 = 0 ∧ x.f2.f5 = 0 ∧ x.f2.f6 = [])) := by
  unfold entryE at h
  split at h
  · cases h
  unfold stepE at h
  split at h
  · cases h
  rename_i h2
  split at h
  case isFalse => cases h
  rename_i h3
  unfold stepOk at h3
  simp only [Bool.and_eq_true, decide_eq_true_eq] at h3
  obtain ⟨_, hk, ha⟩ := h3
  refine ⟨by unfold docE; rw [if_neg h2, if_pos ha], ?_⟩
  unfold kindOk gaps0 at hk
  split at hk
  · rename_i q
    rw [decide_eq_true_eq] at hk
    exact .inl ⟨q, hk.2.2.2.2.2⟩
  · split at hk
    · rename_i q
      simp only [Bool.and_eq_true, beq_iff_eq] at hk
      exact .inr (.inl ⟨q, hk.1, hk.2.1, hk.2.2.1, hk.2.2.2⟩)
    · split at hk
      · rename_i q
        simp only [Bool.and_eq_true, beq_iff_eq, decide_eq_true_eq] at hk
        exact .inr (.inr ⟨q, hk.2.2.2.1, hk.2.2.2.2.1, hk.2.2.2.2.2, List.eq_nil_of_length_eq_zero (by omega)⟩)
      · cases hk
theorem rent_put (x : K.S26) (r : List Int) (h : entryE x = 0) : rent (entryB x ++ r) = .ok (x, r) := by
  obtain ⟨hd, hk⟩ := entryE_kind h
  obtain ⟨h1, h2, h3, h4, h5, h6, h7, h8, h9, h10, h11⟩ := entryE_zero h
  obtain ⟨who, seq, ⟨k, f, t, gf, gt, ins, sl, m⟩⟩ := x
  simp only at h1 h2 h3 h4 h5 h6 h7 h8 h9 h10 h11 hd hk
  unfold rent entryB most
  simp only [vbs_cons, vbs_nil', List.append_nil, List.append_assoc]
  rw [rnum_put' _ _ _ h1.1 (by omega) (by omega), bnd_ok, rnum_put' _ _ _ h2.1 (by omega) (by omega), bnd_ok, rnum_put' _ _ _ h3.1 (by omega) (by omega), bnd_ok, rnum_put' _ _ _ h4.1 (by omega) (by omega), bnd_ok, rnum_put' _ _ _ h5.1 (by omega) (by omega), bnd_ok]
  rcases hk with ⟨rfl, rfl⟩ | ⟨rfl, rfl, rfl, rfl, rfl⟩ | ⟨hk, rfl, rfl, rfl, rfl⟩
  · rw [if_neg (by decide), if_pos rfl, if_neg (by decide), if_pos rfl]
    simp only [List.append_assoc]
    rw [rnum_put' _ _ _ h6.1 (by omega) (by omega), bnd_ok, rnum_put' _ _ _ h7.1 (by omega) (by omega), bnd_ok, rnum_put' _ _ _ h8.1 (by omega) (by omega), bnd_ok, rdoc_put _ _ hd, bnd_ok]
  · rw [if_neg (by decide), if_neg (by decide), if_neg (by decide), if_neg (by decide), rdoc_put _ _ hd, bnd_ok]
  · rw [if_pos hk, if_pos hk, rnum_put' _ _ _ h9.1 (by omega) (by omega), bnd_ok]
theorem rent_inv {l : List Int} {x : K.S26} {r : List Int} (hB : areBytesN l = true) (h : rent l = .ok (x, r)) : l = entryB x ++ r ∧ areBytesN r = true := by
  unfold rent most at h
  obtain ⟨who, l1, h1, h⟩ := bnd_inv h
  obtain ⟨a1, b1, e1, hB1⟩ := rnum_inv hB h1
  obtain ⟨seq, l2, h2, h⟩ := bnd_inv h
  obtain ⟨a2, b2, e2, hB2⟩ := rnum_inv hB1 h2
  obtain ⟨k, l3, h3, h⟩ := bnd_inv h
  obtain ⟨a3, b3, e3, hB3⟩ := rnum_inv hB2 h3
  obtain ⟨f, l4, h4, h⟩ := bnd_inv h
  obtain ⟨a4, b4, e4, hB4⟩ := rnum_inv hB3 h4
  obtain ⟨t, l5, h5, h⟩ := bnd_inv h
  obtain ⟨a5, b5, e5, hB5⟩ := rnum_inv hB4 h5
  unfold entryB
  split at h
  · rename_i q
    obtain ⟨m, l6, h6, h⟩ := bnd_inv h
    obtain ⟨a6, b6, e6, hB6⟩ := rnum_inv hB5 h6
    simp only [Except.ok.injEq, Prod.mk.injEq] at h
    obtain ⟨rfl, rfl⟩ := h
    refine ⟨?_, hB6⟩
    simp only [vbs_cons, vbs_nil', List.append_nil, List.append_assoc]
    rw [if_pos q, ← e6, ← e5, ← e4, ← e3, ← e2]
    exact e1
  · rename_i q
    split at h
    · rename_i q1
      obtain ⟨gf, l6, h6, h⟩ := bnd_inv h
      obtain ⟨a6, b6, e6, hB6⟩ := rnum_inv hB5 h6
      obtain ⟨gt, l7, h7, h⟩ := bnd_inv h
      obtain ⟨a7, b7, e7, hB7⟩ := rnum_inv hB6 h7
      obtain ⟨ins, l8, h8, h⟩ := bnd_inv h
      obtain ⟨a8, b8, e8, hB8⟩ := rnum_inv hB7 h8
      obtain ⟨s, l9, h9, h⟩ := bnd_inv h
      obtain ⟨e9, _, _, hB9⟩ := rdoc_inv hB8 h9
      simp only [Except.ok.injEq, Prod.mk.injEq] at h
      obtain ⟨rfl, rfl⟩ := h
      refine ⟨?_, hB9⟩
      simp only [vbs_cons, vbs_nil', List.append_nil, List.append_assoc]
      rw [if_neg q, if_pos q1]
      simp only [List.append_assoc]
      rw [← e9, ← e8, ← e7, ← e6, ← e5, ← e4, ← e3, ← e2]
      exact e1
    · rename_i q1
      obtain ⟨s, l9, h9, h⟩ := bnd_inv h
      obtain ⟨e9, _, _, hB9⟩ := rdoc_inv hB5 h9
      simp only [Except.ok.injEq, Prod.mk.injEq] at h
      obtain ⟨rfl, rfl⟩ := h
      refine ⟨?_, hB9⟩
      simp only [vbs_cons, vbs_nil', List.append_nil, List.append_assoc]
      rw [if_neg q, if_neg q1, ← e9, ← e5, ← e4, ← e3, ← e2]
      exact e1

/-! ### Messages -/
def rents : Nat → List Int → Rd (List K.S26)
  | 0, l => .ok ([], l)
  | n + 1, l => bnd (rent l) fun x l => bnd (rents n l) fun xs l => .ok (x :: xs, l)
def rmsg (l : List Int) : Rd MsgL :=
  bnd (rnum most l) fun k l => bnd (rnum most l) fun who l => bnd (rnum most l) fun ver l => bnd (rnum 1024 l) fun n l => bnd (rents n.toNat l) fun xs l => .ok (⟨k, who, ver, xs⟩, l)
theorem rents_put : ∀ (xs : List K.S26) (r : List Int), (∀ x ∈ xs, entryE x = 0) → rents xs.length (xs.flatMap entryB ++ r) = .ok (xs, r)
  | [], r, _ => rfl
  | x :: xs, r, h => by
    rw [List.flatMap_cons, List.length_cons, rents, List.append_assoc, rent_put x _ (h x List.mem_cons_self), bnd_ok, rents_put xs r (fun y hy => h y (List.mem_cons_of_mem _ hy)), bnd_ok]
theorem rents_inv : ∀ (n : Nat) {l : List Int} {xs : List K.S26} {r : List Int}, areBytesN l = true → rents n l = .ok (xs, r) → l = xs.flatMap entryB ++ r ∧ xs.length = n ∧ areBytesN r = true
  | 0, l, xs, r, hB, h => by
    simp only [rents, Except.ok.injEq, Prod.mk.injEq] at h
    obtain ⟨rfl, rfl⟩ := h
    exact ⟨rfl, rfl, hB⟩
  | n + 1, l, xs, r, hB, h => by
    rw [rents] at h
    obtain ⟨x, l1, h1, h⟩ := bnd_inv h
    obtain ⟨e1, hB1⟩ := rent_inv hB h1
    obtain ⟨ys, l2, h2, h⟩ := bnd_inv h
    obtain ⟨e2, n2, hB2⟩ := rents_inv n hB1 h2
    simp only [Except.ok.injEq, Prod.mk.injEq] at h
    obtain ⟨rfl, rfl⟩ := h
    exact ⟨by rw [List.flatMap_cons, List.append_assoc, ← e2]; exact e1, by rw [List.length_cons, n2], hB2⟩
theorem rmsg_put (m : MsgL) (r : List Int) (h : msgE m = 0) : rmsg (msgB m ++ r) = .ok (m, r) := by
  obtain ⟨b0, b1, b2, b3, b4, b5, b6, hok⟩ := msgE_zero h
  obtain ⟨k, who, ver, l⟩ := m
  simp only at b0 b1 b2 b3 b4 b5 b6 hok
  unfold rmsg msgB most
  simp only [vbs_cons, vbs_nil', List.append_nil, List.append_assoc]
  rw [rnum_put' _ _ _ b0 (by omega) (by omega), bnd_ok, rnum_put' _ _ _ b2 (by omega) (by omega), bnd_ok, rnum_put' _ _ _ b4 (by omega) (by omega), bnd_ok, Int.toNat_natCast, rnum_put _ _ _ (by omega) (by omega), bnd_ok, Int.toNat_natCast, rents_put l r hok, bnd_ok]
theorem rmsg_inv {l : List Int} {m : MsgL} {r : List Int} (hB : areBytesN l = true) (h : rmsg l = .ok (m, r)) : l = msgB m ++ r ∧ areBytesN r = true := by
  unfold rmsg most at h
  obtain ⟨k, l1, h1, h⟩ := bnd_inv h
  obtain ⟨a1, b1, e1, hB1⟩ := rnum_inv hB h1
  obtain ⟨who, l2, h2, h⟩ := bnd_inv h
  obtain ⟨a2, b2, e2, hB2⟩ := rnum_inv hB1 h2
  obtain ⟨ver, l3, h3, h⟩ := bnd_inv h
  obtain ⟨a3, b3, e3, hB3⟩ := rnum_inv hB2 h3
  obtain ⟨n, l4, h4, h⟩ := bnd_inv h
  obtain ⟨a4, b4, e4, hB4⟩ := rnum_inv hB3 h4
  obtain ⟨xs, l5, h5, h⟩ := bnd_inv h
  obtain ⟨e5, n5, hB5⟩ := rents_inv _ hB4 h5
  simp only [Except.ok.injEq, Prod.mk.injEq] at h
  obtain ⟨rfl, rfl⟩ := h
  refine ⟨?_, hB5⟩
  unfold msgB
  simp only [vbs_cons, vbs_nil', List.append_nil, List.append_assoc]
  rw [← e5, n5, show ((n.toNat : Nat) : Int) = n by omega, ← e4, ← e3, ← e2]
  exact e1

/-! ### All of the bytes -/
def allF {α : Type} (z : α) (ok : α → Int) (r : Rd α) : α × Int := match r with | .error e => (z, e) | .ok (x, r) => if 0 < r.length ∨ ok x ≠ 0 then (z, 4) else (x, 0)
def getDocF (b : List Int) : List K.S111 × Int := allF [] docE (rdoc b)
def getEntryF (b : List Int) : K.S26 × Int := allF K.z26 entryE (rent b)
def zMsg : MsgL := ⟨0, 0, 0, []⟩
def getMsgF (b : List Int) : MsgL × Int := allF zMsg msgE (rmsg b)
theorem allF_put {α : Type} (z : α) (ok : α → Int) {r : Rd α} {x : α} (h : r = .ok (x, [])) (hx : ok x = 0) : allF z ok r = (x, 0) := by
  subst h
  unfold allF
  simp only
  rw [if_neg (by simp [hx])]
theorem allF_inv {α : Type} {z : α} {ok : α → Int} {r : Rd α} {x : α} (he : ∀ e, r = .error e → e ≠ 0) (h : allF z ok r = (x, 0)) : r = .ok (x, []) ∧ ok x = 0 := by
  match r, he, h with
  | .error e, he, h => exact absurd (congrArg (fun p => p.2) h) (he e rfl)
  | .ok (y, l), _, h =>
    unfold allF at h
    simp only at h
    split at h
    · cases congrArg (fun p => p.2) h
    · rename_i q
      obtain rfl : y = x := congrArg (fun p => p.1) h
      have hl : l = [] := List.eq_nil_of_length_eq_zero (by omega)
      rw [hl]
      exact ⟨rfl, by omega⟩
theorem rnum_err {top : Int} {l : List Int} {e : Int} (h : rnum top l = .error e) : e ≠ 0 := by
  unfold rnum at h
  split at h
  · rename_i q
    simp only [Except.error.injEq] at h
    omega
  · split at h
    · simp only [Except.error.injEq] at h; omega
    · cases h
/-- Errors are none but those of numbers. -/
def ErrNz {α : Type} (r : Rd α) : Prop := ∀ e, r = .error e → e ≠ 0
theorem ErrNz.bnd {α β : Type} {r : Rd α} {f : α → List Int → Rd β} (h : ErrNz r) (hf : ∀ a l, ErrNz (f a l)) : ErrNz (bnd r f) := by
  match r, h with
  | .error e, h => intro e' he; exact h e' (by have := Except.error.inj he; rw [this])
  | .ok (a, l), _ => exact hf a l
theorem ErrNz.ok {α : Type} (x : α × List Int) : ErrNz (.ok x : Rd α) := fun e h => by cases h
theorem ErrNz.num (top : Int) (l : List Int) : ErrNz (rnum top l) := fun e h => rnum_err h
theorem ErrNz.tok (l : List Int) : ErrNz (rtok l) := by
  unfold rtok
  refine (ErrNz.num _ _).bnd fun k l => ?_
  split
  · exact (ErrNz.num _ _).bnd fun _ _ => .ok _
  · split
    · exact (ErrNz.num _ _).bnd fun _ _ => .ok _
    · exact .ok _
theorem ErrNz.toks : ∀ (n : Nat) (l : List Int), ErrNz (rtoks n l)
  | 0, l => .ok _
  | n + 1, l => (ErrNz.tok l).bnd fun _ l => (ErrNz.toks n l).bnd fun _ _ => .ok _
theorem ErrNz.doc (l : List Int) : ErrNz (rdoc l) := (ErrNz.num _ _).bnd fun n l => ErrNz.toks _ l
theorem ErrNz.ent (l : List Int) : ErrNz (rent l) := by
  unfold rent
  refine (ErrNz.num _ _).bnd fun _ _ => (ErrNz.num _ _).bnd fun _ _ => (ErrNz.num _ _).bnd fun _ _ => (ErrNz.num _ _).bnd fun _ _ => (ErrNz.num _ _).bnd fun _ _ => ?_
  split
  · exact (ErrNz.num _ _).bnd fun _ _ => .ok _
  · split
    · exact (ErrNz.num _ _).bnd fun _ _ => (ErrNz.num _ _).bnd fun _ _ => (ErrNz.num _ _).bnd fun _ _ => (ErrNz.doc _).bnd fun _ _ => .ok _
    · exact (ErrNz.doc _).bnd fun _ _ => .ok _
theorem ErrNz.ents : ∀ (n : Nat) (l : List Int), ErrNz (rents n l)
  | 0, l => .ok _
  | n + 1, l => (ErrNz.ent l).bnd fun _ l => (ErrNz.ents n l).bnd fun _ _ => .ok _
theorem ErrNz.msg (l : List Int) : ErrNz (rmsg l) :=
  (ErrNz.num _ _).bnd fun _ _ => (ErrNz.num _ _).bnd fun _ _ => (ErrNz.num _ _).bnd fun _ _ => (ErrNz.num _ _).bnd fun _ _ => (ErrNz.ents _ _).bnd fun _ _ => .ok _
theorem getDoc_put {l : List K.S111} (h : docE l = 0) : getDocF (docB l) = (l, 0) := allF_put _ _ (by have := rdoc_put l [] h; rwa [List.append_nil] at this) h
theorem getEntry_put {x : K.S26} (h : entryE x = 0) : getEntryF (entryB x) = (x, 0) := allF_put _ _ (by have := rent_put x [] h; rwa [List.append_nil] at this) h
theorem getMsg_put {m : MsgL} (h : msgE m = 0) : getMsgF (msgB m) = (m, 0) := allF_put _ _ (by have := rmsg_put m [] h; rwa [List.append_nil] at this) h
theorem getDoc_one {b : List Int} {l : List K.S111} (hB : areBytesN b = true) (h : getDocF b = (l, 0)) : docE l = 0 ∧ docB l = b := by
  obtain ⟨h1, h2⟩ := allF_inv (ErrNz.doc b) h
  have := (rdoc_inv hB h1).1
  rw [List.append_nil] at this
  exact ⟨h2, this.symm⟩
theorem getEntry_one {b : List Int} {x : K.S26} (hB : areBytesN b = true) (h : getEntryF b = (x, 0)) : entryE x = 0 ∧ entryB x = b := by
  obtain ⟨h1, h2⟩ := allF_inv (ErrNz.ent b) h
  have := (rent_inv hB h1).1
  rw [List.append_nil] at this
  exact ⟨h2, this.symm⟩
theorem getMsg_one {b : List Int} {m : MsgL} (hB : areBytesN b = true) (h : getMsgF b = (m, 0)) : msgE m = 0 ∧ msgB m = b := by
  obtain ⟨h1, h2⟩ := allF_inv (ErrNz.msg b) h
  have := (rmsg_inv hB h1).1
  rw [List.append_nil] at this
  exact ⟨h2, this.symm⟩
end Go.Proofs.Ytmbnjgnmblgjoaa.Man
