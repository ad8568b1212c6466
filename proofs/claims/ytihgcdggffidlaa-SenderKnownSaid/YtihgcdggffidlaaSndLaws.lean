/-
  What is proved here: plain facts on senders (chapter 22). Conditions: none beyond each theorem's own. No program in sight.
-/
namespace Go.Proofs.Ytihgcdggffidlaa

structure Snd where
  win : Int
  res : Int
  ep : Int
  base : Int
  sent : Int
  top : Int
  since : Int

def sndOk (window resend epoch base : Int) : Prop := 1 ≤ window ∧ window ≤ 16 ∧ 1 ≤ resend ∧ resend ≤ 1048576 ∧ 1 ≤ epoch ∧ epoch ≤ 1099511627776 ∧ 0 ≤ base ∧ base ≤ 1099511627776
instance (a b c d : Int) : Decidable (sndOk a b c d) := by unfold sndOk; infer_instance
def sndNew (window resend epoch base : Int) : Snd := ⟨window, resend, epoch, base, base, base, 0⟩
def Snd.Ok (s : Snd) : Prop := 1 ≤ s.win ∧ s.win ≤ 16 ∧ 1 ≤ s.res ∧ s.res ≤ 1048576 ∧ 0 ≤ s.base ∧ s.base ≤ s.sent ∧ s.sent ≤ s.base + s.win ∧ s.sent ≤ s.top ∧ s.top ≤ 1099511627776 ∧ 0 ≤ s.since ∧ s.since ≤ 1099511627776
theorem new_ok {a b c d : Int} (h : sndOk a b c d) : (sndNew a b c d).Ok := by
  unfold sndOk at h; unfold sndNew Snd.Ok; dsimp only; omega

def Snd.head (s : Snd) (now : Int) : Int := if s.base < s.sent ∧ s.since + s.res ≤ now then s.base else s.sent
def Snd.upto (s : Snd) (next : Int) : Int := min next (s.base + s.win)
def sendOk (now next : Int) : Prop := 0 ≤ now ∧ now ≤ 1099511627776 ∧ next ≤ 1099511627776
instance (a b : Int) : Decidable (sendOk a b) := by unfold sendOk; infer_instance
def Snd.send (s : Snd) (now next : Int) : Snd :=
  if sendOk now next then
    (if s.head now < s.upto next then ⟨s.win, s.res, s.ep, s.base, s.upto next, max s.top next, now⟩ else ⟨s.win, s.res, s.ep, s.base, s.head now, max s.top next, s.since⟩)
  else s
def upList (a : Int) (n : Nat) : List Int := (List.range n).map (fun (i : Nat) => a + (i : Int))
def Snd.many (s : Snd) (now next : Int) : Nat := if sendOk now next then (s.upto next - s.head now).toNat else 0
def Snd.list (s : Snd) (now next : Int) : List Int := upList (s.head now) (s.many now next)
def ackOk (s : Snd) (now epoch next : Int) : Prop := 0 ≤ now ∧ now ≤ 1099511627776 ∧ epoch = s.ep ∧ s.base < next ∧ next ≤ s.top
instance (s : Snd) (a b c : Int) : Decidable (ackOk s a b c) := by unfold ackOk; infer_instance
def Snd.ack (s : Snd) (now epoch next : Int) : Snd := if ackOk s now epoch next then ⟨s.win, s.res, s.ep, next, max s.sent next, s.top, now⟩ else s

theorem upList_len (a : Int) (n : Nat) : (upList a n).length = n := by simp [upList]
theorem upList_get (a : Int) (n k : Nat) (h : k < n) : (upList a n).getD k 0 = a + k := by simp [upList, h]
theorem upList_succ (a : Int) (n : Nat) : upList a (n + 1) = upList a n ++ [a + n] := by simp [upList, List.range_succ]

theorem head_facts (s : Snd) (h : s.Ok) (now : Int) : s.base ≤ s.head now ∧ s.head now ≤ s.sent := by
  unfold Snd.Ok at h; unfold Snd.head; split <;> omega
theorem send_ok (s : Snd) (h : s.Ok) (now next : Int) : (s.send now next).Ok ∧ (s.send now next).base = s.base ∧ (s.send now next).win = s.win ∧ (s.send now next).res = s.res ∧ (s.send now next).ep = s.ep := by
  have hh := head_facts s h now
  unfold Snd.send
  split
  · next hs =>
    unfold sendOk at hs
    split
    · next hlt => unfold Snd.upto at hlt ⊢; unfold Snd.Ok at h ⊢; dsimp only; refine ⟨by omega, ?_⟩; simp
    · next hge => unfold Snd.upto at hge; unfold Snd.Ok at h ⊢; dsimp only; refine ⟨by omega, ?_⟩; simp
  · exact ⟨h, rfl, rfl, rfl, rfl⟩
theorem ack_ok (s : Snd) (h : s.Ok) (now ep next : Int) : (s.ack now ep next).Ok ∧ (s.ack now ep next).win = s.win ∧ (s.ack now ep next).res = s.res ∧ (s.ack now ep next).ep = s.ep := by
  unfold Snd.ack
  split
  · next hs => unfold ackOk at hs; unfold Snd.Ok at h ⊢; dsimp only; refine ⟨by omega, ?_⟩; simp
  · exact ⟨h, rfl, rfl, rfl⟩
theorem many_le (s : Snd) (h : s.Ok) (now next : Int) : (s.many now next : Int) ≤ s.win := by
  have hh := head_facts s h now
  unfold Snd.many
  split
  · unfold Snd.upto; unfold Snd.Ok at h; omega
  · unfold Snd.Ok at h; simp; omega
/-- what a Send's numbers are like. -/
theorem send_facts (s : Snd) (h : s.Ok) (now next : Int) (hm : 0 < s.many now next) :
    s.base ≤ s.head now ∧ s.head now ≤ s.sent ∧ s.head now + s.many now next ≤ next ∧ s.head now + s.many now next ≤ s.base + s.win ∧ (s.send now next).sent = s.head now + s.many now next := by
  have hh := head_facts s h now
  unfold Snd.many at hm ⊢
  unfold Snd.send
  by_cases hs : sendOk now next
  · rw [if_pos hs] at hm ⊢
    rw [if_pos hs, if_pos (by omega)]
    dsimp only
    unfold Snd.upto at hm ⊢
    omega
  · rw [if_neg hs] at hm; omega
theorem send_none (s : Snd) (h : s.Ok) (now next : Int) (hm : s.many now next = 0) : (s.send now next).sent ≤ s.sent := by
  have hh := head_facts s h now
  unfold Snd.many at hm
  unfold Snd.send
  by_cases hs : sendOk now next
  · rw [if_pos hs] at hm ⊢
    rw [if_neg (by omega)]
    exact hh.2
  · rw [if_neg hs]; omega
theorem send_top (s : Snd) (now next : Int) : (s.send now next).top = if sendOk now next then max s.top next else s.top := by
  unfold Snd.send; split <;> (try split) <;> rfl
/-- behind a Send at which all is sent again. -/
theorem send_again (s : Snd) (h : s.Ok) (now next : Int) (hn : sendOk now next) (hw : s.since + s.res ≤ now) :
    s.head now = s.base ∧ (s.many now next : Int) = max 0 (s.upto next - s.base) ∧ s.base + s.many now next ≤ max s.base next ∧ (s.send now next).top = max s.top next ∧ (s.send now next).since ≤ now := by
  have e : s.head now = s.base := by
    unfold Snd.head
    unfold Snd.Ok at h
    split <;> omega
  refine ⟨e, ?_, ?_, ?_, ?_⟩
  · unfold Snd.many; rw [if_pos hn, e]; omega
  · unfold Snd.many; rw [if_pos hn, e]; unfold Snd.upto; omega
  · rw [send_top, if_pos hn]
  · unfold Snd.send
    unfold Snd.Ok at h
    rw [if_pos hn]
    split
    · simp
    · dsimp only; omega
/-- a number that a receiver waits for, behind k of the numbers from a. -/
def waits (has a : Int) (k : Nat) : Int := max has (a + k)
theorem waits_zero {has a : Int} (h : a ≤ has) : waits has a 0 = has := by unfold waits; omega
theorem waits_yes {has a : Int} {k : Nat} (h : a + k = waits has a k) : waits has a k + 1 = waits has a (k + 1) := by unfold waits at h ⊢; omega
theorem waits_no {has a : Int} {k : Nat} (h : a + k ≠ waits has a k) : waits has a k = waits has a (k + 1) := by unfold waits at h ⊢; omega
theorem ack_all (s : Snd) (now ep has : Int) (h1 : 0 ≤ now) (h2 : now ≤ 1099511627776) (he : ep = s.ep) (hb : s.base ≤ has) (ht : has ≤ s.top) : (s.ack now ep has).base = has ∧ (s.ack now ep has).top = s.top ∧ ((s.ack now ep has).since = s.since ∨ (s.ack now ep has).since = now) := by
  unfold Snd.ack
  by_cases h : s.base < has
  · rw [if_pos ⟨h1, h2, he, h, ht⟩]; exact ⟨rfl, rfl, .inr rfl⟩
  · rw [if_neg (fun c => h c.2.2.2.1)]; exact ⟨by omega, rfl, .inl rfl⟩
theorem ack_some (s : Snd) (now ep has : Int) (hb : s.base ≤ has) : s.base ≤ (s.ack now ep has).base ∧ (s.ack now ep has).base ≤ has ∧ (s.ack now ep has).top = s.top ∧ ((s.ack now ep has).since = s.since ∨ (s.ack now ep has).since = now) := by
  unfold Snd.ack
  split
  · next h => unfold ackOk at h; exact ⟨by dsimp only; omega, by simp, rfl, .inr rfl⟩
  · exact ⟨by omega, by omega, rfl, .inl rfl⟩
/-- what is left behind a round. -/
theorem left_step {next base win has : Int} {m : Nat} (h : next - base ≤ (m + 1 : Nat) * win) (hh : min next (base + win) ≤ has) (hw : 0 ≤ win) : next - has ≤ m * win := by
  have e : ((m + 1 : Nat) : Int) * win = m * win + win := by rw [Int.natCast_add, Int.add_mul]; simp
  rw [e] at h
  have := Int.mul_nonneg (Int.natCast_nonneg m) hw
  omega
theorem rounds_enough {left win : Int} (h0 : 0 ≤ left) (hw : 1 ≤ win) : ∃ r : Nat, (left + win - 1) / win = r ∧ left ≤ r * win := by
  have h1 : 0 ≤ (left + win - 1) / win := Int.ediv_nonneg (by omega) (by omega)
  refine ⟨((left + win - 1) / win).toNat, by omega, ?_⟩
  rw [Int.toNat_of_nonneg h1]
  have := Int.lt_ediv_add_one_mul_self (left + win - 1) (show 0 < win by omega)
  rw [Int.add_mul] at this
  omega
end Go.Proofs.Ytihgcdggffidlaa
