/- The contracts of fetch, gather and free, joined. -/
import Derived.Test.YtdbhpiofbkhbeaaFetch
import Derived.Test.YtdbhpiofbkhbeaaGather
import Derived.Test.YtdbhpiofbkhbeaaFree
import Derived.Test.YtdbhpiofbkhbeaaTop
namespace Go.Proofs.Ytdbhpiofbkhbeaa

theorem gather_said : GatherSaid := fun base g p o n hn w peb out A C kept a b hG hB ha hb hne hbs =>
  gather_walk base g p o n hn (fun s hs k => fetch_walk base g p o n s hn hs k) w peb out A C kept a b hG hB ha hb hne hbs

theorem free_said : FreeSaid := fun n A cap es wo w hn1 hn hl hg he => free_walk gather_said n A cap es wo w hn1 hn hl hg he
end Go.Proofs.Ytdbhpiofbkhbeaa
