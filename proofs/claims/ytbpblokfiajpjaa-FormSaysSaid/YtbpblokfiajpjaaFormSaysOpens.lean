/- The openings of a law that takes a head, a list of entries and a desk, beside its walk. No conditions. -/
import Derived.Test.YtbpblokfiajpjaaOpens
import Derived.Test.YtbpblokfiajpjaaFormSaysLaw
